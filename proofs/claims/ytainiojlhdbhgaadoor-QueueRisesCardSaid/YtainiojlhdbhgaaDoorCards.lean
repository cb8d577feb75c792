/-
  DERIVED. GIVEN WITH THE SEED: THE CARDS: each row of YtainiojlhdbhgaaDoorRows.lean that lists a variable, with what it lists TIED to the program's text (the seventh form; the later family's looks); each row that meets fmt, with fmt's text TOLD by the authors' own Lean function (tested against real Go, not proved from fmt's source: count such statements apart). THE CARD IS WHAT COUNTS. Prove the row's statement (the work); the ties are given (YtainiojlhdbhgaaDoorTie.lean); close each card by the builder's one call (the guide's Derived/Test/ToyasCard.lean, 'card_holds'). Laid BY PROGRAM, IN A SANDBOX (cutbox-door.mjs). By AI agents, Wed Nov 11 2026. No macro, syntax, notation, axiom, sorry.
-/
import Derived.Test.YtainiojlhdbhgaaDoorRows
import GoSem.ClaimSeven
namespace Go.Proofs.YtainiojlhdbhgaaDoor
namespace Rows

/-- THE TIED CARD OF 'concordlaw04.QueueFull'. -/
def queueFullCard : Claim7 := { stood := { row := queueFullRow, standIns := [], harness := (true, "3e0d7d7ced8e4535d935ad7380a8b11e23d957c44861d3ac02c95c2dbf1530f8"), looks := true }, kinds := [], alts := [], laidByText := true, laidKinds := [.handle], laidTests := true, laidLooks := .later }
def QueueFullCardSaid : Prop := Claim7.holds Tryd.pinned (.plain (OpenSpec.ofChange queueFullSpec)) queueFullCard

/-- THE TIED CARD OF 'concordlaw04.QueueRises'. -/
def queueRisesCard : Claim7 := { stood := { row := queueRisesRow, standIns := [], harness := (true, "3e0d7d7ced8e4535d935ad7380a8b11e23d957c44861d3ac02c95c2dbf1530f8"), looks := true }, kinds := [], alts := [], laidByText := true, laidKinds := [.handle], laidTests := true, laidLooks := .later }
def QueueRisesCardSaid : Prop := Claim7.holds Tryd.pinned (.plain (OpenSpec.ofChange queueRisesSpec)) queueRisesCard

/-- THE TIED CARD OF 'concordlaw04.QueueTurned'. -/
def queueTurnedCard : Claim7 := { stood := { row := queueTurnedRow, standIns := [], harness := (true, "3e0d7d7ced8e4535d935ad7380a8b11e23d957c44861d3ac02c95c2dbf1530f8"), looks := true }, kinds := [], alts := [], laidByText := true, laidKinds := [.handle], laidTests := true, laidLooks := .later }
def QueueTurnedCardSaid : Prop := Claim7.holds Tryd.pinned (.plain (OpenSpec.ofChange queueTurnedSpec)) queueTurnedCard

/-- THE TIED CARD OF 'concordlaw04.QueuePlays'. -/
def queuePlaysCard : Claim7 := { stood := { row := queuePlaysRow, standIns := [], harness := (true, "3e0d7d7ced8e4535d935ad7380a8b11e23d957c44861d3ac02c95c2dbf1530f8"), looks := true }, kinds := [], alts := [], laidByText := true, laidKinds := [.handle], laidTests := true, laidLooks := .later }
def QueuePlaysCardSaid : Prop := Claim7.holds Tryd.pinned (.plain (OpenSpec.ofChange queuePlaysSpec)) queuePlaysCard

/-- THE TIED CARD OF 'concordlaw04.QueueGone'. -/
def queueGoneCard : Claim7 := { stood := { row := queueGoneRow, standIns := [], harness := (true, "3e0d7d7ced8e4535d935ad7380a8b11e23d957c44861d3ac02c95c2dbf1530f8"), looks := true }, kinds := [], alts := [], laidByText := true, laidKinds := [.handle], laidTests := true, laidLooks := .later }
def QueueGoneCardSaid : Prop := Claim7.holds Tryd.pinned (.plain (OpenSpec.ofChange queueGoneSpec)) queueGoneCard

/-- THE TIED CARD OF 'concordlaw04.QueueNil'. -/
def queueNilCard : Claim7 := { stood := { row := queueNilRow, standIns := [], harness := (true, "3e0d7d7ced8e4535d935ad7380a8b11e23d957c44861d3ac02c95c2dbf1530f8"), looks := true }, kinds := [], alts := [], laidByText := true, laidKinds := [.handle], laidTests := true, laidLooks := .later }
def QueueNilCardSaid : Prop := Claim7.holds Tryd.pinned (.plain (OpenSpec.ofChange queueNilSpec)) queueNilCard

/-- THE SECOND FORM's CARD OF 'concordlaw04.QueueFull'. -/
def queueFullUptoCard : Claim7 := { stood := { row := queueFullUptoRow, standIns := [], harness := (true, "3e0d7d7ced8e4535d935ad7380a8b11e23d957c44861d3ac02c95c2dbf1530f8"), looks := true }, kinds := [], alts := [], laidByText := true, laidKinds := [.handle], laidTests := true, laidLooks := .later }
def QueueFullUptoCardSaid : Prop := Claim7.holds Tryd.pinned (.plain (OpenSpec.upto queueFullSpec)) queueFullUptoCard

/-- THE SECOND FORM's CARD OF 'concordlaw04.QueueRises'. -/
def queueRisesUptoCard : Claim7 := { stood := { row := queueRisesUptoRow, standIns := [], harness := (true, "3e0d7d7ced8e4535d935ad7380a8b11e23d957c44861d3ac02c95c2dbf1530f8"), looks := true }, kinds := [], alts := [], laidByText := true, laidKinds := [.handle], laidTests := true, laidLooks := .later }
def QueueRisesUptoCardSaid : Prop := Claim7.holds Tryd.pinned (.plain (OpenSpec.upto queueRisesSpec)) queueRisesUptoCard

/-- THE SECOND FORM's CARD OF 'concordlaw04.QueueTurned'. -/
def queueTurnedUptoCard : Claim7 := { stood := { row := queueTurnedUptoRow, standIns := [], harness := (true, "3e0d7d7ced8e4535d935ad7380a8b11e23d957c44861d3ac02c95c2dbf1530f8"), looks := true }, kinds := [], alts := [], laidByText := true, laidKinds := [.handle], laidTests := true, laidLooks := .later }
def QueueTurnedUptoCardSaid : Prop := Claim7.holds Tryd.pinned (.plain (OpenSpec.upto queueTurnedSpec)) queueTurnedUptoCard

/-- THE SECOND FORM's CARD OF 'concordlaw04.QueuePlays'. -/
def queuePlaysUptoCard : Claim7 := { stood := { row := queuePlaysUptoRow, standIns := [], harness := (true, "3e0d7d7ced8e4535d935ad7380a8b11e23d957c44861d3ac02c95c2dbf1530f8"), looks := true }, kinds := [], alts := [], laidByText := true, laidKinds := [.handle], laidTests := true, laidLooks := .later }
def QueuePlaysUptoCardSaid : Prop := Claim7.holds Tryd.pinned (.plain (OpenSpec.upto queuePlaysSpec)) queuePlaysUptoCard

/-- THE SECOND FORM's CARD OF 'concordlaw04.QueueGone'. -/
def queueGoneUptoCard : Claim7 := { stood := { row := queueGoneUptoRow, standIns := [], harness := (true, "3e0d7d7ced8e4535d935ad7380a8b11e23d957c44861d3ac02c95c2dbf1530f8"), looks := true }, kinds := [], alts := [], laidByText := true, laidKinds := [.handle], laidTests := true, laidLooks := .later }
def QueueGoneUptoCardSaid : Prop := Claim7.holds Tryd.pinned (.plain (OpenSpec.upto queueGoneSpec)) queueGoneUptoCard

/-- THE SECOND FORM's CARD OF 'concordlaw04.QueueNil'. -/
def queueNilUptoCard : Claim7 := { stood := { row := queueNilUptoRow, standIns := [], harness := (true, "3e0d7d7ced8e4535d935ad7380a8b11e23d957c44861d3ac02c95c2dbf1530f8"), looks := true }, kinds := [], alts := [], laidByText := true, laidKinds := [.handle], laidTests := true, laidLooks := .later }
def QueueNilUptoCardSaid : Prop := Claim7.holds Tryd.pinned (.plain (OpenSpec.upto queueNilSpec)) queueNilUptoCard
end Rows
end Go.Proofs.YtainiojlhdbhgaaDoor

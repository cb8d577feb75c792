/-
  DERIVED. GIVEN WITH THE SEED: THE CARDS: each row of YtblfklnnojhadaaDoorRows.lean that lists a variable, with what it lists TIED to the program's text (the seventh form; the later family's looks); each row that meets fmt, with fmt's text TOLD by the authors' own Lean function (tested against real Go, not proved from fmt's source: count such statements apart). THE CARD IS WHAT COUNTS. Prove the row's statement (the work); the ties are given (YtblfklnnojhadaaDoorTie.lean); close each card by the builder's one call (the guide's Derived/Test/ToyasCard.lean, 'card_holds'). Laid BY PROGRAM, IN A SANDBOX (cutbox-door.mjs). By AI agents, Wed Nov 11 2026. No macro, syntax, notation, axiom, sorry.
-/
import Derived.Test.YtblfklnnojhadaaDoorRows
import GoSem.ClaimSeven
namespace Go.Proofs.YtblfklnnojhadaaDoor
namespace Rows

/-- THE TIED CARD OF 'concordlaw09.ProgJudges'. -/
def progJudgesCard : Claim7 := { stood := { row := progJudgesRow, standIns := [], harness := (true, "89803c1322730c2180af9650c12c947cf7fd11176235cf5060b519963b67a733"), looks := true }, kinds := [], alts := [], laidByText := true, laidKinds := [.handle], laidTests := true, laidLooks := .later }
def ProgJudgesCardSaid : Prop := Claim7.holds Tryd.pinned (.plain (OpenSpec.ofChange progJudgesSpec)) progJudgesCard

/-- THE TIED CARD OF 'concordlaw09.ProgWalks'. -/
def progWalksCard : Claim7 := { stood := { row := progWalksRow, standIns := [], harness := (true, "89803c1322730c2180af9650c12c947cf7fd11176235cf5060b519963b67a733"), looks := true }, kinds := [], alts := [], laidByText := true, laidKinds := [.handle], laidTests := true, laidLooks := .later }
def ProgWalksCardSaid : Prop := Claim7.holds Tryd.pinned (.plain (OpenSpec.ofChange progWalksSpec)) progWalksCard

/-- THE TIED CARD OF 'concordlaw09.ProgParts'. -/
def progPartsCard : Claim7 := { stood := { row := progPartsRow, standIns := [], harness := (true, "89803c1322730c2180af9650c12c947cf7fd11176235cf5060b519963b67a733"), looks := true }, kinds := [], alts := [], laidByText := true, laidKinds := [.handle], laidTests := true, laidLooks := .later }
def ProgPartsCardSaid : Prop := Claim7.holds Tryd.pinned (.plain (OpenSpec.ofChange progPartsSpec)) progPartsCard

/-- THE TIED CARD OF 'concordlaw09.ProgWithin'. -/
def progWithinCard : Claim7 := { stood := { row := progWithinRow, standIns := [], harness := (true, "89803c1322730c2180af9650c12c947cf7fd11176235cf5060b519963b67a733"), looks := true }, kinds := [], alts := [], laidByText := true, laidKinds := [.handle], laidTests := true, laidLooks := .later }
def ProgWithinCardSaid : Prop := Claim7.holds Tryd.pinned (.plain (OpenSpec.ofChange progWithinSpec)) progWithinCard

/-- THE TIED CARD OF 'concordlaw09.ProgCounts'. -/
def progCountsCard : Claim7 := { stood := { row := progCountsRow, standIns := [], harness := (true, "89803c1322730c2180af9650c12c947cf7fd11176235cf5060b519963b67a733"), looks := true }, kinds := [], alts := [], laidByText := true, laidKinds := [.handle], laidTests := true, laidLooks := .later }
def ProgCountsCardSaid : Prop := Claim7.holds Tryd.pinned (.plain (OpenSpec.ofChange progCountsSpec)) progCountsCard

/-- THE SECOND FORM's CARD OF 'concordlaw09.ProgJudges'. -/
def progJudgesUptoCard : Claim7 := { stood := { row := progJudgesUptoRow, standIns := [], harness := (true, "89803c1322730c2180af9650c12c947cf7fd11176235cf5060b519963b67a733"), looks := true }, kinds := [], alts := [], laidByText := true, laidKinds := [.handle], laidTests := true, laidLooks := .later }
def ProgJudgesUptoCardSaid : Prop := Claim7.holds Tryd.pinned (.plain (OpenSpec.upto progJudgesSpec)) progJudgesUptoCard

/-- THE SECOND FORM's CARD OF 'concordlaw09.ProgWalks'. -/
def progWalksUptoCard : Claim7 := { stood := { row := progWalksUptoRow, standIns := [], harness := (true, "89803c1322730c2180af9650c12c947cf7fd11176235cf5060b519963b67a733"), looks := true }, kinds := [], alts := [], laidByText := true, laidKinds := [.handle], laidTests := true, laidLooks := .later }
def ProgWalksUptoCardSaid : Prop := Claim7.holds Tryd.pinned (.plain (OpenSpec.upto progWalksSpec)) progWalksUptoCard

/-- THE SECOND FORM's CARD OF 'concordlaw09.ProgParts'. -/
def progPartsUptoCard : Claim7 := { stood := { row := progPartsUptoRow, standIns := [], harness := (true, "89803c1322730c2180af9650c12c947cf7fd11176235cf5060b519963b67a733"), looks := true }, kinds := [], alts := [], laidByText := true, laidKinds := [.handle], laidTests := true, laidLooks := .later }
def ProgPartsUptoCardSaid : Prop := Claim7.holds Tryd.pinned (.plain (OpenSpec.upto progPartsSpec)) progPartsUptoCard

/-- THE SECOND FORM's CARD OF 'concordlaw09.ProgWithin'. -/
def progWithinUptoCard : Claim7 := { stood := { row := progWithinUptoRow, standIns := [], harness := (true, "89803c1322730c2180af9650c12c947cf7fd11176235cf5060b519963b67a733"), looks := true }, kinds := [], alts := [], laidByText := true, laidKinds := [.handle], laidTests := true, laidLooks := .later }
def ProgWithinUptoCardSaid : Prop := Claim7.holds Tryd.pinned (.plain (OpenSpec.upto progWithinSpec)) progWithinUptoCard

/-- THE SECOND FORM's CARD OF 'concordlaw09.ProgCounts'. -/
def progCountsUptoCard : Claim7 := { stood := { row := progCountsUptoRow, standIns := [], harness := (true, "89803c1322730c2180af9650c12c947cf7fd11176235cf5060b519963b67a733"), looks := true }, kinds := [], alts := [], laidByText := true, laidKinds := [.handle], laidTests := true, laidLooks := .later }
def ProgCountsUptoCardSaid : Prop := Claim7.holds Tryd.pinned (.plain (OpenSpec.upto progCountsSpec)) progCountsUptoCard
end Rows
end Go.Proofs.YtblfklnnojhadaaDoor

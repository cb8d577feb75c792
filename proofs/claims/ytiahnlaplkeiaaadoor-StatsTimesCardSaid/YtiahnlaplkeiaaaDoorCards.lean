/-
  DERIVED. GIVEN WITH THE SEED: THE CARDS: each row of YtiahnlaplkeiaaaDoorRows.lean that lists a variable, with what it lists TIED to the program's text (the seventh form; the later family's looks); each row that meets fmt, with fmt's text TOLD by the authors' own Lean function (tested against real Go, not proved from fmt's source: count such statements apart). THE CARD IS WHAT COUNTS. Prove the row's statement (the work); the ties are given (YtiahnlaplkeiaaaDoorTie.lean); close each card by the builder's one call (the guide's Derived/Test/ToyasCard.lean, 'card_holds'). Laid BY PROGRAM, IN A SANDBOX (cutbox-door.mjs). By AI agents, Wed Nov 11 2026. No macro, syntax, notation, axiom, sorry.
-/
import Derived.Test.YtiahnlaplkeiaaaDoorRows
import GoSem.ClaimSeven
namespace Go.Proofs.YtiahnlaplkeiaaaDoor
namespace Rows

/-- THE TIED CARD OF 'concordlaw30.StatsParts'. -/
def statsPartsCard : Claim7 := { stood := { row := statsPartsRow, standIns := [], harness := (true, "30310eea813a8a1b1f8e362d27206cd45321beb4c3163238ee103fe07beeb29a"), looks := false }, kinds := [], alts := [], laidByText := true, laidKinds := [.data, .data, .data], laidTests := true, laidLooks := .later }
def StatsPartsCardSaid : Prop := Claim7.holds Tryd.pinned (.plain (OpenSpec.ofChange statsPartsSpec)) statsPartsCard

/-- THE TIED CARD OF 'concordlaw30.StatsTurned'. -/
def statsTurnedCard : Claim7 := { stood := { row := statsTurnedRow, standIns := [], harness := (true, "30310eea813a8a1b1f8e362d27206cd45321beb4c3163238ee103fe07beeb29a"), looks := false }, kinds := [], alts := [], laidByText := true, laidKinds := [.data, .data, .data], laidTests := true, laidLooks := .later }
def StatsTurnedCardSaid : Prop := Claim7.holds Tryd.pinned (.plain (OpenSpec.ofChange statsTurnedSpec)) statsTurnedCard

/-- THE TIED CARD OF 'concordlaw30.StatsTimes'. -/
def statsTimesCard : Claim7 := { stood := { row := statsTimesRow, standIns := [], harness := (true, "30310eea813a8a1b1f8e362d27206cd45321beb4c3163238ee103fe07beeb29a"), looks := false }, kinds := [], alts := [], laidByText := true, laidKinds := [.data, .data, .data], laidTests := true, laidLooks := .later }
def StatsTimesCardSaid : Prop := Claim7.holds Tryd.pinned (.plain (OpenSpec.ofChange statsTimesSpec)) statsTimesCard

/-- THE SECOND FORM's CARD OF 'concordlaw30.StatsParts'. -/
def statsPartsUptoCard : Claim7 := { stood := { row := statsPartsUptoRow, standIns := [], harness := (true, "30310eea813a8a1b1f8e362d27206cd45321beb4c3163238ee103fe07beeb29a"), looks := false }, kinds := [], alts := [], laidByText := true, laidKinds := [.data, .data, .data], laidTests := true, laidLooks := .later }
def StatsPartsUptoCardSaid : Prop := Claim7.holds Tryd.pinned (.plain (OpenSpec.upto statsPartsSpec)) statsPartsUptoCard

/-- THE SECOND FORM's CARD OF 'concordlaw30.StatsTurned'. -/
def statsTurnedUptoCard : Claim7 := { stood := { row := statsTurnedUptoRow, standIns := [], harness := (true, "30310eea813a8a1b1f8e362d27206cd45321beb4c3163238ee103fe07beeb29a"), looks := false }, kinds := [], alts := [], laidByText := true, laidKinds := [.data, .data, .data], laidTests := true, laidLooks := .later }
def StatsTurnedUptoCardSaid : Prop := Claim7.holds Tryd.pinned (.plain (OpenSpec.upto statsTurnedSpec)) statsTurnedUptoCard

/-- THE SECOND FORM's CARD OF 'concordlaw30.StatsTimes'. -/
def statsTimesUptoCard : Claim7 := { stood := { row := statsTimesUptoRow, standIns := [], harness := (true, "30310eea813a8a1b1f8e362d27206cd45321beb4c3163238ee103fe07beeb29a"), looks := false }, kinds := [], alts := [], laidByText := true, laidKinds := [.data, .data, .data], laidTests := true, laidLooks := .later }
def StatsTimesUptoCardSaid : Prop := Claim7.holds Tryd.pinned (.plain (OpenSpec.upto statsTimesSpec)) statsTimesUptoCard
end Rows
end Go.Proofs.YtiahnlaplkeiaaaDoor

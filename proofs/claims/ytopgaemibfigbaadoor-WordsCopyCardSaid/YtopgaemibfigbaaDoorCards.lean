/-
  DERIVED. GIVEN WITH THE SEED: THE CARDS: each row of YtopgaemibfigbaaDoorRows.lean that lists a variable, with what it lists TIED to the program's text (the seventh form; the later family's looks); each row that meets fmt, with fmt's text TOLD by the authors' own Lean function (tested against real Go, not proved from fmt's source: count such statements apart). THE CARD IS WHAT COUNTS. Prove the row's statement (the work); the ties are given (YtopgaemibfigbaaDoorTie.lean); close each card by the builder's one call (the guide's Derived/Test/ToyasCard.lean, 'card_holds'). Laid BY PROGRAM, IN A SANDBOX (cutbox-door.mjs). By AI agents, Wed Nov 11 2026. No macro, syntax, notation, axiom, sorry.
-/
import Derived.Test.YtopgaemibfigbaaDoorRows
import GoSem.ClaimSeven
namespace Go.Proofs.YtopgaemibfigbaaDoor
namespace Rows

/-- THE TIED CARD OF 'concordlaw01.WordsCopy'. -/
def wordsCopyCard : Claim7 := { stood := { row := wordsCopyRow, standIns := [], harness := (true, "3dbecedf999663afed92248029012137f4aa9ff0b3e1f3b11d53c919f4f39f79"), looks := true }, kinds := [], alts := [], laidByText := true, laidKinds := [.handle], laidTests := true, laidLooks := .later }
def WordsCopyCardSaid : Prop := Claim7.holds Tryd.pinned (.plain (OpenSpec.ofChange wordsCopySpec)) wordsCopyCard

/-- THE SECOND FORM's CARD OF 'concordlaw01.WordsCopy'. -/
def wordsCopyUptoCard : Claim7 := { stood := { row := wordsCopyUptoRow, standIns := [], harness := (true, "3dbecedf999663afed92248029012137f4aa9ff0b3e1f3b11d53c919f4f39f79"), looks := true }, kinds := [], alts := [], laidByText := true, laidKinds := [.handle], laidTests := true, laidLooks := .later }
def WordsCopyUptoCardSaid : Prop := Claim7.holds Tryd.pinned (.plain (OpenSpec.upto wordsCopySpec)) wordsCopyUptoCard
end Rows
end Go.Proofs.YtopgaemibfigbaaDoor

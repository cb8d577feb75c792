/-
  DERIVED. GIVEN WITH THE SEED: THE CARDS: each row of YtfbeaklplefojaaGreatDoorRows.lean that lists a variable, with what it lists TIED to the program's text (the seventh form; the later family's looks); each row that meets fmt, with fmt's text TOLD by the authors' own Lean function (tested against real Go, not proved from fmt's source: count such statements apart). THE CARD IS WHAT COUNTS. Prove the row's statement (the work); the ties are given (YtfbeaklplefojaaGreatDoorTie.lean); close each card by the builder's one call (the guide's Derived/Test/ToyasCard.lean, 'card_holds'). Laid BY PROGRAM, IN A SANDBOX (cutbox-door.mjs). By AI agents, Wed Nov 11 2026. No macro, syntax, notation, axiom, sorry.
-/
import Derived.Test.YtfbeaklplefojaaGreatDoorRows
import GoSem.ClaimSeven
namespace Go.Proofs.YtfbeaklplefojaaGreatDoor
namespace Rows

/-- THE TIED CARD OF 'concordlaw11.EvalAtomic'. -/
def evalAtomicCard : Claim7 := { stood := { row := evalAtomicRow, standIns := [], harness := (true, "cf008c8abc29f1e078b5d1ced5eebe05ad93dd08e5d64393a1773b9df4110b7a"), looks := true }, kinds := [], alts := [], laidByText := true, laidKinds := [.handle], laidTests := true, laidLooks := .later }
def EvalAtomicCardSaid : Prop := Claim7.holds Tryz.pinned (.plain (OpenSpec.ofChange evalAtomicSpec)) evalAtomicCard

/-- THE TIED CARD OF 'concordlaw11.EvalOr'. -/
def evalOrCard : Claim7 := { stood := { row := evalOrRow, standIns := [], harness := (true, "cf008c8abc29f1e078b5d1ced5eebe05ad93dd08e5d64393a1773b9df4110b7a"), looks := true }, kinds := [], alts := [], laidByText := true, laidKinds := [.handle], laidTests := true, laidLooks := .later }
def EvalOrCardSaid : Prop := Claim7.holds Tryz.pinned (.plain (OpenSpec.ofChange evalOrSpec)) evalOrCard

/-- THE TIED CARD OF 'concordlaw11.EvalLoops'. -/
def evalLoopsCard : Claim7 := { stood := { row := evalLoopsRow, standIns := [], harness := (true, "cf008c8abc29f1e078b5d1ced5eebe05ad93dd08e5d64393a1773b9df4110b7a"), looks := true }, kinds := [], alts := [], laidByText := true, laidKinds := [.handle], laidTests := true, laidLooks := .later }
def EvalLoopsCardSaid : Prop := Claim7.holds Tryz.pinned (.plain (OpenSpec.ofChange evalLoopsSpec)) evalLoopsCard

/-- THE SECOND FORM's CARD OF 'concordlaw11.EvalAtomic'. -/
def evalAtomicUptoCard : Claim7 := { stood := { row := evalAtomicUptoRow, standIns := [], harness := (true, "cf008c8abc29f1e078b5d1ced5eebe05ad93dd08e5d64393a1773b9df4110b7a"), looks := true }, kinds := [], alts := [], laidByText := true, laidKinds := [.handle], laidTests := true, laidLooks := .later }
def EvalAtomicUptoCardSaid : Prop := Claim7.holds Tryz.pinned (.plain (OpenSpec.upto evalAtomicSpec)) evalAtomicUptoCard

/-- THE SECOND FORM's CARD OF 'concordlaw11.EvalOr'. -/
def evalOrUptoCard : Claim7 := { stood := { row := evalOrUptoRow, standIns := [], harness := (true, "cf008c8abc29f1e078b5d1ced5eebe05ad93dd08e5d64393a1773b9df4110b7a"), looks := true }, kinds := [], alts := [], laidByText := true, laidKinds := [.handle], laidTests := true, laidLooks := .later }
def EvalOrUptoCardSaid : Prop := Claim7.holds Tryz.pinned (.plain (OpenSpec.upto evalOrSpec)) evalOrUptoCard

/-- THE SECOND FORM's CARD OF 'concordlaw11.EvalLoops'. -/
def evalLoopsUptoCard : Claim7 := { stood := { row := evalLoopsUptoRow, standIns := [], harness := (true, "cf008c8abc29f1e078b5d1ced5eebe05ad93dd08e5d64393a1773b9df4110b7a"), looks := true }, kinds := [], alts := [], laidByText := true, laidKinds := [.handle], laidTests := true, laidLooks := .later }
def EvalLoopsUptoCardSaid : Prop := Claim7.holds Tryz.pinned (.plain (OpenSpec.upto evalLoopsSpec)) evalLoopsUptoCard
end Rows
end Go.Proofs.YtfbeaklplefojaaGreatDoor

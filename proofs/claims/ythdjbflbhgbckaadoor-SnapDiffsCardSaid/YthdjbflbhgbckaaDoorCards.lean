/-
  DERIVED. GIVEN WITH THE SEED: THE CARDS: each row of YthdjbflbhgbckaaDoorRows.lean that lists a variable, with what it lists TIED to the program's text (the seventh form; the later family's looks); each row that meets fmt, with fmt's text TOLD by the authors' own Lean function (tested against real Go, not proved from fmt's source: count such statements apart). THE CARD IS WHAT COUNTS. Prove the row's statement (the work); the ties are given (YthdjbflbhgbckaaDoorTie.lean); close each card by the builder's one call (the guide's Derived/Test/ToyasCard.lean, 'card_holds'). Laid BY PROGRAM, IN A SANDBOX (cutbox-door.mjs). By AI agents, Wed Nov 11 2026. No macro, syntax, notation, axiom, sorry.
-/
import Derived.Test.YthdjbflbhgbckaaDoorRows
import GoSem.ClaimSeven
namespace Go.Proofs.YthdjbflbhgbckaaDoor
namespace Rows

/-- THE TIED CARD OF 'concordlaw27.SnapHas'. -/
def snapHasCard : Claim7 := { stood := { row := snapHasRow, standIns := [], harness := (true, "f3627e7fa54e552e3ad2e73af754f636cb21ea8e914d2759653b12c823eb0fe8"), looks := true }, kinds := [], alts := [], laidByText := true, laidKinds := [.handle], laidTests := true, laidLooks := .later }
def SnapHasCardSaid : Prop := Claim7.holds Tryd.pinned (.plain (OpenSpec.ofChange snapHasSpec)) snapHasCard

/-- THE TIED CARD OF 'concordlaw27.SnapDiffs'. -/
def snapDiffsCard : Claim7 := { stood := { row := snapDiffsRow, standIns := [], harness := (true, "f3627e7fa54e552e3ad2e73af754f636cb21ea8e914d2759653b12c823eb0fe8"), looks := true }, kinds := [], alts := [], laidByText := true, laidKinds := [.handle], laidTests := true, laidLooks := .later }
def SnapDiffsCardSaid : Prop := Claim7.holds Tryd.pinned (.plain (OpenSpec.ofChange snapDiffsSpec)) snapDiffsCard

/-- THE SECOND FORM's CARD OF 'concordlaw27.SnapHas'. -/
def snapHasUptoCard : Claim7 := { stood := { row := snapHasUptoRow, standIns := [], harness := (true, "f3627e7fa54e552e3ad2e73af754f636cb21ea8e914d2759653b12c823eb0fe8"), looks := true }, kinds := [], alts := [], laidByText := true, laidKinds := [.handle], laidTests := true, laidLooks := .later }
def SnapHasUptoCardSaid : Prop := Claim7.holds Tryd.pinned (.plain (OpenSpec.upto snapHasSpec)) snapHasUptoCard

/-- THE SECOND FORM's CARD OF 'concordlaw27.SnapDiffs'. -/
def snapDiffsUptoCard : Claim7 := { stood := { row := snapDiffsUptoRow, standIns := [], harness := (true, "f3627e7fa54e552e3ad2e73af754f636cb21ea8e914d2759653b12c823eb0fe8"), looks := true }, kinds := [], alts := [], laidByText := true, laidKinds := [.handle], laidTests := true, laidLooks := .later }
def SnapDiffsUptoCardSaid : Prop := Claim7.holds Tryd.pinned (.plain (OpenSpec.upto snapDiffsSpec)) snapDiffsUptoCard
end Rows
end Go.Proofs.YthdjbflbhgbckaaDoor

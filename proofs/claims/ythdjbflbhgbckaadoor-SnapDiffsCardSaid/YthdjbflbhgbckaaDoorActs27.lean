/-
  The arguments of the snapshots' laws: slices of pairs, of turns.
-/
import Derived.Test.YthdjbflbhgbckaaDoorArg
import Derived.Test.YthdjbflbhgbckaaDoorDiff
set_option linter.unusedVariables false
namespace Go.Proofs.YthdjbflbhgbckaaDoor
open Go.RowKit Go.Deep Go.WideShapes Go.ChangeShapes Stab
section
variable {H : Type} {enc : TypeId × Value → H} {W : World} {base b0 : Nat} {spare : Nat → Bool} {held : Bool} {v : Value} {d : DataW H} {ps : List MemPlace} {r : Reach}
set_option maxRecDepth 100000 in
theorem reads_pr : ReadsAs Tryd.prog 39 encPr (fun a => inK .i64 a.1 ∧ inK .i64 a.2) := reads_two (t0 := 3) (t1 := 3) Tryd.underlying39 (by kernel_rfl) rfl rfl (by kernel_rfl) (by kernel_rfl) Tryd.underlying3 Tryd.underlying3
set_option maxRecDepth 100000 in
theorem prs27_of (hok : Value.okWide Tryd.prog W r b0 22 v) (h : DataW.Trod enc Tryd.prog W base spare held 22 v d ps) :
    ∃ (L : List (Int × Int)) (A : Option Addr) (c : Nat), v = .slice A L.length c ∧ Rd encPr W v L := by
  obtain ⟨L, A, c, h1, h2, h3, h4, _⟩ := rd_arg Tryd.underlying22 reads_pr hok h
  exact ⟨L, A, c, h1, h4⟩
set_option maxRecDepth 100000 in
theorem turns27_of (hok : Value.okWide Tryd.prog W r b0 41 v) (h : DataW.Trod enc Tryd.prog W base spare held 41 v d ps) :
    ∃ (L : List (Int × Int × Int × Int)) (A : Option Addr) (c : Nat), v = .slice A L.length c ∧ Rd encTn W v L := by
  obtain ⟨L, A, c, h1, h2, h3, h4, _⟩ := rd_arg Tryd.underlying41 (reads_4 Tryd.underlying51 (by kernel_rfl) rfl rfl rfl rfl (by kernel_rfl) (by kernel_rfl) (by kernel_rfl) (by kernel_rfl) Tryd.underlying3 Tryd.underlying3 Tryd.underlying3 Tryd.underlying3) hok h
  exact ⟨L, A, c, h1, h4⟩
end
end Go.Proofs.YthdjbflbhgbckaaDoor

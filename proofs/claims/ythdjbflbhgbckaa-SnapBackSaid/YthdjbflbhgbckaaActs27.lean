/-
  The arguments of the snapshots' laws: slices of pairs, of turns.
-/
import Derived.Test.YthdjbflbhgbckaaArg
import Derived.Test.YthdjbflbhgbckaaDiff
set_option linter.unusedVariables false
namespace Go.Proofs.Ythdjbflbhgbckaa
open Go.RowKit Go.Deep Go.WideShapes Go.ChangeShapes Stab
section
variable {H : Type} {enc : TypeId × Value → H} {W : World} {base b0 : Nat} {spare : Nat → Bool} {held : Bool} {v : Value} {d : DataW H} {ps : List MemPlace} {r : Reach}
set_option maxRecDepth 100000 in
theorem reads_pr : ReadsAs Try.prog 42 encPr (fun a => inK .i64 a.1 ∧ inK .i64 a.2) := reads_two (t0 := 3) (t1 := 3) Try.underlying42 (by kernel_rfl) rfl rfl (by kernel_rfl) (by kernel_rfl) Try.underlying3 Try.underlying3
set_option maxRecDepth 100000 in
theorem prs27_of (hok : Value.okWide Try.prog W r b0 25 v) (h : DataW.Trod enc Try.prog W base spare held 25 v d ps) :
    ∃ (L : List (Int × Int)) (A : Option Addr) (c : Nat), v = .slice A L.length c ∧ Rd encPr W v L := by
  obtain ⟨L, A, c, h1, h2, h3, h4, _⟩ := rd_arg Try.underlying25 reads_pr hok h
  exact ⟨L, A, c, h1, h4⟩
set_option maxRecDepth 100000 in
theorem turns27_of (hok : Value.okWide Try.prog W r b0 56 v) (h : DataW.Trod enc Try.prog W base spare held 56 v d ps) :
    ∃ (L : List (Int × Int × Int × Int)) (A : Option Addr) (c : Nat), v = .slice A L.length c ∧ Rd encTn W v L := by
  obtain ⟨L, A, c, h1, h2, h3, h4, _⟩ := rd_arg Try.underlying56 (reads_4 Try.underlying65 (by kernel_rfl) rfl rfl rfl rfl (by kernel_rfl) (by kernel_rfl) (by kernel_rfl) (by kernel_rfl) Try.underlying3 Try.underlying3 Try.underlying3 Try.underlying3) hok h
  exact ⟨L, A, c, h1, h4⟩
end
end Go.Proofs.Ythdjbflbhgbckaa

/-
  The arguments of the snapshots' laws: slices of slices of pairs, of calls.
-/
import Derived.Test.YthdjbflbhgbckaaActs27
import Derived.Test.YthdjbflbhgbckaaArg2
set_option linter.unusedVariables false
namespace Go.Proofs.Ythdjbflbhgbckaa
open Go.RowKit Go.Deep Go.WideShapes Go.ChangeShapes Stab
section
variable {H : Type} {enc : TypeId × Value → H} {W : World} {base b0 : Nat} {spare : Nat → Bool} {held : Bool} {v : Value} {d : DataW H} {ps : List MemPlace} {r : Reach}
set_option maxRecDepth 100000 in
theorem prss27_of (hok : Value.okWide Try.prog W r b0 22 v) (h : DataW.Trod enc Try.prog W base spare held 22 v d ps) :
    ∃ (L : List (List (Int × Int))) (vs : List Value) (A : Option Addr) (c : Nat), v = .slice A L.length c ∧ Src W 1 (.slice A L.length c) L.length vs ∧ (∀ i, i < L.length → Rd encPr W (vs.getD i undef) (L.getD i [])) := by
  obtain ⟨L, vs, A, c, h1, h2, h3, h4, h5, _⟩ := rd_arg2 Try.underlying22 Try.underlying25 (by kernel_rfl) reads_pr hok h
  exact ⟨L, vs, A, c, h1, h4, h5⟩
set_option maxRecDepth 100000 in
theorem acts27_of (hok : Value.okWide Try.prog W r b0 46 v) (h : DataW.Trod enc Try.prog W base spare held 46 v d ps) :
    ∃ (L : List (Int × Int)) (A : Option Addr) (c : Nat), v = .slice A L.length c ∧ Rd encPr W v L := by
  obtain ⟨L, A, c, h1, h2, h3, h4, _⟩ := rd_arg Try.underlying46 (reads_two (t0 := 3) (t1 := 3) Try.underlying48 (by kernel_rfl) rfl rfl (by kernel_rfl) (by kernel_rfl) Try.underlying3 Try.underlying3) hok h
  exact ⟨L, A, c, h1, h4⟩
end
end Go.Proofs.Ythdjbflbhgbckaa

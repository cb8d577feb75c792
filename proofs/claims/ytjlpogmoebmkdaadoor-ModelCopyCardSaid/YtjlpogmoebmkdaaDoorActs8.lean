/-
  The arguments of the model's laws: a slice of calls, a slice of ints.
-/
import Derived.Test.YtjlpogmoebmkdaaDoorArg
import Derived.Test.YtjlpogmoebmkdaaDoorMPlay
set_option linter.unusedVariables false
namespace Go.Proofs.YtjlpogmoebmkdaaDoor
open Go.RowKit Go.Deep Go.WideShapes Go.ChangeShapes
theorem in_i64 {n : Int} (h : (Lit.int .i64 n).wf = true) : -9223372036854775808 ≤ n ∧ n ≤ 9223372036854775807 := by
  simp only [Lit.wf, Bool.and_eq_true, decide_eq_true_eq] at h
  have h1 : IntKind.i64.min = -9223372036854775808 := by decide
  have h2 : IntKind.i64.max = 9223372036854775807 := by decide
  rw [h1, h2] at h
  exact h
section
variable {H : Type} {enc : TypeId × Value → H} {W : World} {base b0 : Nat} {spare : Nat → Bool} {held : Bool} {v : Value} {d : DataW H} {ps : List MemPlace} {r : Reach}
set_option maxRecDepth 100000 in
theorem acts08_of (hok : Value.okWide Tryd.prog W r b0 23 v) (h : DataW.Trod enc Tryd.prog W base spare held 23 v d ps) :
    ∃ (L : List MAct) (A : Option Addr) (c : Nat), v = .slice A L.length c ∧ Rd encA W v L ∧ (∀ a ∈ L, MP.kB a.2.2.1) := by
  obtain ⟨L, A, c, h1, h2, h3, h4, h5⟩ := rd_arg Tryd.underlying23 (reads_4 Tryd.underlying47 (by kernel_rfl) rfl rfl rfl rfl (by kernel_rfl) (by kernel_rfl) (by kernel_rfl) (by kernel_rfl) Tryd.underlying3 Tryd.underlying3 Tryd.underlying3 Tryd.underlying3) hok h
  exact ⟨L, A, c, h1, h4, fun a ha => in_i64 (h5 a ha).2.2.1⟩
set_option maxRecDepth 100000 in
theorem ints08_of (hok : Value.okWide Tryd.prog W r b0 22 v) (h : DataW.Trod enc Tryd.prog W base spare held 22 v d ps) :
    ∃ (L : List Int) (A : Option Addr) (c : Nat), v = .slice A L.length c ∧ Rd encK W v L := by
  obtain ⟨L, A, c, h1, h2, h3, h4, _⟩ := rd_arg Tryd.underlying22 (reads_int Tryd.underlying3 (by kernel_rfl)) hok h
  exact ⟨L, A, c, h1, h4⟩
end
end Go.Proofs.YtjlpogmoebmkdaaDoor

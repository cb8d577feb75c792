/-
  The acts of the sets' laws, as an argument.
-/
import Derived.Test.YtbpmkbcpnnpdjaaDoorArg
import Derived.Test.YtbpmkbcpnnpdjaaDoorProg
set_option linter.unusedVariables false
namespace Go.Proofs.YtbpmkbcpnnpdjaaDoor
open Go.RowKit Go.Deep Go.WideShapes Go.ChangeShapes
theorem in_u64 {n : Int} (h : (Lit.int .u64 n).wf = true) : 0 ≤ n ∧ n ≤ 18446744073709551615 := by
  simp only [Lit.wf, Bool.and_eq_true, decide_eq_true_eq] at h
  have h1 : IntKind.u64.min = 0 := by decide
  have h2 : IntKind.u64.max = 18446744073709551615 := by decide
  rw [h1, h2] at h
  exact h
theorem in_i64 {n : Int} (h : (Lit.int .i64 n).wf = true) : -9223372036854775808 ≤ n ∧ n ≤ 9223372036854775807 := by
  simp only [Lit.wf, Bool.and_eq_true, decide_eq_true_eq] at h
  have h1 : IntKind.i64.min = -9223372036854775808 := by decide
  have h2 : IntKind.i64.max = 9223372036854775807 := by decide
  rw [h1, h2] at h
  exact h
section
variable {H : Type} {enc : TypeId × Value → H} {W : World} {base b0 : Nat} {spare : Nat → Bool} {held : Bool} {v : Value} {d : DataW H} {ps : List MemPlace} {r : Reach}
set_option maxRecDepth 100000 in
theorem acts07_of (hok : Value.okWide Tryd.prog W r b0 22 v) (h : DataW.Trod enc Tryd.prog W base spare held 22 v d ps) :
    ∃ (L : List (Int × Int × Int × Int)) (A : Option Addr) (c : Nat), v = .slice A L.length c ∧ L.length ≤ c ∧ c ≤ maxLen ∧ Rd (encI4 .i64 .u64 .u64 .i64) W v L ∧ ∀ a ∈ L, inK .i64 a.1 ∧ inK .u64 a.2.1 ∧ inK .u64 a.2.2.1 ∧ inK .i64 a.2.2.2 := by
  obtain ⟨L, A, c, h1, h2, h3, h4, h5⟩ := rd_arg Tryd.underlying22 (reads_4 Tryd.underlying40 (by kernel_rfl) rfl rfl rfl rfl (by kernel_rfl) (by kernel_rfl) (by kernel_rfl) (by kernel_rfl) Tryd.underlying3 Tryd.underlying38 Tryd.underlying38 Tryd.underlying3) hok h
  exact ⟨L, A, c, h1, h2, h3, h4, h5⟩
end
end Go.Proofs.YtbpmkbcpnnpdjaaDoor

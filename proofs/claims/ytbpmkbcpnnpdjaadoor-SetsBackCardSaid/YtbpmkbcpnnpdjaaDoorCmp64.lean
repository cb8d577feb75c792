/-
  cmp.Compare at uint64: by contracts.
-/
import Derived.Test.YtbpmkbcpnnpdjaaDoorBase
import Derived.Test.YtbpmkbcpnnpdjaaDoorProg
namespace Go.Proofs.YtbpmkbcpnnpdjaaDoor
open Go.RowKit

/-- What cmp.Compare says of two integers. -/
def cmpI (a b : Int) : Int := if a < b then -1 else if b < a then 1 else 0

theorem isNaN64_ok (a : Int) (w : World) : Calls Tryd.prog 40 #[.int .u64 a] w fun e w' => e = .returned (.bool false) ∧ w = w' := by
  have h : (a != a) = false := by simp
  go_enter Tryd.func40, Tryd.ntmps40
  go_wp2_with fail
  go_ret
  exact ⟨rfl, rfl⟩

theorem compare64_ok (a b : Int) (w : World) : Calls Tryd.prog 24 #[.int .u64 a, .int .u64 b] w fun e w' => e = .returned (.int .i64 (cmpI a b)) ∧ w = w' := by
  have hc : ∀ v, v = cmpI a b → Calls Tryd.prog 24 #[.int .u64 a, .int .u64 b] w (fun e w' => e = .returned (.int .i64 v) ∧ w = w') → Calls Tryd.prog 24 #[.int .u64 a, .int .u64 b] w fun e w' => e = .returned (.int .i64 (cmpI a b)) ∧ w = w' := by
    rintro v rfl h; exact h
  rcases Int.lt_trichotomy a b with h | h | h
  · refine hc (-1) (by unfold cmpI; rw [if_pos h]) ?_
    go_enter Tryd.func24, Tryd.ntmps24
    go_wp2_with ((go_at_call 40); (refine (isNaN64_ok _ _).mono ?_); (rintro e w' ⟨rfl, rfl⟩))
    go_ret
    exact ⟨rfl, rfl⟩
  · have h1 : ¬ a < b := by omega
    have h2 : ¬ b < a := by omega
    refine hc 0 (by unfold cmpI; rw [if_neg h1, if_neg h2]) ?_
    clear h
    go_enter Tryd.func24, Tryd.ntmps24
    go_wp2_with ((go_at_call 40); (refine (isNaN64_ok _ _).mono ?_); (rintro e w' ⟨rfl, rfl⟩))
    go_ret
    exact ⟨rfl, rfl⟩
  · have h1 : ¬ a < b := by omega
    refine hc 1 (by unfold cmpI; rw [if_neg h1, if_pos h]) ?_
    go_enter Tryd.func24, Tryd.ntmps24
    go_wp2_with ((go_at_call 40); (refine (isNaN64_ok _ _).mono ?_); (rintro e w' ⟨rfl, rfl⟩))
    go_ret
    exact ⟨rfl, rfl⟩

end Go.Proofs.YtbpmkbcpnnpdjaaDoor

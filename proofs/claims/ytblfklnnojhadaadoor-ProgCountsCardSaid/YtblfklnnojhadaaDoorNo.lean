/-
  The law's 'No': which number an error has.
-/
import Derived.Test.YtblfklnnojhadaaDoorErrs
namespace Go.Proofs.YtblfklnnojhadaaDoor
open Go.RowKit

theorem no_nil (w : World) : Calls Tryd.prog 12 #[.nilIface] w fun e w' => e = .returned (.int .i64 0) ∧ w = w' := by
  go_enter Tryd.func12, Tryd.ntmps12
  go_wp2_with fail
  go_ret
  exact ⟨rfl, rfl⟩

set_option maxHeartbeats 400000 in
theorem no_errno (k : Int) (h1 : 1 ≤ k) (h2 : k ≤ 17) (w : World) : Calls Tryd.prog 12 #[.iface 52 (.int .i64 k)] w fun e w' => e = .returned (.int .i64 k) ∧ w = w' := by
  go_enter Tryd.func12, Tryd.ntmps12
  go_wp2_with fail
  go_loop [3] (fun n => ∃ j : Int, 1 ≤ j ∧ j ≤ k ∧ n = .int .i64 j) (fun n => (17 - intOf n).toNat)
  case atStart => exact ⟨1, by omega, by omega, rfl⟩
  case round =>
    obtain ⟨j, hj1, hj2, rfl⟩ := hrel
    by_cases hjk : j = k
    · subst hjk
      go_wp2_with ((go_at_call 31); (refine (is_errno _ _ _).mono ?_); (rintro e w' ⟨rfl, rfl⟩); (simp only [beq_self_eq_true]))
      go_ret
      exact ⟨rfl, rfl⟩
    · have hne : (k == j) = false := by simp; omega
      have hlt : j < k := by omega
      clear hjk hj2
      go_wp2_with ((go_at_call 31); (refine (is_errno _ _ _).mono ?_); (rintro e w' ⟨rfl, rfl⟩); (simp only [hne]))
      go_round
      case rel => exact ⟨j + 1, by omega, by omega, rfl⟩
      case measure => simp [intOf]; omega

set_option maxHeartbeats 400000 in
theorem no_fault (g : Nat) (k : Int) (h1 : 1 ≤ k) (h2 : k ≤ 17) (w : World) (hc : w.cell? ⟨g, 1, none⟩ = some (.int .i64 k)) : Calls Tryd.prog 12 #[.iface 51 (.pointer (some ⟨g, 0, none⟩))] w fun e w' => e = .returned (.int .i64 k) ∧ w = w' := by
  go_enter Tryd.func12, Tryd.ntmps12
  go_wp2_with fail
  go_loop [3] (fun n => ∃ j : Int, 1 ≤ j ∧ j ≤ k ∧ n = .int .i64 j) (fun n => (17 - intOf n).toNat)
  case atStart => exact ⟨1, by omega, by omega, rfl⟩
  case round =>
    obtain ⟨j, hj1, hj2, rfl⟩ := hrel
    by_cases hjk : j = k
    · subst hjk
      go_wp2_with ((go_at_call 31); (refine (is_fault _ _ _ _ hc).mono ?_); (rintro e w' ⟨rfl, rfl⟩); (simp only [beq_self_eq_true]))
      go_ret
      exact ⟨rfl, rfl⟩
    · have hne : (k == j) = false := by simp; omega
      have hlt : j < k := by omega
      clear hjk hj2
      go_wp2_with ((go_at_call 31); (refine (is_fault _ _ _ _ hc).mono ?_); (rintro e w' ⟨rfl, rfl⟩); (simp only [hne]))
      go_round
      case rel => exact ⟨j + 1, by omega, by omega, rfl⟩
      case measure => simp [intOf]; omega
end Go.Proofs.YtblfklnnojhadaaDoor

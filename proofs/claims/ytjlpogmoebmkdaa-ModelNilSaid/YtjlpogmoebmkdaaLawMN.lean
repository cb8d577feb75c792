/-
  ModelNil, the walk.
-/
import Derived.Test.YtjlpogmoebmkdaaMAlive
import Derived.Test.YtjlpogmoebmkdaaMdlN
set_option linter.unusedVariables false
namespace Go.Proofs.Ytjlpogmoebmkdaa
open Go.RowKit
attribute [local go_sem] litStep_value

set_option maxRecDepth 100000 in
set_option maxHeartbeats 4000000 in
theorem law_mnil (c k v : Int) (w : World) : Calls Try.prog 3 #[.int .i64 c, .int .i64 k, .int .i64 v] w fun e w' => e = .returned (.bool true) ∧ Upd [] w w' := by
  go_enter Try.func3, Try.ntmps3
  go_wp2_with fail
  refine (m_get_nil c k w).mono ?_; rintro e w' ⟨rfl, rfl⟩
  go_wp2_with fail
  refine (m_ceil_nil c k w).mono ?_; rintro e w' ⟨rfl, rfl⟩
  go_wp2_with fail
  refine (m_size_nil c w).mono ?_; rintro e w' ⟨rfl, rfl⟩
  go_wp2_with fail
  refine (m_range_nil c k v w).mono ?_; rintro e w' ⟨rfl, rfl⟩
  go_wp2_with fail
  refine (m_list_nil c w).mono ?_; rintro e w' ⟨rfl, rfl⟩
  go_wp2_with fail
  refine (no_errno 1 (by omega) (by omega) _).mono ?_; rintro e w' ⟨rfl, rfl⟩
  go_wp2_with fail
  refine (no_errno 1 (by omega) (by omega) _).mono ?_; rintro e w' ⟨rfl, rfl⟩
  go_wp2_with fail
  refine (no_errno 1 (by omega) (by omega) _).mono ?_; rintro e w' ⟨rfl, rfl⟩
  go_wp2_with fail
  refine (no_errno 1 (by omega) (by omega) _).mono ?_; rintro e w' ⟨rfl, rfl⟩
  go_wp2_with fail
  refine (no_errno 1 (by omega) (by omega) _).mono ?_; rintro e w' ⟨rfl, rfl⟩
  go_wp2_with fail
  refine (m_put_nil c k v w).mono ?_; rintro e w' ⟨rfl, rfl⟩
  go_wp2_with fail
  refine (no_errno 1 (by omega) (by omega) _).mono ?_; rintro e w' ⟨rfl, rfl⟩
  go_wp2_with fail
  refine (m_del_nil c k w).mono ?_; rintro e w' ⟨rfl, rfl⟩
  go_wp2_with fail
  refine (no_errno 1 (by omega) (by omega) _).mono ?_; rintro e w' ⟨rfl, rfl⟩
  go_wp2_with fail
  refine (m_copy_nil w).mono ?_; rintro e w' ⟨rfl, rfl⟩
  go_wp2_with fail
  refine (m_same_nil w).mono ?_; rintro e w' ⟨rfl, rfl⟩
  go_wp2_with fail
  refine (m_kinds_nil w).mono ?_; rintro e w' ⟨rfl, rfl⟩
  go_wp2_with fail
  refine (m_alive w).mono ?_; rintro e w1 ⟨rfl, u1⟩
  have U1 := Lib.hid u1
  clear u1
  go_wp2_with fail
  go_ret
  exact ⟨rfl, U1.out⟩
end Go.Proofs.Ytjlpogmoebmkdaa

/-
  model.State that is none.
-/
import Derived.Test.YtjlpogmoebmkdaaMdl2
set_option linter.unusedVariables false
namespace Go.Proofs.Ytjlpogmoebmkdaa
open Go.RowKit Assoc MP
attribute [local go_sem] litStep_value

set_option maxRecDepth 100000 in
theorem m_coll_nil (c : Int) (w : World) : Calls Try.prog 16 #[.pointer none, .int .i64 c] w fun e w' => e = .returned (.tuple #[.map none, .iface 56 (.int .i64 1)]) ∧ w = w' := by
  go_enter Try.func16, Try.ntmps16
  go_wp2_with fail
  go_ret2
  exact ⟨rfl, rfl⟩
set_option maxRecDepth 100000 in
theorem m_get_nil (c k : Int) (w : World) : Calls Try.prog 4 #[.pointer none, .int .i64 c, .int .i64 k] w fun e w' => e = .returned (.tuple #[.int .i64 0, .bool false, .iface 56 (.int .i64 1)]) ∧ w = w' := by
  skip
  go_enter Try.func4, Try.ntmps4
  go_wp2_with fail
  refine (m_coll_nil c w).mono ?_; rintro e w1 ⟨rfl, rfl⟩
  go_wp2_with fail
  go_ret3
  exact ⟨rfl, rfl⟩
set_option maxRecDepth 100000 in
theorem m_put_nil (c k v : Int) (w : World) : Calls Try.prog 10 #[.pointer none, .int .i64 c, .int .i64 k, .int .i64 v] w fun e w' => e = .returned (.iface 56 (.int .i64 1)) ∧ w = w' := by
  skip
  go_enter Try.func10, Try.ntmps10
  go_wp2_with fail
  refine (m_coll_nil c w).mono ?_; rintro e w1 ⟨rfl, rfl⟩
  go_wp2_with fail
  go_ret
  exact ⟨rfl, rfl⟩
set_option maxRecDepth 100000 in
theorem m_del_nil (c k : Int) (w : World) : Calls Try.prog 11 #[.pointer none, .int .i64 c, .int .i64 k] w fun e w' => e = .returned (.iface 56 (.int .i64 1)) ∧ w = w' := by
  skip
  go_enter Try.func11, Try.ntmps11
  go_wp2_with fail
  refine (m_coll_nil c w).mono ?_; rintro e w1 ⟨rfl, rfl⟩
  go_wp2_with fail
  go_ret
  exact ⟨rfl, rfl⟩
set_option maxRecDepth 100000 in
theorem m_size_nil (c : Int) (w : World) : Calls Try.prog 6 #[.pointer none, .int .i64 c] w fun e w' => e = .returned (.tuple #[.int .i64 0, .iface 56 (.int .i64 1)]) ∧ w = w' := by
  have ln0 : ∀ W, (Builtin.len_ #[42] 3 #[.map none]).run Try.prog W = .ok (.int .i64 0) W := fun W => by kernel_rfl
  go_enter Try.func6, Try.ntmps6
  go_wp2_with fail
  refine (m_coll_nil c w).mono ?_; rintro e w1 ⟨rfl, rfl⟩
  go_wp2_with fail
  go_ret2
  exact ⟨rfl, rfl⟩
set_option maxRecDepth 100000 in
theorem m_ordered_nil (c : Int) (w : World) : Calls Try.prog 17 #[.pointer none, .int .i64 c] w fun e w' => e = .returned (.tuple #[.slice none 0 0, .iface 56 (.int .i64 1)]) ∧ w = w' := by
  skip
  go_enter Try.func17, Try.ntmps17
  go_wp2_with fail
  refine (m_coll_nil c w).mono ?_; rintro e w1 ⟨rfl, rfl⟩
  go_wp2_with fail
  go_ret2
  exact ⟨rfl, rfl⟩
set_option maxRecDepth 100000 in
theorem m_ceil_nil (c k : Int) (w : World) : Calls Try.prog 5 #[.pointer none, .int .i64 c, .int .i64 k] w fun e w' => e = .returned (.tuple #[.int .i64 0, .bool false, .iface 56 (.int .i64 1)]) ∧ w = w' := by
  skip
  go_enter Try.func5, Try.ntmps5
  go_wp2_with fail
  refine (m_ordered_nil c w).mono ?_; rintro e w1 ⟨rfl, rfl⟩
  go_wp2_with fail
  go_ret3
  exact ⟨rfl, rfl⟩
set_option maxRecDepth 100000 in
theorem m_range_nil (c k v : Int) (w : World) : Calls Try.prog 7 #[.pointer none, .int .i64 c, .int .i64 k, .int .i64 v] w fun e w' => e = .returned (.tuple #[.int .i64 0, .iface 56 (.int .i64 1)]) ∧ w = w' := by
  skip
  go_enter Try.func7, Try.ntmps7
  go_wp2_with fail
  refine (m_ordered_nil c w).mono ?_; rintro e w1 ⟨rfl, rfl⟩
  go_wp2_with fail
  go_ret2
  exact ⟨rfl, rfl⟩
set_option maxRecDepth 100000 in
theorem m_list_nil (c : Int) (w : World) : Calls Try.prog 8 #[.pointer none, .int .i64 c] w fun e w' => e = .returned (.tuple #[.slice none 0 0, .iface 56 (.int .i64 1)]) ∧ w = w' := by
  skip
  go_enter Try.func8, Try.ntmps8
  go_wp2_with fail
  refine (m_coll_nil c w).mono ?_; rintro e w1 ⟨rfl, rfl⟩
  go_wp2_with fail
  go_ret2
  exact ⟨rfl, rfl⟩
theorem m_copy_nil (w : World) : Calls Try.prog 12 #[.pointer none] w fun e w' => e = .returned (.pointer none) ∧ w = w' := by
  go_enter Try.func12, Try.ntmps12
  go_wp2_with fail
  go_ret
  exact ⟨rfl, rfl⟩
theorem m_same_nil (w : World) : Calls Try.prog 13 #[.pointer none, .pointer none] w fun e w' => e = .returned (.bool true) ∧ w = w' := by
  go_enter Try.func13, Try.ntmps13
  go_wp2_with fail
  go_ret
  exact ⟨rfl, rfl⟩
theorem m_kinds_nil (w : World) : Calls Try.prog 14 #[.pointer none] w fun e w' => e = .returned (.slice none 0 0) ∧ w = w' := by
  go_enter Try.func14, Try.ntmps14
  go_wp2_with fail
  go_ret
  exact ⟨rfl, rfl⟩
end Go.Proofs.Ytjlpogmoebmkdaa

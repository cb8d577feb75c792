/-
  SetsNil, the walk.
-/
import Derived.Test.YtbpmkbcpnnpdjaaSAlive
set_option linter.unusedVariables false
namespace Go.Proofs.Ytbpmkbcpnnpdjaa
open Go.RowKit
attribute [local go_sem] litStep_value

set_option maxRecDepth 100000 in
set_option maxHeartbeats 4000000 in
theorem law_snil (c x n : Int) (w : World) : Calls Try.prog 5 #[.int .u64 c, .int .u64 x, .int .i64 n] w fun e w' => e = .returned (.bool true) ∧ Upd [] w w' := by
  have U0 := Lib.hid (Upd.refl [] w)
  go_enter Try.func5, Try.ntmps5
  go_wp2_with fail
  refine (s_get_nil c w).mono ?_; rintro e w1 ⟨rfl, u⟩
  have U1 := Lib.hid (Upd.trans U0.out u)
  clear u
  go_wp2_with fail
  refine (s_version_nil c w1).mono ?_; rintro e w2 ⟨rfl, u⟩
  have U2 := Lib.hid (Upd.trans U1.out u)
  clear u
  go_wp2_with fail
  refine (s_mark_nil w2).mono ?_; rintro e w3 ⟨rfl, u⟩
  have U3 := Lib.hid (Upd.trans U2.out u)
  clear u
  go_wp2_with fail
  refine (s_read_nil c n w3).mono ?_; rintro e w4 ⟨rfl, u⟩
  have U4 := Lib.hid (Upd.trans U3.out u)
  clear u
  go_wp2_with fail
  refine (no_errno 1 (by omega) (by omega) _).mono ?_; rintro e w' ⟨rfl, rfl⟩
  go_wp2_with fail
  refine (s_write_nil c x w4).mono ?_; rintro e w5 ⟨rfl, u⟩
  have U5 := Lib.hid (Upd.trans U4.out u)
  clear u
  go_wp2_with fail
  refine (no_errno 1 (by omega) (by omega) _).mono ?_; rintro e w' ⟨rfl, rfl⟩
  go_wp2_with fail
  refine (no_errno 1 (by omega) (by omega) _).mono ?_; rintro e w' ⟨rfl, rfl⟩
  go_wp2_with fail
  refine (s_keep_nil n w5).mono ?_; rintro e w6 ⟨rfl, u⟩
  have U6 := Lib.hid (Upd.trans U5.out u)
  clear u
  go_wp2_with fail
  refine (no_errno 1 (by omega) (by omega) _).mono ?_; rintro e w' ⟨rfl, rfl⟩
  go_wp2_with fail
  refine (s_back_nil n w6).mono ?_; rintro e w7 ⟨rfl, u⟩
  have U7 := Lib.hid (Upd.trans U6.out u)
  clear u
  go_wp2_with fail
  refine (no_errno 1 (by omega) (by omega) _).mono ?_; rintro e w' ⟨rfl, rfl⟩
  go_wp2_with fail
  refine (s_reads_nil w7).mono ?_; rintro e w8 ⟨rfl, u⟩
  have U8 := Lib.hid (Upd.trans U7.out u)
  clear u
  go_wp2_with fail
  refine (s_writes_nil w8).mono ?_; rintro e w9 ⟨rfl, u⟩
  have U9 := Lib.hid (Upd.trans U8.out u)
  clear u
  go_wp2_with fail
  refine (s_alive w9).mono ?_; rintro e wa ⟨rfl, u⟩
  have UA := Lib.hid (Upd.trans U9.out u)
  clear u
  go_wp2_with fail
  go_ret
  exact ⟨rfl, UA.out⟩
end Go.Proofs.Ytbpmkbcpnnpdjaa

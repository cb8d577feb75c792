/-
  SnapNil, the walk.
-/
import Derived.Test.YthdjbflbhgbckaaCommon
set_option linter.unusedVariables false
namespace Go.Proofs.Ythdjbflbhgbckaa
open Go.RowKit Stab Snap Mrg
attribute [local go_sem] litStep_value

set_option maxRecDepth 100000 in
theorem s_apply_nil (v : Value) (w : World) : Calls Try.prog 28 #[.pointer none, v] w fun e w' => e = .returned (.tuple #[.pointer none, .iface 72 (.int .i64 1)]) ∧ w = w' := by
  go_enter Try.func28, Try.ntmps28
  go_wp2_with fail
  refine (s_is_nil w).mono ?_
  rintro e w1 ⟨rfl, rfl⟩
  go_wp2_with fail
  go_ret2
  exact ⟨rfl, rfl⟩
set_option maxRecDepth 100000 in
set_option maxHeartbeats 8000000 in
theorem law_snil (key : Int) (A : Option Addr) (n c : Nat) (l : List Tn) (w : World) (h : Rd encTn w (.slice A n c) l) (hn : l.length = n) :
    Calls Try.prog 8 #[.int .i64 key, .slice A n c] w fun e w' => e = .returned (.bool true) ∧ Upd [] w w' := by
  clear h hn
  go_enter Try.func8, Try.ntmps8
  go_wp2_with fail
  refine (s_get_nil key w).mono ?_; rintro e w' ⟨rfl, rfl⟩
  go_wp2_with fail
  refine (i_next_nil w).mono ?_; rintro e w1 ⟨rfl, u1⟩
  unfold toldP
  have U1 := Lib.hid (u1.alloc (.cells #[.int .i64 0, .int .i64 0] 42))
  clear u1
  go_wp2_with fail
  generalize (w1.alloc (.cells #[.int .i64 0, .int .i64 0] 42)) = w2 at *
  refine (i_back_nil w2).mono ?_; rintro e w3 ⟨rfl, u3⟩
  unfold toldP
  have U3 := Lib.hid ((U1.out.trans u3).alloc (.cells #[.int .i64 0, .int .i64 0] 42))
  clear u3 U1
  go_wp2_with fail
  generalize (w3.alloc (.cells #[.int .i64 0, .int .i64 0] 42)) = w4 at *
  refine (i_seek_nil key w4).mono ?_; rintro e w' ⟨rfl, rfl⟩
  go_wp2_with fail
  refine (s_apply_nil _ w4).mono ?_; rintro e w' ⟨rfl, rfl⟩
  go_wp2_with fail
  refine (s_floor_nil key w4).mono ?_; rintro e w5 ⟨rfl, u5⟩
  unfold toldP
  have U5 := Lib.hid ((U3.out.trans u5).alloc (.cells #[.int .i64 0, .int .i64 0] 42))
  clear u5 U3
  go_wp2_with fail
  generalize (w5.alloc (.cells #[.int .i64 0, .int .i64 0] 42)) = w6 at *
  refine (s_range_nil key key w6).mono ?_; rintro e w7 ⟨rfl, u7⟩
  have A8 : Hid (Upd [] w7 (w7.alloc (.cells #[.pointer none, .pointer none] 26))) := Lib.hid ((Upd.refl [] w7).alloc _)
  have R8 : Hid (Rd encSp (w7.alloc (.cells #[.pointer none, .pointer none] 26)) (.slice (some ⟨w7.heap.size, 0, none⟩) 2 2) [none, none]) := Lib.hid (.of_blk (Blk.new w7 _ _) (m := 2) 2 rfl)
  have U8 := Lib.hid ((U5.out.trans u7).trans A8.out)
  clear u7 U5
  go_wp2_with fail
  generalize (w7.alloc (.cells #[.pointer none, .pointer none] 26)) = w8 at *
  refine (s_common _ 2 2 [none, none] [[], []] w8 R8.out rfl rfl (by omega) (by omega) (by unfold maxLen; omega) (fun i hi => ?_)).mono ?_
  · match i, hi with
    | 0, _ => exact .inl ⟨rfl, rfl⟩
    | 1, _ => exact .inl ⟨rfl, rfl⟩
  rintro e w9 ⟨sc, rfl, s9, u9⟩
  have S9 := Lib.hid s9
  have U9 := Lib.hid (U8.out.trans u9)
  clear s9 u9 U8 A8 R8
  go_wp2_with fail
  refine (s_len _ sc _ w9 S9.out).mono ?_
  rintro e w' ⟨rfl, rfl⟩
  rw [show comF [[], []] = [] from rfl]
  go_wp2_with fail
  refine (s_len_nil w9).mono ?_; rintro e w' ⟨rfl, rfl⟩
  go_wp2_with fail
  refine (s_all_nil w9).mono ?_
  rintro e w10 ⟨va, rfl, oa, u10⟩
  obtain ⟨Aa, ca, rfl, _, _⟩ := own_slice oa
  have U10 := Lib.hid (U9.out.trans u10)
  clear oa u10 U9 S9
  go_wp2_with fail
  refine (i_left_nil w10).mono ?_; rintro e w' ⟨rfl, rfl⟩
  go_wp2_with fail
  refine (s_diff (.pointer none) (.pointer none) [] [] w10 (.inl ⟨rfl, rfl⟩) (.inl ⟨rfl, rfl⟩)).mono ?_
  rintro e w11 ⟨vd, rfl, od, u11⟩
  rw [show diffL [] [] = [] by unfold diffL; rfl] at od
  obtain ⟨Ad, cd, rfl, _, _⟩ := own_slice od
  have U11 := Lib.hid (U10.out.trans u11)
  clear od u11 U10
  go_wp2_with fail
  refine (s_iter_nil w11).mono ?_; rintro e w' ⟨rfl, rfl⟩
  go_wp2_with fail
  refine (no_errno 1 (by omega) (by omega) w11).mono ?_; rintro e w' ⟨rfl, rfl⟩
  have A12 : Hid (Upd [] w11 (w11.alloc (.cells #[.pointer none, .pointer none] 26))) := Lib.hid ((Upd.refl [] w11).alloc _)
  have R12 : Hid (Rd encSp (w11.alloc (.cells #[.pointer none, .pointer none] 26)) (.slice (some ⟨w11.heap.size, 0, none⟩) 2 2) [none, none]) := Lib.hid (.of_blk (Blk.new w11 _ _) (m := 2) 2 rfl)
  have U12 := Lib.hid (U11.out.trans A12.out)
  clear U11
  go_wp2_with fail
  generalize (w11.alloc (.cells #[.pointer none, .pointer none] 26)) = w12 at *
  refine (s_merge _ 2 2 [none, none] [[], []] w12 R12.out rfl rfl (by omega) (fun i hi => ?_) (by simp)).mono ?_
  · match i, hi with
    | 0, _ => exact .inl ⟨rfl, rfl⟩
    | 1, _ => exact .inl ⟨rfl, rfl⟩
  rintro e w13 ⟨M, sm, rfl, um, s13, u13⟩
  have S13 := Lib.hid s13
  have ML : Hid (M.length = 0) := Lib.hid (by have := um.len; simpa using this)
  have U13 := Lib.hid (U12.out.trans u13)
  clear um s13 u13 U12 A12 R12
  go_wp2_with fail
  refine (s_len _ sm _ w13 S13.out).mono ?_
  rintro e w' ⟨rfl, rfl⟩
  rw [ML.out]
  go_wp2_with fail
  refine (alive27 w13).mono ?_; rintro e w9 ⟨rfl, u9⟩
  have U9 := Lib.hid (U13.out.trans u9)
  clear u9
  go_wp2_with fail
  go_ret
  exact ⟨rfl, U9.out⟩
end Go.Proofs.Ythdjbflbhgbckaa

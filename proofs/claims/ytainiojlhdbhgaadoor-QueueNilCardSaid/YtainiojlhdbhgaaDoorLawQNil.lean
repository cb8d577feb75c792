/-
  QueueNil, the walk.
-/
import Derived.Test.YtainiojlhdbhgaaDoorQAlive
set_option linter.unusedVariables false
namespace Go.Proofs.YtainiojlhdbhgaaDoor
open Go.RowKit HeapPlain

set_option maxRecDepth 100000 in
set_option maxHeartbeats 2000000 in
theorem law_qnil (x y : Int) (w : World) (hg : Typed w) : Calls Tryd.prog 8 #[.agg #[.int .i64 x, .int .i64 y]] w fun e w' => e = .returned (.bool true) ∧ Upd [] w w' := by
  have HG := Lib.hid hg
  clear hg
  go_enter Tryd.func8, Tryd.ntmps8
  go_wp2_with fail
  have U1 : Hid (Upd [] w (w.alloc (.cells #[.int .i64 x, .int .i64 y] 29))) := Lib.hid ((Upd.refl [] w).alloc _)
  have Y1 : Hid (Blk (w.alloc (.cells #[.int .i64 x, .int .i64 y] 29)) w.heap.size 29 #[.int .i64 x, .int .i64 y]) := Lib.hid (Blk.new w _ _)
  generalize (w.alloc (.cells #[.int .i64 x, .int .i64 y] 29)) = w1 at *
  refine (q_next_nil w1).mono ?_; rintro e w2 ⟨rfl, u2⟩
  have U2 := Lib.hid (U1.out.trans u2)
  have Y2 := Lib.hid (Y1.out.upd u2 (by simp))
  clear u2
  unfold vT
  have y0 : w2.cell? ⟨w.heap.size, 0, none⟩ = some (.int .i64 x) := Y2.out.cell 0
  have y1 : w2.cell? ⟨w.heap.size, 1, none⟩ = some (.int .i64 y) := Y2.out.cell 1
  have yl : w.heap.size < w2.heap.size := Y2.out.lt
  go_wp2_with fail
  have A2 : Hid (Upd [] w2 (w2.alloc (.cells #[.int .i64 0, .int .i64 0] 29))) := Lib.hid ((Upd.refl [] w2).alloc _)
  generalize (w2.alloc (.cells #[.int .i64 0, .int .i64 0] 29)) = w3 at *
  have U3 := Lib.hid (U2.out.trans A2.out)
  have Y3 := Lib.hid (Y2.out.upd A2.out (by simp))
  clear y0 y1 yl
  refine (q_push_nil ⟨x, y⟩ w3).mono ?_; rintro e w4 ⟨rfl, u4⟩
  have U4 := Lib.hid (U3.out.trans u4)
  have Y4 := Lib.hid (Y3.out.upd u4 (by simp))
  clear u4
  go_wp2_with fail
  refine (no_errno 1 (by omega) (by omega) _).mono ?_; rintro e w' ⟨rfl, rfl⟩
  have y0 : w4.cell? ⟨w.heap.size, 0, none⟩ = some (.int .i64 x) := Y4.out.cell 0
  have y1 : w4.cell? ⟨w.heap.size, 1, none⟩ = some (.int .i64 y) := Y4.out.cell 1
  go_wp2_with fail
  refine (q_move_nil _ _ _).mono ?_; rintro e w' ⟨rfl, rfl⟩
  go_wp2_with fail
  refine (no_errno 1 (by omega) (by omega) _).mono ?_; rintro e w' ⟨rfl, rfl⟩
  go_wp2_with fail
  refine (q_cancel_nil _ _).mono ?_; rintro e w' ⟨rfl, rfl⟩
  go_wp2_with fail
  refine (no_errno 1 (by omega) (by omega) _).mono ?_; rintro e w' ⟨rfl, rfl⟩
  go_wp2_with fail
  refine (q_due_nil _ _).mono ?_; rintro e w5 ⟨rfl, u5⟩
  have U5 := Lib.hid (U4.out.trans u5)
  clear u5
  go_wp2_with fail
  refine (q_len_nil _).mono ?_; rintro e w' ⟨rfl, rfl⟩
  go_wp2_with fail
  refine (q_all_nil _).mono ?_; rintro e w' ⟨rfl, rfl⟩
  go_wp2_with fail
  refine (alive_ok _ (HG.out.upd U5.out (by simp))).mono ?_; rintro e w6 ⟨rfl, u6⟩
  go_wp2_with fail
  go_ret
  exact ⟨rfl, U5.out.trans u6⟩
end Go.Proofs.YtainiojlhdbhgaaDoor

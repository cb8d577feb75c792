/-
  EvalNil, the walk.
-/
import Derived.Test.YtfbeaklplefojaaDoorEvN22
set_option linter.unusedVariables false
namespace Go.Proofs.YtfbeaklplefojaaDoor.Ev
open Go.RowKit Assoc MP
attribute [local go_sem] litStep_value

set_option maxRecDepth 100000 in
set_option maxHeartbeats 4000000 in
theorem run_nil (v : Value) (w : World) : Calls Tryd.prog 4 #[.pointer none, v] w fun e w' => e = .returned (.tuple #[.pointer none, .agg #[.int .i64 0, .slice none 0 0], .iface 39 (.int .i64 1)]) ∧ Upd [] w w' := by
  have BN := Blk.new w 26 #[.int .i64 0, .slice none 0 0]
  have EB : Hid (Blk (w.alloc (.cells #[.int .i64 0, .slice none 0 0] 26)) w.heap.size 26 #[.int .i64 0, .slice none 0 0]) := Lib.hid BN
  have UA : Hid (Upd [] w (w.alloc (.cells #[.int .i64 0, .slice none 0 0] 26))) := Lib.hid ((Upd.refl [] w).alloc _)
  clear BN
  go_enter Tryd.func4, Tryd.ntmps4
  go_wp2_with fail
  generalize (w.alloc (.cells #[.int .i64 0, .slice none 0 0] 26)) = w1 at EB UA ⊢
  refine (m_copy_nil w1).mono ?_; rintro e w' ⟨rfl, rfl⟩
  have c0 : w1.cell? ⟨w.heap.size, 0, none⟩ = some (.int .i64 0) := EB.out.cell 0
  have c1 : w1.cell? ⟨w.heap.size, 1, none⟩ = some (.slice none 0 0) := EB.out.cell 1
  have cf := EB.out.frozen
  have cl := EB.out.lt
  go_wp2_with fail
  have E9 : Hid (Blk ((w1.setCell ⟨w.heap.size, 0, none⟩ (.int .i64 0)).setCell ⟨w.heap.size, 1, none⟩ (.slice none 0 0)) w.heap.size 26 #[.int .i64 0, .slice none 0 0]) := Lib.hid ((EB.out.set_eq (i := 0) rfl).set_eq (i := 1) rfl)
  have U9 : Hid (Upd [] w ((w1.setCell ⟨w.heap.size, 0, none⟩ (.int .i64 0)).setCell ⟨w.heap.size, 1, none⟩ (.slice none 0 0))) := Lib.hid ((UA.out.setCell (.inr (Nat.le_refl _)) _).setCell (.inr (Nat.le_refl _)) _)
  clear c0 c1 cf cl
  generalize ((w1.setCell ⟨w.heap.size, 0, none⟩ (.int .i64 0)).setCell ⟨w.heap.size, 1, none⟩ (.slice none 0 0)) = W9 at E9 U9 ⊢
  have d0 : W9.cell? ⟨w.heap.size, 0, none⟩ = some (.int .i64 0) := E9.out.cell 0
  have d1 : W9.cell? ⟨w.heap.size, 1, none⟩ = some (.slice none 0 0) := E9.out.cell 1
  exact bodyPost_ret (v := .tuple #[.pointer none, .agg #[.int .i64 0, .slice none 0 0], .iface 39 (.int .i64 1)]) (by simp [results, Tryd.results4, go_sem, d0, d1]) rfl ⟨rfl, U9.out⟩
set_option maxRecDepth 100000 in
set_option maxHeartbeats 4000000 in
theorem all_nil (v : Value) (w : World) : Calls Tryd.prog 5 #[.pointer none, v] w fun e w' => e = .returned (.tuple #[.pointer none, .slice none 0 0, .iface 39 (.int .i64 1)]) ∧ Upd [] w w' := by
  go_enter Tryd.func5, Tryd.ntmps5
  go_wp2_with fail
  refine (m_copy_nil w).mono ?_; rintro e w' ⟨rfl, rfl⟩
  go_wp2_with fail
  go_ret3
  exact ⟨rfl, .refl _ _⟩
set_option maxRecDepth 100000 in
set_option maxHeartbeats 4000000 in
theorem law_enil (v : Value) (l : List Stm) (w : World) (hv : Stms w w.heap.size v l) (hg : Typed w) :
    Calls Tryd.prog 3 #[v] w fun e w' => e = .returned (.bool true) ∧ Upd [] w w' := by
  obtain ⟨X, xn, xc, rfl⟩ := hv.slice
  have HG := Lib.hid hg
  clear hg hv
  go_enter Tryd.func3, Tryd.ntmps3
  go_wp2_with fail
  refine (run_nil _ w).mono ?_; rintro e w1 ⟨rfl, u1⟩
  have U1 := Lib.hid u1
  clear u1
  go_wp2_with fail
  have UA : Hid (Upd [] w1 ((w1.alloc (.cells #[.int .i64 0, .slice none 0 0] 26)).alloc (.cells #[.slice X xn xc] 22))) := Lib.hid (((Upd.refl [] w1).alloc _).alloc _)
  have BA : Hid (Blk ((w1.alloc (.cells #[.int .i64 0, .slice none 0 0] 26)).alloc (.cells #[.slice X xn xc] 22)) w1.heap.size 26 #[.int .i64 0, .slice none 0 0]) := Lib.hid ((Blk.new _ _ _).alloc _)
  refine (all_nil _ _).mono ?_; rintro e w2 ⟨rfl, u2⟩
  have U2 := Lib.hid (U1.out.trans (UA.out.trans u2))
  have B2 := Lib.hid (BA.out.upd u2 (by simp))
  have c0 : w2.cell? ⟨w1.heap.size, 0, none⟩ = some (.int .i64 0) := B2.out.cell 0
  have c1 : w2.cell? ⟨w1.heap.size, 1, none⟩ = some (.slice none 0 0) := B2.out.cell 1
  clear u2 UA BA
  go_wp2_with fail
  refine (esame_ok 0 0 0 0 [] [] (.slice none 0 0) (.slice none 0 0) w2 (Ow.nil _ _ _ _) (Ow.nil _ _ _ _) (by decide) (by decide)).mono ?_; rintro e w3 ⟨rfl, u3⟩
  rw [show decide ((0 : Int) = 0 ∧ ([] : List Int) = []) = true by decide]
  have U3 := Lib.hid (U2.out.trans u3)
  clear u3 c0 c1
  go_wp2_with fail
  refine (no_errno 1 (by omega) (by omega) w3).mono ?_; rintro e w' ⟨rfl, rfl⟩
  go_wp2_with fail
  refine (no_errno 1 (by omega) (by omega) w3).mono ?_; rintro e w' ⟨rfl, rfl⟩
  go_wp2_with fail
  refine (e_alive w3 (HG.out.upd U3.out (by simp))).mono ?_; rintro e w9 ⟨rfl, u9⟩
  have U9 := Lib.hid (U3.out.trans u9)
  clear u9
  go_wp2_with fail
  go_ret
  exact ⟨rfl, U9.out⟩
end Go.Proofs.YtfbeaklplefojaaDoor.Ev

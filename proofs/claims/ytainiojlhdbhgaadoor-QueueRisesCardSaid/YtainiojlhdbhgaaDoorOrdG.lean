/-
  queue.order, once more: the world behind it is some draws and some blocks on.
-/
import Derived.Test.YtainiojlhdbhgaaDoorTim
import Derived.Sort.Grow
set_option linter.unusedVariables false
namespace Go.Proofs.YtainiojlhdbhgaaDoor
open Go.RowKit HeapPlain Go.Sort

def Grown (w w' : World) : Prop := ∃ q os, w' = grow (w.drewN q) os
theorem Grown.refl (w : World) : Grown w w := ⟨0, #[], by rw [grow_empty]; rfl⟩
theorem Grown.drew {w w' : World} (h : Grown w w') : Grown w w'.drew := by
  obtain ⟨q, os, rfl⟩ := h
  exact ⟨q + 1, os, rfl⟩
theorem Grown.alloc {w w' : World} (h : Grown w w') (o : Obj) : Grown w (w'.alloc o) := by
  obtain ⟨q, os, rfl⟩ := h
  exact ⟨q, os ++ #[o], by rw [alloc_eq_grow, grow_grow]⟩

set_option maxRecDepth 100000 in
set_option maxHeartbeats 1000000 in
theorem order_grown (a b : Tm) (w : World) : Calls Tryd.prog 32 #[.agg #[.int .i64 a.wn, .int .i64 a.id], .agg #[.int .i64 b.wn, .int .i64 b.id]] w fun e w' => e = .returned (.int .i64 (orL [cmpI a.wn b.wn, cmpI a.id b.id])) ∧ Grown w w' := by
  go_enter Tryd.func32, Tryd.ntmps32
  go_wp2_with fail
  have B0 : Hid (Blk ((w.alloc (.cells #[.int .i64 a.wn, .int .i64 a.id] 29)).alloc (.cells #[.int .i64 b.wn, .int .i64 b.id] 29)) w.heap.size 29 #[.int .i64 a.wn, .int .i64 a.id]) := Lib.hid ((Blk.new w _ _).alloc _)
  have B1 : Hid (Blk ((w.alloc (.cells #[.int .i64 a.wn, .int .i64 a.id] 29)).alloc (.cells #[.int .i64 b.wn, .int .i64 b.id] 29)) (w.heap.size + 1) 29 #[.int .i64 b.wn, .int .i64 b.id]) := Lib.hid (Blk.newAt _ _ (by simp))
  have U0 : Hid (Grown w ((w.alloc (.cells #[.int .i64 a.wn, .int .i64 a.id] 29)).alloc (.cells #[.int .i64 b.wn, .int .i64 b.id] 29))) := Lib.hid (((Grown.refl w).alloc _).alloc _)
  generalize ((w.alloc (.cells #[.int .i64 a.wn, .int .i64 a.id] 29)).alloc (.cells #[.int .i64 b.wn, .int .i64 b.id] 29)) = w1 at *
  have KP : Hid (∀ W, Upd [] w1 W → W.cell? ⟨w.heap.size, 0, none⟩ = some (.int .i64 a.wn) ∧ W.cell? ⟨w.heap.size, 1, none⟩ = some (.int .i64 a.id) ∧ W.cell? ⟨w.heap.size + 1, 0, none⟩ = some (.int .i64 b.wn) ∧ W.cell? ⟨w.heap.size + 1, 1, none⟩ = some (.int .i64 b.id)) := Lib.hid (fun W hW => ⟨(B0.out.upd hW (by simp)).cell 0, (B0.out.upd hW (by simp)).cell 1, (B1.out.upd hW (by simp)).cell 0, (B1.out.upd hW (by simp)).cell 1⟩)
  have v0 : Upd [] w1 w1.drew := (Upd.refl [] _).drew
  go_region_held3 (fun W => W.cell? ⟨w.heap.size, 0, none⟩ = some (.int .i64 a.wn) ∧ W.cell? ⟨w.heap.size, 1, none⟩ = some (.int .i64 a.id) ∧ W.cell? ⟨w.heap.size + 1, 0, none⟩ = some (.int .i64 b.wn) ∧ W.cell? ⟨w.heap.size + 1, 1, none⟩ = some (.int .i64 b.id)) (first | exact KP.out _ (v0.alloc _) | exact KP.out _ v0)
    (first | (go_at_call 47; refine (compare_ok _ _ _).mono ?_; rintro e w' ⟨rfl, rfl⟩) | (go_at_call 46; refine (or_ok w1.heap.size 2 [cmpI a.wn b.wn, cmpI a.id b.id] _ ((Blk.new w1 _ _).drew) (by simp)).mono ?_; rintro e w' ⟨rfl, rfl⟩))
  go_wp2_with fail
  go_ret
  exact ⟨rfl, (U0.out.alloc _).drew⟩
end Go.Proofs.YtainiojlhdbhgaaDoor

/-
  queue.timers: what it keeps; order.
-/
import Derived.Test.YtainiojlhdbhgaaDoorIMap
import Derived.Test.YtainiojlhdbhgaaDoorDrawK
import Derived.Test.YtainiojlhdbhgaaDoorCmp
import Derived.Test.YtainiojlhdbhgaaDoorUpdP
import Derived.Test.YtainiojlhdbhgaaDoorHeapBTimers
set_option linter.unusedVariables false
namespace Go.Proofs.YtainiojlhdbhgaaDoor
open Go.RowKit HeapPlain
attribute [local go_sem] litStep_value

structure Tm where
  wn : Int
  id : Int
deriving Inhabited, DecidableEq
def flatT (L : List Tm) : List Value := L.flatMap fun t => [.int .i64 t.wn, .int .i64 t.id]
def ltT (a b : Tm) : Bool := decide (a.wn < b.wn) || (a.wn == b.wn && decide (a.id < b.id))
theorem ltT_or (a b : Tm) : decide (orL [cmpI a.wn b.wn, cmpI a.id b.id] < 0) = ltT a b := by
  unfold ltT orL orL cmpI
  rcases Int.lt_trichotomy a.wn b.wn with h | h | h
  · simp [h]
  · have h1 : ¬ a.wn < b.wn := by omega
    have h2 : ¬ b.wn < a.wn := by omega
    simp [h]
    rcases Int.lt_trichotomy a.id b.id with g | g | g
    · simp [g]
    · simp [g, orL]
    · have : ¬ a.id < b.id := by omega
      simp [g, this]
  · have h1 : ¬ a.wn < b.wn := by omega
    have h2 : ¬ a.wn = b.wn := by omega
    simp [h, h1, h2]
theorem ltT_ord : Ord ltT := ⟨fun a b h => by
    unfold ltT at h ⊢
    simp at h ⊢
    omega, fun a b c h1 h2 => by
    unfold ltT at h1 h2 ⊢
    simp at h1 h2 ⊢
    omega⟩
theorem ltT_irr (a : Tm) : ltT a a = false := by unfold ltT; simp

theorem flatT_len (L : List Tm) : (flatT L).length = L.length * 2 := by
  induction L with
  | nil => rfl
  | cons a L ih => unfold flatT at ih ⊢; rw [List.flatMap_cons, List.length_append, ih]; simp; omega
theorem flatT_get : ∀ (L : List Tm) (k : Nat) (t : Tm), L[k]? = some t → (flatT L)[k * 2]? = some (.int .i64 t.wn) ∧ (flatT L)[k * 2 + 1]? = some (.int .i64 t.id)
  | [], k, t, h => by simp at h
  | a :: L, 0, t, h => by simp at h; subst h; exact ⟨rfl, rfl⟩
  | a :: L, k + 1, t, h => by
    obtain ⟨h1, h2⟩ := flatT_get L k t (by simpa using h)
    unfold flatT at h1 h2 ⊢
    rw [List.flatMap_cons]
    rw [List.getElem?_append_right (by simp; omega), List.getElem?_append_right (by simp; omega)]
    constructor
    · rw [← h1]; congr 1; simp; omega
    · rw [← h2]; congr 1; simp; omega
theorem flatT_append (L M : List Tm) : flatT (L ++ M) = flatT L ++ flatT M := by unfold flatT; rw [List.flatMap_append]

set_option maxRecDepth 100000 in
set_option maxHeartbeats 1000000 in
theorem order_ok (a b : Tm) (w : World) : Calls Tryd.prog 32 #[.agg #[.int .i64 a.wn, .int .i64 a.id], .agg #[.int .i64 b.wn, .int .i64 b.id]] w fun e w' => e = .returned (.int .i64 (orL [cmpI a.wn b.wn, cmpI a.id b.id])) ∧ Upd [] w w' := by
  go_enter Tryd.func32, Tryd.ntmps32
  go_wp2_with fail
  have B0 : Hid (Blk ((w.alloc (.cells #[.int .i64 a.wn, .int .i64 a.id] 29)).alloc (.cells #[.int .i64 b.wn, .int .i64 b.id] 29)) w.heap.size 29 #[.int .i64 a.wn, .int .i64 a.id]) := Lib.hid ((Blk.new w _ _).alloc _)
  have B1 : Hid (Blk ((w.alloc (.cells #[.int .i64 a.wn, .int .i64 a.id] 29)).alloc (.cells #[.int .i64 b.wn, .int .i64 b.id] 29)) (w.heap.size + 1) 29 #[.int .i64 b.wn, .int .i64 b.id]) := Lib.hid (Blk.newAt _ _ (by simp))
  have U0 : Hid (Upd [] w ((w.alloc (.cells #[.int .i64 a.wn, .int .i64 a.id] 29)).alloc (.cells #[.int .i64 b.wn, .int .i64 b.id] 29))) := Lib.hid (((Upd.refl [] w).alloc _).alloc _)
  generalize ((w.alloc (.cells #[.int .i64 a.wn, .int .i64 a.id] 29)).alloc (.cells #[.int .i64 b.wn, .int .i64 b.id] 29)) = w1 at *
  have C0 : Hid (∀ W, Upd [] w1.drew W → (∀ i, W.cell? ⟨w.heap.size, i, none⟩ = (#[Value.int .i64 a.wn, .int .i64 a.id] : Array Value)[i]?)) := Lib.hid (fun W hW => (B0.out.drew.upd hW (by simp)).cell)
  have C1 : Hid (∀ W, Upd [] w1.drew W → (∀ i, W.cell? ⟨w.heap.size + 1, i, none⟩ = (#[Value.int .i64 b.wn, .int .i64 b.id] : Array Value)[i]?)) := Lib.hid (fun W hW => (B1.out.drew.upd hW (by simp)).cell)
  refine wp_invN [(4, .det (.int .i64 (cmpI a.wn b.wn))), (9, .det (.int .i64 (cmpI a.id b.id))), (10, .lit 3 #[.int .i64 (cmpI a.wn b.wn), .int .i64 (cmpI a.id b.id)] 2), (11, .det (.int .i64 (orL [cmpI a.wn b.wn, cmpI a.id b.id])))] [] (by kernel_rfl) (by kernel_rfl) (by kernel_rfl) ⟨lasts_det _, lasts_det _, lasts_lit _ _ _, lasts_det _, trivial⟩ ?_
  with_reducible apply wpV_light
  · simp only [lightOp]
  · intro W hU hF
    have f0 := C0.out W hU
    have f1 := C1.out W hU
    clear hU hF
    go_simp
    exact rfl
  simp only [Act.put, List.setIfInBounds_toArray, List.set_cons_zero, List.set_cons_succ]
  with_reducible apply wpV_light
  · simp only [lightOp]
  · intro W hU hF
    have f0 := C0.out W hU
    have f1 := C1.out W hU
    clear hU hF
    go_simp
    exact rfl
  simp only [Act.put, List.setIfInBounds_toArray, List.set_cons_zero, List.set_cons_succ]
  with_reducible apply wpV_light
  · simp only [lightOp]
  · intro W hU hF
    have f0 := C0.out W hU
    have f1 := C1.out W hU
    clear hU hF
    go_simp
    exact rfl
  simp only [Act.put, List.setIfInBounds_toArray, List.set_cons_zero, List.set_cons_succ]
  with_reducible apply wpV_light
  · simp only [lightOp]
  · intro W hU hF
    have f0 := C0.out W hU
    have f1 := C1.out W hU
    clear hU hF
    go_simp
    exact rfl
  simp only [Act.put, List.setIfInBounds_toArray, List.set_cons_zero, List.set_cons_succ]
  refine wpV_heavy (by simp only [lightOp]) (by rfl) (fun W hU hk hF K hK => ?_) ?_
  · go_wp2_with fail
    refine (compare_ok a.wn b.wn W).mono ?_; rintro e w2 ⟨rfl, rfl⟩
    go_wp2_with fail
    exact hK.out _ _ (outV_new rfl rfl (by intro b hb; cases hb) (.refl _ _))
  rintro _ rfl
  simp only [Act.put, List.setIfInBounds_toArray, List.set_cons_zero, List.set_cons_succ]
  with_reducible apply wpV_light
  · simp only [lightOp]
  · intro W hU hF
    have f0 := C0.out W hU
    have f1 := C1.out W hU
    clear hU hF
    go_simp
    exact rfl
  simp only [Act.put, List.setIfInBounds_toArray, List.set_cons_zero, List.set_cons_succ]
  with_reducible apply wpV_light
  · simp only [lightOp]
  · intro W hU hF
    have f0 := C0.out W hU
    have f1 := C1.out W hU
    clear hU hF
    go_simp
    exact rfl
  simp only [Act.put, List.setIfInBounds_toArray, List.set_cons_zero, List.set_cons_succ]
  with_reducible apply wpV_light
  · simp only [lightOp]
  · intro W hU hF
    have f0 := C0.out W hU
    have f1 := C1.out W hU
    clear hU hF
    go_simp
    exact rfl
  simp only [Act.put, List.setIfInBounds_toArray, List.set_cons_zero, List.set_cons_succ]
  with_reducible apply wpV_light
  · simp only [lightOp]
  · intro W hU hF
    have f0 := C0.out W hU
    have f1 := C1.out W hU
    clear hU hF
    go_simp
    exact rfl
  simp only [Act.put, List.setIfInBounds_toArray, List.set_cons_zero, List.set_cons_succ]
  refine wpV_heavy (by simp only [lightOp]) (by rfl) (fun W hU hk hF K hK => ?_) ?_
  · go_wp2_with fail
    refine (compare_ok a.id b.id W).mono ?_; rintro e w2 ⟨rfl, rfl⟩
    go_wp2_with fail
    exact hK.out _ _ (outV_new rfl rfl (by intro b hb; cases hb) (.refl _ _))
  rintro _ rfl
  simp only [Act.put, List.setIfInBounds_toArray, List.set_cons_zero, List.set_cons_succ]
  refine wpV_heavy (by simp only [lightOp]) (by rfl) (fun W hU hk hF K hK => ?_) ?_
  · go_wp2_with fail
    exact wpV_lit hK rfl rfl rfl
  rintro _ ⟨g, rfl⟩
  simp only [Act.put, List.setIfInBounds_toArray, List.set_cons_zero, List.set_cons_succ]
  refine wpV_heavy (by simp only [lightOp]) (by rfl) (fun W hU hk hF K hK => ?_) ?_
  · go_wp2_with fail
    obtain ⟨g', he, hb⟩ := hF.out.2.2.1 (by kernel_rfl)
    injection he with he _ _
    injection he with he
    injection he with he
    subst he
    refine (or_ok g 2 [cmpI a.wn b.wn, cmpI a.id b.id] W hb (by simp)).mono ?_; rintro e w2 ⟨rfl, rfl⟩
    go_wp2_with fail
    exact hK.out _ _ (outV_new rfl rfl (by intro b hb; cases hb) (.refl _ _))
  rintro _ rfl
  simp only [Act.put, List.setIfInBounds_toArray, List.set_cons_zero, List.set_cons_succ]
  with_reducible apply wpV_light
  · simp only [lightOp]
  · intro W hU hF
    have f0 := C0.out W hU
    have f1 := C1.out W hU
    clear hU hF
    go_simp
    exact rfl
  simp only [Act.put, List.setIfInBounds_toArray, List.set_cons_zero, List.set_cons_succ]
  refine wpV_end (fun W hU _ _ => ?_)
  have U2 : Hid (Upd [] w W) := Lib.hid (U0.out.drew.trans hU)
  clear hU
  refine wpT_end ?_
  go_wp2_with fail
  go_ret
  exact ⟨rfl, U2.out⟩
end Go.Proofs.YtainiojlhdbhgaaDoor

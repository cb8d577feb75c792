/-
  concordref04: Ahead, and the queue as a list in order: Find, put, Push, Cancel, Move, Due.
-/
import Derived.Test.YtainiojlhdbhgaaDoorQPlain
import Derived.Test.YtainiojlhdbhgaaDoorAppV
import Derived.Test.YtainiojlhdbhgaaDoorForced2
set_option linter.unusedVariables false
namespace Go.Proofs.YtainiojlhdbhgaaDoor
open Go.RowKit HeapPlain
attribute [local go_sem] litStep_value

/-- The document's queue in block rb. -/
def RSt (B rb : Nat) (w : World) (S : List Tm) : Prop := ∃ v, Blk w rb 47 #[v] ∧ w.ownsRow B 29 2 v S.length (flatT S)
theorem RSt.upd0 {B rb : Nat} {w w' : World} {S : List Tm} (h : RSt B rb w S) (hu : Upd [] w w') : RSt B rb w' S := by
  obtain ⟨v, h1, h2⟩ := h
  exact ⟨v, h1.upd hu (by simp), own_upd0 h2 hu⟩
theorem flatT_take (S : List Tm) (k : Nat) : flatT (S.take k) = (flatT S).take (k * 2) := by
  induction S generalizing k with
  | nil => simp [flatT]
  | cons a S ih =>
    cases k with
    | zero => simp [flatT]
    | succ k =>
      have := ih k
      unfold flatT at this ⊢
      rw [List.take_succ_cons, List.flatMap_cons, List.flatMap_cons, this, show (k + 1) * 2 = k * 2 + 2 by omega]
      rfl
theorem flatT_drop (S : List Tm) (k : Nat) : flatT (S.drop k) = (flatT S).drop (k * 2) := by
  induction S generalizing k with
  | nil => simp [flatT]
  | cons a S ih =>
    cases k with
    | zero => simp [flatT]
    | succ k =>
      have := ih k
      unfold flatT at this ⊢
      rw [List.drop_succ_cons, List.flatMap_cons, this, show (k + 1) * 2 = k * 2 + 2 by omega]
      rfl
theorem flatT_one (S : List Tm) : ∀ u ∈ flatT S, u.oneCell' = true := by
  intro u hu
  obtain ⟨t, _, h⟩ := List.mem_flatMap.1 hu
  simp at h
  rcases h with rfl | rfl <;> rfl

set_option maxHeartbeats 1000000 in
theorem rahead_ok (a b : Tm) (w : World) : Calls Tryd.prog 17 #[.agg #[.int .i64 a.wn, .int .i64 a.id], .agg #[.int .i64 b.wn, .int .i64 b.id]] w fun e w' => e = .returned (.bool (ltT a b)) ∧ Upd [] w w' := by
  obtain ⟨r, hr⟩ : ∃ r, ltT a b = r := ⟨_, rfl⟩
  have HR := Lib.hid hr
  rw [hr]
  clear hr
  by_cases h1 : a.wn < b.wn
  · have d1 : decide (a.wn < b.wn) = true := by simpa using h1
    have HX : Hid (r = true) := Lib.hid (by rw [← HR.out]; unfold ltT; simp [h1])
    go_enter Tryd.func17, Tryd.ntmps17
    go_wp2_with fail
    go_ret
    exact ⟨by rw [HX.out]; rfl, ((Upd.refl [] w).alloc _).alloc _⟩
  · have d1 : decide (a.wn < b.wn) = false := by simpa using h1
    by_cases h2 : a.wn = b.wn
    · have d2 : (a.wn == b.wn) = true := by simpa using h2
      by_cases h3 : a.id < b.id
      · have d3 : decide (a.id < b.id) = true := by simpa using h3
        have HX : Hid (r = true) := Lib.hid (by rw [← HR.out]; unfold ltT; simp [h1, h2, h3])
        clear h1 h2 h3
        go_enter Tryd.func17, Tryd.ntmps17
        go_wp2_with fail
        go_ret
        exact ⟨by rw [HX.out]; rfl, ((Upd.refl [] w).alloc _).alloc _⟩
      · have d3 : decide (a.id < b.id) = false := by simpa using h3
        have HX : Hid (r = false) := Lib.hid (by rw [← HR.out]; unfold ltT; simp [h1, h2, h3])
        clear h1 h2 h3
        go_enter Tryd.func17, Tryd.ntmps17
        go_wp2_with fail
        go_ret
        exact ⟨by rw [HX.out]; rfl, ((Upd.refl [] w).alloc _).alloc _⟩
    · have d2 : (a.wn == b.wn) = false := by simpa using h2
      have HX : Hid (r = false) := Lib.hid (by rw [← HR.out]; unfold ltT; simp [h1, h2])
      clear h1 h2
      go_enter Tryd.func17, Tryd.ntmps17
      go_wp2_with fail
      go_ret
      exact ⟨by rw [HX.out]; rfl, ((Upd.refl [] w).alloc _).alloc _⟩

def posI (S : List Tm) (id : Int) : Int := ((posS S id).map (fun (k : Nat) => (k : Int))).getD (-1)
theorem posS_at {S : List Tm} {id : Int} {k : Nat} {x : Tm} (h : ∀ j, j < k → (S.getD j default).id ≠ id) (hx : S[k]? = some x) (e : x.id = id) : posS S id = some k := by
  unfold posS
  obtain ⟨hk, rfl⟩ := List.getElem?_eq_some_iff.1 hx
  rw [List.findIdx?_eq_some_iff_getElem]
  refine ⟨hk, by simpa using e, fun j hj => ?_⟩
  have := h j hj
  rw [List.getD_eq_getElem?_getD, List.getElem?_eq_getElem (by omega)] at this
  simpa using this
theorem posS_no {S : List Tm} {id : Int} (h : ∀ j, j < S.length → (S.getD j default).id ≠ id) : posS S id = none := by
  unfold posS
  rw [List.findIdx?_eq_none_iff]
  intro x hx
  obtain ⟨j, hj, rfl⟩ := List.getElem_of_mem hx
  have := h j hj
  rw [List.getD_eq_getElem?_getD, List.getElem?_eq_getElem hj] at this
  simpa using this

set_option maxHeartbeats 1000000 in
theorem rfind_ok (B rb : Nat) (S : List Tm) (id : Int) (w : World) (h : RSt B rb w S) (hS : S.length ≤ 1000) :
    Calls Tryd.prog 48 #[.pointer (some ⟨rb, 0, none⟩), .int .i64 id] w fun e w' => e = .returned (.int .i64 (posI S id)) ∧ w = w' := by
  obtain ⟨v, hb, ho⟩ := h
  obtain ⟨A, c, rfl, hnc, hcm⟩ := own_slice ho
  obtain ⟨n, hn⟩ : ∃ n, S.length = n := ⟨_, rfl⟩
  obtain ⟨r, hr⟩ : ∃ r, posI S id = r := ⟨_, rfl⟩
  have c0 : w.cell? ⟨rb, 0, none⟩ = some (.slice A n c) := by rw [← hn]; exact hb.cell 0
  rw [hn] at hnc hS
  rw [hr]
  have HO := Lib.hid ho
  have HN := Lib.hid hn
  have HR := Lib.hid hr
  clear hb ho hn hr
  go_enter Tryd.func48, Tryd.ntmps48
  go_wp2_with fail
  go_loop [5] (fun v => ∃ k : Nat, v = .int .i64 k ∧ k ≤ n ∧ Hid (∀ j, j < k → (S.getD j default).id ≠ id)) (fun v => n - (intOf v).toNat)
  case atStart => exact ⟨0, rfl, by omega, Lib.hid (fun j hj => by omega)⟩
  case round =>
    obtain ⟨k, rfl, hk, HA⟩ := hrel
    by_cases hkn : k < n
    · obtain ⟨x, hx⟩ : ∃ x, S[k]? = some x := ⟨_, List.getElem?_eq_getElem (by rw [HN.out]; omega)⟩
      obtain ⟨g, cg, cur, e1, _⟩ := own_form HO.out (by rw [HN.out]; omega)
      injection e1 with e1 _ e1'
      subst e1 e1'
      have e0 : w.cell? ⟨g, k * 2 + 1, none⟩ = some (.int .i64 x.id) := own_cell HO.out _ _ (flatT_get S k x hx).2
      have HX := Lib.hid hx
      have q1 : (0 : Int) ≤ (k : Int) := by omega
      have q2 : (k : Int) < (n : Int) := by omega
      clear hx
      by_cases hid : x.id = id
      · have d : (x.id == id) = true := by simpa using hid
        have HZ : Hid (r = k) := Lib.hid (by rw [← HR.out]; unfold posI; rw [posS_at HA.out HX.out hid]; rfl)
        clear hid
        go_wp2_with fail
        go_ret
        exact ⟨by rw [HZ.out]; rfl, rfl⟩
      · have d : (x.id == id) = false := by simpa using hid
        have HZ : Hid (∀ j, j < k + 1 → (S.getD j default).id ≠ id) := Lib.hid (fun j hj => by
          by_cases e : j = k
          · rw [e, List.getD_eq_getElem?_getD, HX.out]; exact hid
          · exact HA.out j (by omega))
        clear hid
        go_wp2_with fail
        go_round
        case rel => exact ⟨k + 1, by go_num, by omega, HZ⟩
        case measure => simp [intOf]; omega
    · have : k = n := by omega
      subst this
      have HZ : Hid (r = -1) := Lib.hid (by rw [← HR.out]; unfold posI; rw [posS_no (by rw [HN.out]; exact HA.out)]; rfl)
      go_wp2_with fail
      go_ret
      exact ⟨by rw [HZ.out]; rfl, rfl⟩

set_option maxRecDepth 100000 in
set_option maxHeartbeats 4000000 in
theorem rput_ok (B rb : Nat) (S : List Tm) (t : Tm) (w : World) (h : RSt B rb w S) (hS : S.length ≤ 1000) :
    Calls Tryd.prog 49 #[.pointer (some ⟨rb, 0, none⟩), .agg #[.int .i64 t.wn, .int .i64 t.id]] w fun e w' => e = .returned (.tuple #[]) ∧ RSt w.heap.size rb w' (insO ltT S t) ∧ Upd [rb] w w' := by
  obtain ⟨v, hb, ho⟩ := h
  obtain ⟨A, c, rfl, hnc, hcm⟩ := own_slice ho
  obtain ⟨n, hn⟩ : ∃ n, S.length = n := ⟨_, rfl⟩
  rw [hn] at hnc hS hb ho
  have HB := Lib.hid hb
  have HO := Lib.hid ho
  have HN := Lib.hid hn
  have hrb := hb.lt
  unfold maxLen at hcm
  clear hb ho hn
  go_enter Tryd.func49, Tryd.ntmps49
  go_wp2_with fail
  have U1 : Hid (Upd [] w (w.alloc (.cells #[.int .i64 t.wn, .int .i64 t.id] 29))) := Lib.hid ((Upd.refl [] w).alloc _)
  have Y1 : Hid (Blk (w.alloc (.cells #[.int .i64 t.wn, .int .i64 t.id] 29)) w.heap.size 29 #[.int .i64 t.wn, .int .i64 t.id]) := Lib.hid (Blk.new w _ _)
  generalize (w.alloc (.cells #[.int .i64 t.wn, .int .i64 t.id] 29)) = w1 at *
  go_loopw [4] (fun v wr => ∃ k : Nat, v = .int .i64 k ∧ k ≤ n ∧ Hid (Upd [] w1 wr) ∧ Hid (∀ j, j < k → ltT (S.getD j default) t = true)) (fun v _ => n - (intOf v).toNat)
  case atStart => exact ⟨0, rfl, by omega, Lib.hid (.refl _ _), Lib.hid (fun j hj => by omega)⟩
  case round =>
    obtain ⟨k, rfl, hk, KU, HA⟩ := hrel
    have q1 : (0 : Int) ≤ (k : Int) := by omega
    have q3 : (k : Int) ≤ (c : Int) := by omega
    have q4 : (n : Int) ≤ (c : Int) := by omega
    have q5 : (k : Int) ≤ (n : Int) := by omega
    by_cases hkn : k < n
    · obtain ⟨x, hx⟩ : ∃ x, S[k]? = some x := ⟨_, List.getElem?_eq_getElem (by rw [HN.out]; omega)⟩
      have hxd : S.getD k default = x := by rw [List.getD_eq_getElem?_getD, hx]; rfl
      have HXD := Lib.hid hxd
      obtain ⟨g, cg, cur, e1, _⟩ := own_form HO.out (by omega)
      injection e1 with e1 _ e1'
      subst e1 e1'
      have KW : Hid (Upd [] w wr) := Lib.hid (U1.out.trans KU.out)
      have HO2 := Lib.hid (own_upd0 HO.out KW.out)
      have HB2 := Lib.hid (HB.out.upd KW.out (by simp))
      have HY2 := Lib.hid (Y1.out.upd KU.out (by simp))
      have e0 : wr.cell? ⟨g, k * 2, none⟩ = some (.int .i64 x.wn) := own_cell HO2.out _ _ (flatT_get S k x hx).1
      have e1 : wr.cell? ⟨g, k * 2 + 1, none⟩ = some (.int .i64 x.id) := own_cell HO2.out _ _ (flatT_get S k x hx).2
      have c0 : wr.cell? ⟨rb, 0, none⟩ = some (.slice (some ⟨g, 0, none⟩) n c) := HB2.out.cell 0
      have y0 : wr.cell? ⟨w.heap.size, 0, none⟩ = some (.int .i64 t.wn) := HY2.out.cell 0
      have y1 : wr.cell? ⟨w.heap.size, 1, none⟩ = some (.int .i64 t.id) := HY2.out.cell 1
      have q2 : (k : Int) < (n : Int) := by omega
      clear hx hxd
      go_wp2_with fail
      refine wp_forced (by kernel_rfl) (by kernel_rfl) ?_
      simp only [ordered, List.filter_cons, List.filter_nil, isFloat, Option.isNone_none, Option.isNone_some, Bool.true_and, Bool.and_true, Bool.false_and, Bool.and_false, List.all_toArray, List.all_cons, List.all_nil, Region.binds, Bool.not_true, Bool.not_false, if_true, if_false, Bool.false_eq_true, List.cons_append, List.nil_append, ite_true, ite_false]
      repeat (first | ((with_reducible refine wpF_no ?_ ?_); (· rfl); simp only [Act.put, List.setIfInBounds_toArray, List.set_cons_zero, List.set_cons_succ]) | ((with_reducible refine wpF_light ?_ (fun K hK => ?_)); (· simp only [lightOp]; done); go_simp; refine hK _ ?_; clear hK K; simp only [Act.put, List.setIfInBounds_toArray, List.set_cons_zero, List.set_cons_succ]))
      refine wpF_call (by simp only [lightOp]) (by rfl) (fun K hK => ?_)
      go_wp2_with fail
      refine (rahead_ok x t _).mono ?_; rintro e w2 ⟨rfl, u2⟩
      have U2 : Hid (Upd [] w1 w2) := Lib.hid (KU.out.drew.trans u2)
      clear u2 e0 e1 c0 y0 y1
      cases hb : ltT x t with
      | true =>
        go_wp2_with fail
        refine hK.out _ _ ?_
        clear hK K
        try simp only [Act.put, List.setIfInBounds_toArray, List.set_cons_zero, List.set_cons_succ]
        repeat (first | ((with_reducible refine wpF_no ?_ ?_); (· rfl); simp only [Act.put, List.setIfInBounds_toArray, List.set_cons_zero, List.set_cons_succ]) | ((with_reducible refine wpF_light ?_ (fun K hK => ?_)); (· simp only [lightOp]; done); go_simp; refine hK _ ?_; clear hK K; simp only [Act.put, List.setIfInBounds_toArray, List.set_cons_zero, List.set_cons_succ]))
        refine wpF_end ?_
        go_wp2_with fail
        go_roundw
        case rel => exact ⟨k + 1, by go_num, by omega, U2, Lib.hid (fun j hj => by
          by_cases e : j = k
          · rw [e, HXD.out]; exact hb
          · exact HA.out j (by omega))⟩
        case measure => simp [intOf]; omega
      | false =>
        have HE : Hid (S.length = k ∨ ltT (S.getD k default) t = false) := Lib.hid (.inr (by rw [HXD.out]; exact hb))
        clear hb
        go_wp2_with fail
        refine hK.out _ _ ?_
        clear hK K
        try simp only [Act.put, List.setIfInBounds_toArray, List.set_cons_zero, List.set_cons_succ]
        repeat (first | ((with_reducible refine wpF_no ?_ ?_); (· rfl); simp only [Act.put, List.setIfInBounds_toArray, List.set_cons_zero, List.set_cons_succ]) | ((with_reducible refine wpF_light ?_ (fun K hK => ?_)); (· simp only [lightOp]; done); go_simp; refine hK _ ?_; clear hK K; simp only [Act.put, List.setIfInBounds_toArray, List.set_cons_zero, List.set_cons_succ]))
        refine wpF_end ?_
        generalize (some (⟨g, 0, none⟩ : Addr)) = A at *
        have W2 : Hid (Upd [] w w2) := Lib.hid (U1.out.trans U2.out)
        have CS : Hid (∀ W, Upd [] w2.drew W → W.cell? ⟨rb, 0, none⟩ = some (.slice A n c) ∧ W.cell? ⟨w.heap.size, 0, none⟩ = some (.int .i64 t.wn) ∧ W.cell? ⟨w.heap.size, 1, none⟩ = some (.int .i64 t.id)) := Lib.hid (fun W hW => by
          have hu : Upd [] w2 W := (Upd.refl [] w2).drew.trans hW
          have hy := Y1.out.upd (U2.out.trans hu) (by simp)
          exact ⟨(HB.out.upd (W2.out.trans hu) (by simp)).cell 0, hy.cell 0, hy.cell 1⟩)
        have F1 : Hid (∀ W, Upd [] w2.drew W → Src W 2 (.slice A k c) k (flatT (S.take k))) := Lib.hid (fun W hW => by
          have hu : Upd [] w2 W := (Upd.refl [] w2).drew.trans hW
          rw [flatT_take]
          exact (Src.of_own (own_upd0 HO.out (W2.out.trans hu))).take k hk c)
        have F2 : Hid (∀ W, Upd [] w2.drew W → Src W 2 (.slice (if c = k then A else Option.map (fun x => x.add (k * 2)) A) (n - k) (c - k)) (n - k) (flatT (S.drop k))) := Lib.hid (fun W hW => by
          have hu : Upd [] w2 W := (Upd.refl [] w2).drew.trans hW
          rw [flatT_drop]
          exact (Src.of_own (own_upd0 HO.out (W2.out.trans hu))).drop k hk hnc (c - k))
        have SZ : Hid (w.heap.size ≤ w2.heap.size) := Lib.hid W2.out.size
        have EQ : Hid (flatT (S.take k) ++ ([Value.int .i64 t.wn, Value.int .i64 t.id] ++ flatT (S.drop k)) = flatT (insO ltT S t) ∧ (insO ltT S t).length = n + 1) := Lib.hid (by
          rw [insO_at S t k (by rw [HN.out]; exact hk) HA.out HE.out]
          refine ⟨?_, ?_⟩
          · rw [flatT_append]; rfl
          · simp [HN.out]; omega)
        clear KU
        go_wp2_with fail
        refine wp_invNT 21 [(1, .own w.heap.size 29 2 0 []), (8, .own w.heap.size 29 2 k (flatT (S.take k))), (10, .lit 29 #[.int .i64 t.wn, .int .i64 t.id] 1), (11, .own w.heap.size 29 2 (k + 1) (flatT (S.take k) ++ [.int .i64 t.wn, .int .i64 t.id])), (18, .own w.heap.size 29 2 (n + 1) (flatT (S.take k) ++ [.int .i64 t.wn, .int .i64 t.id] ++ flatT (S.drop k)))] [(8, [1]), (11, [8]), (18, [11])] (by kernel_rfl) (by simp) (by kernel_rfl) (by kernel_rfl) ⟨lasts_own _ _ _ _ _ (by simp [maxLen]), lasts_own _ _ _ _ _ (by unfold maxLen; omega), lasts_lit _ _ _, lasts_own _ _ _ _ _ (by unfold maxLen; omega), lasts_own _ _ _ _ _ (by unfold maxLen; omega), trivial⟩ ?_
        simp only [List.take_succ_cons, List.take_zero, List.drop_succ_cons, List.drop_zero]
        with_reducible apply wpV_light
        · simp only [lightOp]
        · intro W hU hF
          have f0 := CS.out W hU
          clear hU hF
          go_simp
          exact rfl
        simp only [Act.put, List.setIfInBounds_toArray, List.set_cons_zero, List.set_cons_succ]
        refine wpV_heavy (by simp only [lightOp]) (by rfl) (fun W hU hk hF K hK => ?_) ?_
        · go_wp2_with fail
          exact wpV_made hK rfl rfl rfl rfl (Nat.le_trans SZ.out hU.size)
        rintro _ ⟨A1, c1, rfl, _, _⟩
        simp only [Act.put, List.setIfInBounds_toArray, List.set_cons_zero, List.set_cons_succ]
        with_reducible apply wpV_light
        · simp only [lightOp]
        · intro W hU hF
          have f0 := CS.out W hU
          clear hU hF
          go_simp
          exact rfl
        simp only [Act.put, List.setIfInBounds_toArray, List.set_cons_zero, List.set_cons_succ]
        with_reducible apply wpV_light
        · simp only [lightOp]
        · intro W hU hF
          have f0 := CS.out W hU
          clear hU hF
          go_simp
          exact rfl
        simp only [Act.put, List.setIfInBounds_toArray, List.set_cons_zero, List.set_cons_succ]
        with_reducible apply wpV_light
        · simp only [lightOp]
        · intro W hU hF
          have f0 := CS.out W hU
          clear hU hF
          go_simp
          exact rfl
        simp only [Act.put, List.setIfInBounds_toArray, List.set_cons_zero, List.set_cons_succ]
        with_reducible apply wpV_light
        · simp only [lightOp]
        · intro W hU hF
          have f0 := CS.out W hU
          clear hU hF
          go_simp
          exact rfl
        simp only [Act.put, List.setIfInBounds_toArray, List.set_cons_zero, List.set_cons_succ]
        with_reducible apply wpV_light
        · simp only [lightOp]
        · intro W hU hF
          have f0 := CS.out W hU
          clear hU hF
          go_simp
          exact rfl
        simp only [Act.put, List.setIfInBounds_toArray, List.set_cons_zero, List.set_cons_succ]
        with_reducible apply wpV_light
        · simp only [lightOp]
        · intro W hU hF
          have f0 := CS.out W hU
          clear hU hF
          go_simp
          exact rfl
        simp only [Act.put, List.setIfInBounds_toArray, List.set_cons_zero, List.set_cons_succ]
        refine wpV_heavy (by simp only [lightOp]) (by rfl) (fun W hU hk hF K hK => ?_) ?_
        · exact wpV_app hK (.tmp 26) (.tmp 32) _ (by rfl) tim_elem _ _ (by rfl) (by rfl) rfl rfl (by simp [usedV, mkI, conOf, specOf, Spec.own]) (hF.out.1 (by kernel_rfl)) (F1.out W hU) (by omega) (by simp) (flatT_one _) (by unfold maxLen; omega) (by omega) (Nat.le_trans SZ.out hU.size)
        rintro _ ⟨A2, c2, rfl, _, _⟩
        simp only [Act.put, List.setIfInBounds_toArray, List.set_cons_zero, List.set_cons_succ]
        with_reducible apply wpV_light
        · simp only [lightOp]
        · intro W hU hF
          have f0 := CS.out W hU
          clear hU hF
          go_simp
          exact rfl
        simp only [Act.put, List.setIfInBounds_toArray, List.set_cons_zero, List.set_cons_succ]
        refine wpV_heavy (by simp only [lightOp]) (by rfl) (fun W hU hk hF K hK => ?_) ?_
        · go_wp2_with fail
          exact wpV_lit hK rfl rfl rfl
        rintro _ ⟨g3, rfl⟩
        simp only [Act.put, List.setIfInBounds_toArray, List.set_cons_zero, List.set_cons_succ]
        refine wpV_heavy (by simp only [lightOp]) (by rfl) (fun W hU hk hF K hK => ?_) ?_
        · obtain ⟨g', he, hbl⟩ := hF.out.2.2.1 (by kernel_rfl)
          injection he with he _ _
          injection he with he
          injection he with he
          subst he
          exact wpV_app hK (.tmp 33) (.tmp 35) _ (by rfl) tim_elem _ _ (by rfl) (by rfl) rfl rfl (by simp [usedV, mkI, conOf, specOf, Spec.own]) (hF.out.2.1 (by kernel_rfl)) (.of_blk hbl (m := 1) 1 rfl) (by omega) (by simp) (by intro u hu; simp at hu; rcases hu with rfl | rfl <;> rfl) (by unfold maxLen; omega) (by omega) (Nat.le_trans SZ.out hU.size)
        rintro _ ⟨A4, c4, rfl, _, _⟩
        simp only [Act.put, List.setIfInBounds_toArray, List.set_cons_zero, List.set_cons_succ]
        with_reducible apply wpV_light
        · simp only [lightOp]
        · intro W hU hF
          have f0 := CS.out W hU
          clear hU hF
          go_simp
          exact rfl
        simp only [Act.put, List.setIfInBounds_toArray, List.set_cons_zero, List.set_cons_succ]
        with_reducible apply wpV_light
        · simp only [lightOp]
        · intro W hU hF
          have f0 := CS.out W hU
          clear hU hF
          go_simp
          exact rfl
        simp only [Act.put, List.setIfInBounds_toArray, List.set_cons_zero, List.set_cons_succ]
        with_reducible apply wpV_light
        · simp only [lightOp]
        · intro W hU hF
          have f0 := CS.out W hU
          clear hU hF
          go_simp
          exact rfl
        simp only [Act.put, List.setIfInBounds_toArray, List.set_cons_zero, List.set_cons_succ]
        with_reducible apply wpV_light
        · simp only [lightOp]
        · intro W hU hF
          have f0 := CS.out W hU
          clear hU hF
          go_simp
          exact rfl
        simp only [Act.put, List.setIfInBounds_toArray, List.set_cons_zero, List.set_cons_succ]
        with_reducible apply wpV_light
        · simp only [lightOp]
        · intro W hU hF
          have f0 := CS.out W hU
          clear hU hF
          go_simp
          exact rfl
        simp only [Act.put, List.setIfInBounds_toArray, List.set_cons_zero, List.set_cons_succ]
        with_reducible apply wpV_light
        · simp only [lightOp]
        · intro W hU hF
          have f0 := CS.out W hU
          clear hU hF
          go_simp
          exact rfl
        simp only [Act.put, List.setIfInBounds_toArray, List.set_cons_zero, List.set_cons_succ]
        refine wpV_heavy (by simp only [lightOp]) (by rfl) (fun W hU hk hF K hK => ?_) ?_
        · exact wpV_app hK (.tmp 36) (.tmp 42) _ (by rfl) tim_elem _ _ (by rfl) (by rfl) rfl rfl (by simp [usedV, mkI, conOf, specOf, Spec.own]) (hF.out.2.2.2.1 (by kernel_rfl)) (F2.out W hU) (by omega) (by simp) (flatT_one _) (by unfold maxLen; omega) (by omega) (Nat.le_trans SZ.out hU.size)
        rintro _ ⟨A5, c5, rfl, _, _⟩
        simp only [Act.put, List.setIfInBounds_toArray, List.set_cons_zero, List.set_cons_succ]
        with_reducible apply wpV_light
        · simp only [lightOp]
        · intro W hU hF
          have f0 := CS.out W hU
          clear hU hF
          go_simp
          exact rfl
        simp only [Act.put, List.setIfInBounds_toArray, List.set_cons_zero, List.set_cons_succ]
        with_reducible apply wpV_light
        · simp only [lightOp]
        · intro W hU hF
          have f0 := CS.out W hU
          clear hU hF
          go_simp
          exact rfl
        simp only [Act.put, List.setIfInBounds_toArray, List.set_cons_zero, List.set_cons_succ]
        refine wpV_end (fun W hU _ hF => ?_)
        have U3 : Hid (Upd [] w W) := Lib.hid (W2.out.drew.trans hU)
        have O3 : Hid (W.ownsRow w.heap.size 29 2 (.slice A5 (n + 1) c5) (n + 1) (flatT (insO ltT S t))) := Lib.hid (by
          have := hF.out.2.2.2.2.1 (by kernel_rfl)
          rw [← EQ.out.1, ← List.append_assoc]
          exact this)
        have HB3 := Lib.hid (HB.out.upd U3.out (by simp))
        have f0 : W.cell? ⟨rb, 0, none⟩ = some (.slice A n c) := HB3.out.cell 0
        have f1 : W.frozen? ⟨rb, 0, none⟩ = false := HB3.out.frozen 0
        have f2 : rb < W.heap.size := HB3.out.lt
        clear hU hF
        refine wpT_op (by rfl) (fun K hK => ?_)
        go_wp2_with fail
        all_goals
          refine hK.out _ _ ?_
          clear hK K
          try simp only [Act.put, List.setIfInBounds_toArray, List.set_cons_zero, List.set_cons_succ]
          refine wpT_end ?_
          go_wp2_with fail
          go_end0
          have UF : Upd [rb] W (W.setCell ⟨rb, 0, none⟩ (.slice A5 (n + 1) c5)) := (Upd.refl [rb] W).setCell (.inl (by simp)) _
          have nb : ∀ b, (Value.slice A5 (n + 1) c5).ownBlock = some b → b ≠ rb := fun b hb e => by
            subst e
            exact (own_type O3.out HB3.out (by decide)) hb
          refine ⟨rfl, ⟨_, HB3.out.set_eq rfl, ?_⟩, (U3.out.mono (by simp)).trans UF⟩
          rw [EQ.out.2]
          exact own_upd O3.out UF (by intro b hb; simpa using nb b hb)
    · have HE : Hid (S.length = k ∨ ltT (S.getD k default) t = false) := Lib.hid (.inl (by rw [HN.out]; omega))
      have c0 : wr.cell? ⟨rb, 0, none⟩ = some (.slice A n c) := (HB.out.upd (U1.out.trans KU.out) (by simp)).cell 0
      have d1 : decide ((k : Int) < (n : Int)) = false := by simp; omega
      have d2 : decide (k < n) = false := by simp; omega
      go_wp2_with fail
      refine wp_forced (by kernel_rfl) (by kernel_rfl) ?_
      simp only [ordered, List.filter_cons, List.filter_nil, isFloat, Option.isNone_none, Option.isNone_some, Bool.true_and, Bool.and_true, Bool.false_and, Bool.and_false, List.all_toArray, List.all_cons, List.all_nil, Region.binds, Bool.not_true, Bool.not_false, if_true, if_false, Bool.false_eq_true, List.cons_append, List.nil_append, ite_true, ite_false]
      repeat (first | ((with_reducible refine wpF_no ?_ ?_); (· rfl); simp only [Act.put, List.setIfInBounds_toArray, List.set_cons_zero, List.set_cons_succ]) | ((with_reducible refine wpF_light ?_ (fun K hK => ?_)); (· simp only [lightOp]; done); go_simp; refine hK _ ?_; clear hK K; simp only [Act.put, List.setIfInBounds_toArray, List.set_cons_zero, List.set_cons_succ]))
      refine wpF_end ?_
      have U2 : Hid (Upd [] w1 wr.drew) := Lib.hid KU.out.drew
      generalize wr.drew = w2 at *
      clear c0
      have W2 : Hid (Upd [] w w2) := Lib.hid (U1.out.trans U2.out)
      have CS : Hid (∀ W, Upd [] w2.drew W → W.cell? ⟨rb, 0, none⟩ = some (.slice A n c) ∧ W.cell? ⟨w.heap.size, 0, none⟩ = some (.int .i64 t.wn) ∧ W.cell? ⟨w.heap.size, 1, none⟩ = some (.int .i64 t.id)) := Lib.hid (fun W hW => by
        have hu : Upd [] w2 W := (Upd.refl [] w2).drew.trans hW
        have hy := Y1.out.upd (U2.out.trans hu) (by simp)
        exact ⟨(HB.out.upd (W2.out.trans hu) (by simp)).cell 0, hy.cell 0, hy.cell 1⟩)
      have F1 : Hid (∀ W, Upd [] w2.drew W → Src W 2 (.slice A k c) k (flatT (S.take k))) := Lib.hid (fun W hW => by
        have hu : Upd [] w2 W := (Upd.refl [] w2).drew.trans hW
        rw [flatT_take]
        exact (Src.of_own (own_upd0 HO.out (W2.out.trans hu))).take k hk c)
      have F2 : Hid (∀ W, Upd [] w2.drew W → Src W 2 (.slice (if c = k then A else Option.map (fun x => x.add (k * 2)) A) (n - k) (c - k)) (n - k) (flatT (S.drop k))) := Lib.hid (fun W hW => by
        have hu : Upd [] w2 W := (Upd.refl [] w2).drew.trans hW
        rw [flatT_drop]
        exact (Src.of_own (own_upd0 HO.out (W2.out.trans hu))).drop k hk hnc (c - k))
      have SZ : Hid (w.heap.size ≤ w2.heap.size) := Lib.hid W2.out.size
      have EQ : Hid (flatT (S.take k) ++ ([Value.int .i64 t.wn, Value.int .i64 t.id] ++ flatT (S.drop k)) = flatT (insO ltT S t) ∧ (insO ltT S t).length = n + 1) := Lib.hid (by
        rw [insO_at S t k (by rw [HN.out]; exact hk) HA.out HE.out]
        refine ⟨?_, ?_⟩
        · rw [flatT_append]; rfl
        · simp [HN.out]; omega)
      clear KU
      go_wp2_with fail
      refine wp_invNT 21 [(1, .own w.heap.size 29 2 0 []), (8, .own w.heap.size 29 2 k (flatT (S.take k))), (10, .lit 29 #[.int .i64 t.wn, .int .i64 t.id] 1), (11, .own w.heap.size 29 2 (k + 1) (flatT (S.take k) ++ [.int .i64 t.wn, .int .i64 t.id])), (18, .own w.heap.size 29 2 (n + 1) (flatT (S.take k) ++ [.int .i64 t.wn, .int .i64 t.id] ++ flatT (S.drop k)))] [(8, [1]), (11, [8]), (18, [11])] (by kernel_rfl) (by simp) (by kernel_rfl) (by kernel_rfl) ⟨lasts_own _ _ _ _ _ (by simp [maxLen]), lasts_own _ _ _ _ _ (by unfold maxLen; omega), lasts_lit _ _ _, lasts_own _ _ _ _ _ (by unfold maxLen; omega), lasts_own _ _ _ _ _ (by unfold maxLen; omega), trivial⟩ ?_
      simp only [List.take_succ_cons, List.take_zero, List.drop_succ_cons, List.drop_zero]
      with_reducible apply wpV_light
      · simp only [lightOp]
      · intro W hU hF
        have f0 := CS.out W hU
        clear hU hF
        go_simp
        exact rfl
      simp only [Act.put, List.setIfInBounds_toArray, List.set_cons_zero, List.set_cons_succ]
      refine wpV_heavy (by simp only [lightOp]) (by rfl) (fun W hU hk hF K hK => ?_) ?_
      · go_wp2_with fail
        exact wpV_made hK rfl rfl rfl rfl (Nat.le_trans SZ.out hU.size)
      rintro _ ⟨A1, c1, rfl, _, _⟩
      simp only [Act.put, List.setIfInBounds_toArray, List.set_cons_zero, List.set_cons_succ]
      with_reducible apply wpV_light
      · simp only [lightOp]
      · intro W hU hF
        have f0 := CS.out W hU
        clear hU hF
        go_simp
        exact rfl
      simp only [Act.put, List.setIfInBounds_toArray, List.set_cons_zero, List.set_cons_succ]
      with_reducible apply wpV_light
      · simp only [lightOp]
      · intro W hU hF
        have f0 := CS.out W hU
        clear hU hF
        go_simp
        exact rfl
      simp only [Act.put, List.setIfInBounds_toArray, List.set_cons_zero, List.set_cons_succ]
      with_reducible apply wpV_light
      · simp only [lightOp]
      · intro W hU hF
        have f0 := CS.out W hU
        clear hU hF
        go_simp
        exact rfl
      simp only [Act.put, List.setIfInBounds_toArray, List.set_cons_zero, List.set_cons_succ]
      with_reducible apply wpV_light
      · simp only [lightOp]
      · intro W hU hF
        have f0 := CS.out W hU
        clear hU hF
        go_simp
        exact rfl
      simp only [Act.put, List.setIfInBounds_toArray, List.set_cons_zero, List.set_cons_succ]
      with_reducible apply wpV_light
      · simp only [lightOp]
      · intro W hU hF
        have f0 := CS.out W hU
        clear hU hF
        go_simp
        exact rfl
      simp only [Act.put, List.setIfInBounds_toArray, List.set_cons_zero, List.set_cons_succ]
      with_reducible apply wpV_light
      · simp only [lightOp]
      · intro W hU hF
        have f0 := CS.out W hU
        clear hU hF
        go_simp
        exact rfl
      simp only [Act.put, List.setIfInBounds_toArray, List.set_cons_zero, List.set_cons_succ]
      refine wpV_heavy (by simp only [lightOp]) (by rfl) (fun W hU hk hF K hK => ?_) ?_
      · exact wpV_app hK (.tmp 26) (.tmp 32) _ (by rfl) tim_elem _ _ (by rfl) (by rfl) rfl rfl (by simp [usedV, mkI, conOf, specOf, Spec.own]) (hF.out.1 (by kernel_rfl)) (F1.out W hU) (by omega) (by simp) (flatT_one _) (by unfold maxLen; omega) (by omega) (Nat.le_trans SZ.out hU.size)
      rintro _ ⟨A2, c2, rfl, _, _⟩
      simp only [Act.put, List.setIfInBounds_toArray, List.set_cons_zero, List.set_cons_succ]
      with_reducible apply wpV_light
      · simp only [lightOp]
      · intro W hU hF
        have f0 := CS.out W hU
        clear hU hF
        go_simp
        exact rfl
      simp only [Act.put, List.setIfInBounds_toArray, List.set_cons_zero, List.set_cons_succ]
      refine wpV_heavy (by simp only [lightOp]) (by rfl) (fun W hU hk hF K hK => ?_) ?_
      · go_wp2_with fail
        exact wpV_lit hK rfl rfl rfl
      rintro _ ⟨g3, rfl⟩
      simp only [Act.put, List.setIfInBounds_toArray, List.set_cons_zero, List.set_cons_succ]
      refine wpV_heavy (by simp only [lightOp]) (by rfl) (fun W hU hk hF K hK => ?_) ?_
      · obtain ⟨g', he, hbl⟩ := hF.out.2.2.1 (by kernel_rfl)
        injection he with he _ _
        injection he with he
        injection he with he
        subst he
        exact wpV_app hK (.tmp 33) (.tmp 35) _ (by rfl) tim_elem _ _ (by rfl) (by rfl) rfl rfl (by simp [usedV, mkI, conOf, specOf, Spec.own]) (hF.out.2.1 (by kernel_rfl)) (.of_blk hbl (m := 1) 1 rfl) (by omega) (by simp) (by intro u hu; simp at hu; rcases hu with rfl | rfl <;> rfl) (by unfold maxLen; omega) (by omega) (Nat.le_trans SZ.out hU.size)
      rintro _ ⟨A4, c4, rfl, _, _⟩
      simp only [Act.put, List.setIfInBounds_toArray, List.set_cons_zero, List.set_cons_succ]
      with_reducible apply wpV_light
      · simp only [lightOp]
      · intro W hU hF
        have f0 := CS.out W hU
        clear hU hF
        go_simp
        exact rfl
      simp only [Act.put, List.setIfInBounds_toArray, List.set_cons_zero, List.set_cons_succ]
      with_reducible apply wpV_light
      · simp only [lightOp]
      · intro W hU hF
        have f0 := CS.out W hU
        clear hU hF
        go_simp
        exact rfl
      simp only [Act.put, List.setIfInBounds_toArray, List.set_cons_zero, List.set_cons_succ]
      with_reducible apply wpV_light
      · simp only [lightOp]
      · intro W hU hF
        have f0 := CS.out W hU
        clear hU hF
        go_simp
        exact rfl
      simp only [Act.put, List.setIfInBounds_toArray, List.set_cons_zero, List.set_cons_succ]
      with_reducible apply wpV_light
      · simp only [lightOp]
      · intro W hU hF
        have f0 := CS.out W hU
        clear hU hF
        go_simp
        exact rfl
      simp only [Act.put, List.setIfInBounds_toArray, List.set_cons_zero, List.set_cons_succ]
      with_reducible apply wpV_light
      · simp only [lightOp]
      · intro W hU hF
        have f0 := CS.out W hU
        clear hU hF
        go_simp
        exact rfl
      simp only [Act.put, List.setIfInBounds_toArray, List.set_cons_zero, List.set_cons_succ]
      with_reducible apply wpV_light
      · simp only [lightOp]
      · intro W hU hF
        have f0 := CS.out W hU
        clear hU hF
        go_simp
        exact rfl
      simp only [Act.put, List.setIfInBounds_toArray, List.set_cons_zero, List.set_cons_succ]
      refine wpV_heavy (by simp only [lightOp]) (by rfl) (fun W hU hk hF K hK => ?_) ?_
      · exact wpV_app hK (.tmp 36) (.tmp 42) _ (by rfl) tim_elem _ _ (by rfl) (by rfl) rfl rfl (by simp [usedV, mkI, conOf, specOf, Spec.own]) (hF.out.2.2.2.1 (by kernel_rfl)) (F2.out W hU) (by omega) (by simp) (flatT_one _) (by unfold maxLen; omega) (by omega) (Nat.le_trans SZ.out hU.size)
      rintro _ ⟨A5, c5, rfl, _, _⟩
      simp only [Act.put, List.setIfInBounds_toArray, List.set_cons_zero, List.set_cons_succ]
      with_reducible apply wpV_light
      · simp only [lightOp]
      · intro W hU hF
        have f0 := CS.out W hU
        clear hU hF
        go_simp
        exact rfl
      simp only [Act.put, List.setIfInBounds_toArray, List.set_cons_zero, List.set_cons_succ]
      with_reducible apply wpV_light
      · simp only [lightOp]
      · intro W hU hF
        have f0 := CS.out W hU
        clear hU hF
        go_simp
        exact rfl
      simp only [Act.put, List.setIfInBounds_toArray, List.set_cons_zero, List.set_cons_succ]
      refine wpV_end (fun W hU _ hF => ?_)
      have U3 : Hid (Upd [] w W) := Lib.hid (W2.out.drew.trans hU)
      have O3 : Hid (W.ownsRow w.heap.size 29 2 (.slice A5 (n + 1) c5) (n + 1) (flatT (insO ltT S t))) := Lib.hid (by
        have := hF.out.2.2.2.2.1 (by kernel_rfl)
        rw [← EQ.out.1, ← List.append_assoc]
        exact this)
      have HB3 := Lib.hid (HB.out.upd U3.out (by simp))
      have f0 : W.cell? ⟨rb, 0, none⟩ = some (.slice A n c) := HB3.out.cell 0
      have f1 : W.frozen? ⟨rb, 0, none⟩ = false := HB3.out.frozen 0
      have f2 : rb < W.heap.size := HB3.out.lt
      clear hU hF
      refine wpT_op (by rfl) (fun K hK => ?_)
      go_wp2_with fail
      all_goals
        refine hK.out _ _ ?_
        clear hK K
        try simp only [Act.put, List.setIfInBounds_toArray, List.set_cons_zero, List.set_cons_succ]
        refine wpT_end ?_
        go_wp2_with fail
        go_end0
        have UF : Upd [rb] W (W.setCell ⟨rb, 0, none⟩ (.slice A5 (n + 1) c5)) := (Upd.refl [rb] W).setCell (.inl (by simp)) _
        have nb : ∀ b, (Value.slice A5 (n + 1) c5).ownBlock = some b → b ≠ rb := fun b hb e => by
          subst e
          exact (own_type O3.out HB3.out (by decide)) hb
        refine ⟨rfl, ⟨_, HB3.out.set_eq rfl, ?_⟩, (U3.out.mono (by simp)).trans UF⟩
        rw [EQ.out.2]
        exact own_upd O3.out UF (by intro b hb; simpa using nb b hb)
end Go.Proofs.YtainiojlhdbhgaaDoor

/-
  queue.timers: Len, Less, Swap.
-/
import Derived.Test.YtainiojlhdbhgaaDoorTim
set_option linter.unusedVariables false
namespace Go.Proofs.YtainiojlhdbhgaaDoor
open Go.RowKit HeapPlain
attribute [local go_sem] litStep_value

/-- Where each ID stands. -/
def posT (ts : List Tm) : Int → Option Value := fun id => (ts.findIdx? (fun t => t.id == id)).map (fun (j : Nat) => Value.int .i64 j)
/-- The blocks of a heap. -/
def ownT (p mb : Nat) (w : World) (k : Nat) : Prop := k = p ∨ k = mb ∨ ∃ v, w.cell? ⟨p, 0, none⟩ = some v ∧ v.ownBlock = some k
structure TimSt (B p mb : Nat) (w : World) (ts : List Tm) : Prop where
  obj : ∃ v, Blk w p 58 #[v, .map (some mb)] ∧ w.ownsRow B 29 2 v ts.length (flatT ts)
  mp : IMap w .i64 mb (posT ts) ts.length
  nd : (ts.map (·.id)).Nodup
  small : ts.length ≤ 1000
  bp : B ≤ p
  bm : B ≤ mb
def FrT (p mb : Nat) (w w' : World) : Prop := UpdP (ownT p mb w) w w' ∧ ∀ k, ownT p mb w' k → ownT p mb w k ∨ w.heap.size ≤ k

theorem blk_map {w : World} {b : Nat} {t : TypeId} {cs : Array Value} {q : IntKind} {f : Int → Option Value} {n : Nat} (h : Blk w b t cs) {m : Nat} (hm : IMap w q m f n) : b ≠ m := by
  rintro rfl
  obtain ⟨L, c, hr, _⟩ := hm
  have := hr.blk
  unfold Blk at h
  rw [h] at this
  cases this
section
variable {B p mb : Nat} {w w' w1 : World} {ts : List Tm}
theorem FrT.refl (p mb : Nat) (w : World) : FrT p mb w w := ⟨.refl _ _, fun _ h => .inl h⟩
theorem FrT.trans (h : FrT p mb w w1) (h' : FrT p mb w1 w') : FrT p mb w w' := ⟨h.1.trans h'.1 h.2, fun k hk => (h'.2 k hk).elim (h.2 k) (fun g => .inr (Nat.le_trans h.1.size g))⟩
theorem TimSt.own_lt (h : TimSt B p mb w ts) {k : Nat} (hk : ownT p mb w k) : B ≤ k ∧ k < w.heap.size := by
  obtain ⟨v, hb, ho⟩ := h.obj
  rcases hk with rfl | rfl | ⟨v', h1, h2⟩
  · exact ⟨h.bp, hb.lt⟩
  · exact ⟨h.bm, h.mp.lt⟩
  · rw [hb.cell] at h1
    cases h1
    exact Go.Proofs.YtainiojlhdbhgaaDoor.own_lt ho h2
theorem TimSt.keep {O : Nat → Prop} (h : TimSt B p mb w ts) (hu : UpdP O w w') (hO : ∀ k, ownT p mb w k → ¬ O k) : TimSt B p mb w' ts ∧ ∀ k, ownT p mb w' k ↔ ownT p mb w k := by
  obtain ⟨⟨v, hb, ho⟩, hm, h1, h2, h3, h4⟩ := h
  have hb' := hb.updP hu (hO _ (.inl rfl))
  have eq : ∀ k, k < w.heap.size → ¬ O k → Upd [] w w' ∨ True := fun _ _ _ => .inr trivial
  refine ⟨⟨⟨v, hb', ?_⟩, ?_, h1, h2, h3, h4⟩, fun k => ?_⟩
  · obtain ⟨o1, o2⟩ := ho
    refine ⟨o1, ?_⟩
    rcases o2 with o2 | ⟨g, cap, cur, rfl, o2, o3, o4⟩
    · exact .inl o2
    · exact .inr ⟨g, cap, cur, rfl, o2, Blk.updP o3 hu (hO _ (.inr (.inr ⟨_, hb.cell 0, rfl⟩))), o4⟩
  · obtain ⟨L, c, hr, m1, m2⟩ := hm
    exact ⟨L, c, ⟨(hu.keep mb hr.lt' (hO _ (.inr (.inl rfl)))).trans hr.blk, hr.keys, hr.stamps, hr.lt⟩, m1, m2⟩
  · unfold ownT
    rw [hb'.cell, hb.cell]
theorem TimSt.upd0 (h : TimSt B p mb w ts) (hu : Upd [] w w') : TimSt B p mb w' ts ∧ FrT p mb w w' := by
  have hk := h.keep (O := fun _ => False) (.of_upd hu (by simp)) (fun _ _ h => h)
  exact ⟨hk.1, .of_upd hu (by simp), fun k h' => .inl ((hk.2 k).1 h')⟩
end

theorem tim_len (B p mb : Nat) (ts : List Tm) (w : World) (hs : TimSt B p mb w ts) : Calls Tryd.prog 24 #[.pointer (some ⟨p, 0, none⟩)] w fun e w' => e = .returned (.int .i64 ts.length) ∧ TimSt B p mb w' ts ∧ FrT p mb w w' := by
  have HS := Lib.hid hs
  obtain ⟨v, hb, ho⟩ := hs.obj
  obtain ⟨A, c, rfl, _, _⟩ := own_slice ho
  have c0 : w.cell? ⟨p, 0, none⟩ = some (.slice A ts.length c) := hb.cell 0
  have hsm := hs.small
  clear hs hb ho
  go_enter Tryd.func24, Tryd.ntmps24
  go_wp2_with fail
  go_ret
  exact ⟨rfl, HS.out, .refl _ _ _⟩

set_option maxRecDepth 100000 in
set_option maxHeartbeats 1000000 in
theorem tim_less (B p mb : Nat) (ts : List Tm) (i j : Nat) (w : World) (hs : TimSt B p mb w ts) (hi : i < ts.length) (hj : j < ts.length) :
    Calls Tryd.prog 94 #[.pointer (some ⟨p, 0, none⟩), .int .i64 i, .int .i64 j] w fun e w' => e = .returned (.bool (ltT (ts.getD i default) (ts.getD j default))) ∧ TimSt B p mb w' ts ∧ FrT p mb w w' := by
  have HS := Lib.hid hs
  obtain ⟨v, hb, ho⟩ := hs.obj
  obtain ⟨g, c, cur, rfl, _, hbg, hnc, hcm, _, _⟩ := own_form ho (by omega)
  obtain ⟨x, hx⟩ : ∃ x, ts[i]? = some x := ⟨_, List.getElem?_eq_getElem hi⟩
  obtain ⟨y, hy⟩ : ∃ y, ts[j]? = some y := ⟨_, List.getElem?_eq_getElem hj⟩
  have ex : ts.getD i default = x := by rw [List.getD_eq_getElem?_getD, hx]; rfl
  have ey : ts.getD j default = y := by rw [List.getD_eq_getElem?_getD, hy]; rfl
  have CS : Hid (∀ W, Upd [] w.drew W → W.cell? ⟨p, 0, none⟩ = some (.slice (some ⟨g, 0, none⟩) ts.length c) ∧ W.cell? ⟨g, i * 2, none⟩ = some (.int .i64 x.wn) ∧ W.cell? ⟨g, i * 2 + 1, none⟩ = some (.int .i64 x.id) ∧ W.cell? ⟨g, j * 2, none⟩ = some (.int .i64 y.wn) ∧ W.cell? ⟨g, j * 2 + 1, none⟩ = some (.int .i64 y.id)) := Lib.hid (fun W hW => by
    have hu : Upd [] w W := (Upd.refl [] w).drew.trans hW
    have ho' := own_upd0 ho hu
    exact ⟨(hb.upd hu (by simp)).cell 0, own_cell ho' _ _ (flatT_get ts i x hx).1, own_cell ho' _ _ (flatT_get ts i x hx).2, own_cell ho' _ _ (flatT_get ts j y hy).1, own_cell ho' _ _ (flatT_get ts j y hy).2⟩)
  rw [ex, ey]
  have hl := ltT_or x y
  obtain ⟨r, hr⟩ : ∃ r, orL [cmpI x.wn y.wn, cmpI x.id y.id] = r := ⟨_, rfl⟩
  rw [hr] at hl
  have HL := Lib.hid hl
  have HRR := Lib.hid hr
  clear hl hr
  obtain ⟨n, hn⟩ : ∃ n, ts.length = n := ⟨_, rfl⟩
  rw [hn] at CS hi hj
  have hsm : n ≤ 1000 := by rw [← hn]; exact hs.small
  have q1 : (0 : Int) ≤ (i : Int) := by omega
  have q2 : (i : Int) < (n : Int) := by omega
  have q3 : (0 : Int) ≤ (j : Int) := by omega
  have q4 : (j : Int) < (n : Int) := by omega
  have HN := Lib.hid hn
  clear hs hb ho hbg hx hy ex ey hn
  go_enter Tryd.func94, Tryd.ntmps94
  go_wp2_with fail
  refine wp_invN [(14, .det (.int .i64 r))] [] (by kernel_rfl) (by kernel_rfl) (by kernel_rfl) ⟨lasts_det _, trivial⟩ ?_
  with_reducible apply wpV_light
  · simp only [lightOp]
  · intro W hU hF
    have f0 := CS.out W hU
    clear hU hF
    go_simp
    exact rfl
  simp only [Act.put, List.setIfInBounds_toArray, List.set_cons_zero, List.set_cons_succ]
  with_reducible apply wpV_light
  · simp only [lightOp]
  · intro W hU hF
    have f0 := CS.out W hU
    clear hU hF
    go_simp
    exact rfl
  simp only [Act.put, List.setIfInBounds_toArray, List.set_cons_zero, List.set_cons_succ]
  with_reducible apply wpV_light
  · simp only [lightOp]
  · intro W hU hF
    have f0 := CS.out W hU
    clear hU hF
    go_simp
    exact rfl
  simp only [Act.put, List.setIfInBounds_toArray, List.set_cons_zero, List.set_cons_succ]
  with_reducible apply wpV_light
  · simp only [lightOp]
  · intro W hU hF
    have f0 := CS.out W hU
    clear hU hF
    go_simp
    exact rfl
  simp only [Act.put, List.setIfInBounds_toArray, List.set_cons_zero, List.set_cons_succ]
  with_reducible apply wpV_light
  · simp only [lightOp]
  · intro W hU hF
    have f0 := CS.out W hU
    clear hU hF
    go_simp
    exact rfl
  simp only [Act.put, List.setIfInBounds_toArray, List.set_cons_zero, List.set_cons_succ]
  with_reducible apply wpV_light
  · simp only [lightOp]
  · intro W hU hF
    have f0 := CS.out W hU
    clear hU hF
    go_simp
    exact rfl
  simp only [Act.put, List.setIfInBounds_toArray, List.set_cons_zero, List.set_cons_succ]
  with_reducible apply wpV_light
  · simp only [lightOp]
  · intro W hU hF
    have f0 := CS.out W hU
    clear hU hF
    go_simp
    exact rfl
  simp only [Act.put, List.setIfInBounds_toArray, List.set_cons_zero, List.set_cons_succ]
  with_reducible apply wpV_light
  · simp only [lightOp]
  · intro W hU hF
    have f0 := CS.out W hU
    clear hU hF
    go_simp
    exact rfl
  simp only [Act.put, List.setIfInBounds_toArray, List.set_cons_zero, List.set_cons_succ]
  with_reducible apply wpV_light
  · simp only [lightOp]
  · intro W hU hF
    have f0 := CS.out W hU
    clear hU hF
    go_simp
    exact rfl
  simp only [Act.put, List.setIfInBounds_toArray, List.set_cons_zero, List.set_cons_succ]
  with_reducible apply wpV_light
  · simp only [lightOp]
  · intro W hU hF
    have f0 := CS.out W hU
    clear hU hF
    go_simp
    exact rfl
  simp only [Act.put, List.setIfInBounds_toArray, List.set_cons_zero, List.set_cons_succ]
  with_reducible apply wpV_light
  · simp only [lightOp]
  · intro W hU hF
    have f0 := CS.out W hU
    clear hU hF
    go_simp
    exact rfl
  simp only [Act.put, List.setIfInBounds_toArray, List.set_cons_zero, List.set_cons_succ]
  with_reducible apply wpV_light
  · simp only [lightOp]
  · intro W hU hF
    have f0 := CS.out W hU
    clear hU hF
    go_simp
    exact rfl
  simp only [Act.put, List.setIfInBounds_toArray, List.set_cons_zero, List.set_cons_succ]
  with_reducible apply wpV_light
  · simp only [lightOp]
  · intro W hU hF
    have f0 := CS.out W hU
    clear hU hF
    go_simp
    exact rfl
  simp only [Act.put, List.setIfInBounds_toArray, List.set_cons_zero, List.set_cons_succ]
  with_reducible apply wpV_light
  · simp only [lightOp]
  · intro W hU hF
    have f0 := CS.out W hU
    clear hU hF
    go_simp
    exact rfl
  simp only [Act.put, List.setIfInBounds_toArray, List.set_cons_zero, List.set_cons_succ]
  refine wpV_heavy (by simp only [lightOp]) (by rfl) (fun W hU hk hF K hK => ?_) ?_
  · go_wp2_with fail
    refine (order_ok x y W).mono ?_; rintro e w2 ⟨rfl, u2⟩
    rw [HRR.out]
    go_wp2_with fail
    exact hK.out _ _ (outV_new rfl rfl (by intro b hb; cases hb) u2)
  rintro _ rfl
  simp only [Act.put, List.setIfInBounds_toArray, List.set_cons_zero, List.set_cons_succ]
  with_reducible apply wpV_light
  · simp only [lightOp]
  · intro W hU hF
    have f0 := CS.out W hU
    clear hU hF
    go_simp
    exact rfl
  simp only [Act.put, List.setIfInBounds_toArray, List.set_cons_zero, List.set_cons_succ]
  with_reducible apply wpV_light
  · simp only [lightOp]
  · intro W hU hF
    have f0 := CS.out W hU
    clear hU hF
    go_simp
    exact rfl
  simp only [Act.put, List.setIfInBounds_toArray, List.set_cons_zero, List.set_cons_succ]
  refine wpV_end (fun W hU _ _ => ?_)
  have U2 : Hid (Upd [] w W) := Lib.hid ((Upd.refl [] w).drew.trans hU)
  clear hU
  refine wpT_end ?_
  go_wp2_with fail
  go_ret
  obtain ⟨s1, s2⟩ := HS.out.upd0 U2.out
  exact ⟨by rw [← HL.out]; rfl, s1, s2⟩

theorem flatT_set : ∀ (L : List Tm) (k : Nat) (t : Tm), flatT (L.set k t) = ((flatT L).set (k * 2) (.int .i64 t.wn)).set (k * 2 + 1) (.int .i64 t.id)
  | [], k, t => by simp [flatT]
  | a :: L, 0, t => by simp [flatT]
  | a :: L, k + 1, t => by
    have := flatT_set L k t
    unfold flatT at this ⊢
    rw [List.set_cons_succ, List.flatMap_cons, List.flatMap_cons, this]
    rw [show (k + 1) * 2 = k * 2 + 2 by omega, show k * 2 + 2 + 1 = k * 2 + 1 + 2 by omega]
    rfl
theorem getD_some {α : Type} [Inhabited α] {L : List α} {k : Nat} (h : k < L.length) : L[k]? = some (L.getD k default) := by
  rw [List.getD_eq_getElem?_getD, List.getElem?_eq_getElem h]; rfl
theorem posT_at {ts : List Tm} (hn : (ts.map (·.id)).Nodup) {k : Nat} {t : Tm} (h : ts[k]? = some t) : posT ts t.id = some (.int .i64 k) := by
  unfold posT
  have : ts.findIdx? (fun x => x.id == t.id) = some k := by
    obtain ⟨hk, he⟩ := List.getElem?_eq_some_iff.1 h
    rw [List.findIdx?_eq_some_iff_getElem]
    refine ⟨hk, by simp [he], fun j hj => ?_⟩
    have := List.pairwise_iff_getElem.1 hn j k (by simp; omega) (by simpa using hk) hj
    simp [he] at this
    simpa using this
  rw [this]
  rfl
theorem posT_none {ts : List Tm} {id : Int} (h : ∀ t ∈ ts, t.id ≠ id) : posT ts id = none := by
  unfold posT
  have : ts.findIdx? (fun x => x.id == id) = none := by
    rw [List.findIdx?_eq_none_iff]
    intro x hx
    simpa using h x hx
  rw [this]
  rfl
theorem posT_some {ts : List Tm} {id : Int} {v : Value} (h : posT ts id = some v) : ∃ k t, ts[k]? = some t ∧ t.id = id ∧ v = .int .i64 (k : Nat) := by
  unfold posT at h
  cases hi : ts.findIdx? (fun x => x.id == id) with
  | none => rw [hi] at h; cases h
  | some k =>
    rw [hi] at h
    rw [List.findIdx?_eq_some_iff_getElem] at hi
    obtain ⟨hk, h1, _⟩ := hi
    exact ⟨k, ts[k], List.getElem?_eq_getElem hk, by simpa using h1, by simpa using h.symm⟩
theorem swp_ids {ts : List Tm} {i j : Nat} (hi : i < ts.length) (hj : j < ts.length) (hn : (ts.map (·.id)).Nodup) : ((swp ts i j).map (·.id)).Nodup := ((swp_perm ts i j hi hj).map _).nodup_iff.2 hn
/-- Two that change places: where each ID stands. -/
theorem posT_swp {ts : List Tm} {i j : Nat} (hi : i < ts.length) (hj : j < ts.length) (hn : (ts.map (·.id)).Nodup) (k : Int) :
    posT (swp ts i j) k = putI (putI (posT ts) ((swp ts i j).getD i default).id (.int .i64 i)) ((swp ts i j).getD j default).id (.int .i64 j) k := by
  have hn' := swp_ids hi hj hn
  have hl := swp_length ts i j
  unfold putI
  by_cases h1 : k = ((swp ts i j).getD j default).id
  · rw [if_pos h1, h1]
    exact posT_at hn' (getD_some (by omega))
  · rw [if_neg h1]
    by_cases h2 : k = ((swp ts i j).getD i default).id
    · rw [if_pos h2, h2]
      exact posT_at hn' (getD_some (by omega))
    · rw [if_neg h2]
      cases hp : posT ts k with
      | none =>
        refine posT_none fun t ht e => ?_
        have ht' := (swp_perm ts i j hi hj).mem_iff.1 ht
        obtain ⟨m, hm, he⟩ := List.getElem_of_mem ht'
        rw [← e, posT_at hn (List.getElem?_eq_some_iff.2 ⟨hm, he⟩)] at hp
        cases hp
      | some v =>
        obtain ⟨m, t, hm, he, rfl⟩ := posT_some hp
        have hml := (List.getElem?_eq_some_iff.1 hm).1
        have hmi : m ≠ i := by
          rintro rfl
          apply h1
          rw [swp_getD _ _ _ _ hi hj, if_pos rfl, List.getD_eq_getElem?_getD, hm]
          exact he.symm
        have hmj : m ≠ j := by
          rintro rfl
          apply h2
          rw [swp_getD _ _ _ _ hi hj]
          by_cases hij : i = m
          · subst hij; rw [if_pos rfl, List.getD_eq_getElem?_getD, hm]; exact he.symm
          · rw [if_neg hij, if_pos rfl, List.getD_eq_getElem?_getD, hm]; exact he.symm
        have : (swp ts i j)[m]? = some t := by
          rw [getD_some (by omega), swp_getD _ _ _ _ hi hj, if_neg hmj, if_neg hmi, List.getD_eq_getElem?_getD, hm]
          rfl
        rw [← he]
        exact posT_at hn' this
set_option maxRecDepth 100000 in
set_option maxHeartbeats 1000000 in
theorem tim_swap (B p mb : Nat) (ts : List Tm) (i j : Nat) (w : World) (hs : TimSt B p mb w ts) (hi : i < ts.length) (hj : j < ts.length) :
    Calls Tryd.prog 97 #[.pointer (some ⟨p, 0, none⟩), .int .i64 i, .int .i64 j] w fun e w' => e = .returned (.tuple #[]) ∧ TimSt B p mb w' (swp ts i j) ∧ FrT p mb w w' := by
  have HS := Lib.hid hs
  obtain ⟨v, hb, ho⟩ := hs.obj
  obtain ⟨g, c, cur, rfl, hBg, hbg, hnc, hcm, _, _⟩ := own_form ho (by omega)
  obtain ⟨x, hx⟩ : ∃ x, ts[i]? = some x := ⟨_, List.getElem?_eq_getElem hi⟩
  obtain ⟨y, hy⟩ : ∃ y, ts[j]? = some y := ⟨_, List.getElem?_eq_getElem hj⟩
  have CS : Hid (∀ W, Upd [] w.drew W → W.cell? ⟨p, 0, none⟩ = some (.slice (some ⟨g, 0, none⟩) ts.length c) ∧ W.cell? ⟨g, i * 2, none⟩ = some (.int .i64 x.wn) ∧ W.cell? ⟨g, i * 2 + 1, none⟩ = some (.int .i64 x.id) ∧ W.cell? ⟨g, j * 2, none⟩ = some (.int .i64 y.wn) ∧ W.cell? ⟨g, j * 2 + 1, none⟩ = some (.int .i64 y.id)) := Lib.hid (fun W hW => by
    have hu : Upd [] w W := (Upd.refl [] w).drew.trans hW
    have ho' := own_upd0 ho hu
    exact ⟨(hb.upd hu (by simp)).cell 0, own_cell ho' _ _ (flatT_get ts i x hx).1, own_cell ho' _ _ (flatT_get ts i x hx).2, own_cell ho' _ _ (flatT_get ts j y hy).1, own_cell ho' _ _ (flatT_get ts j y hy).2⟩)
  obtain ⟨n, hn⟩ : ∃ n, ts.length = n := ⟨_, rfl⟩
  rw [hn] at CS hi hj
  have hsm : n ≤ 1000 := by rw [← hn]; exact hs.small
  have q1 : (0 : Int) ≤ (i : Int) := by omega
  have q2 : (i : Int) < (n : Int) := by omega
  have q3 : (0 : Int) ≤ (j : Int) := by omega
  have q4 : (j : Int) < (n : Int) := by omega
  have HN := Lib.hid hn
  have HB := Lib.hid hb
  have HO := Lib.hid ho
  have HG := Lib.hid hbg
  have HM := Lib.hid hs.mp
  have HX : Hid (ts.getD i default = x) := Lib.hid (by rw [List.getD_eq_getElem?_getD, hx]; rfl)
  have HY : Hid (ts.getD j default = y) := Lib.hid (by rw [List.getD_eq_getElem?_getD, hy]; rfl)
  clear hs hb ho hx hy hn hbg
  go_enter Tryd.func97, Tryd.ntmps97
  go_wp2_with fail
  refine wp_invNT 24 [] [] (by kernel_rfl) (by simp) (by kernel_rfl) (by kernel_rfl) trivial ?_
  simp only [List.take_succ_cons, List.take_zero, List.drop_succ_cons, List.drop_zero]
  with_reducible apply wpV_light
  · simp only [lightOp]
  · intro W hU hF
    have f0 := CS.out W hU
    clear hU hF
    go_simp
    exact rfl
  simp only [Act.put, List.setIfInBounds_toArray, List.set_cons_zero, List.set_cons_succ]
  with_reducible apply wpV_light
  · simp only [lightOp]
  · intro W hU hF
    have f0 := CS.out W hU
    clear hU hF
    go_simp
    exact rfl
  simp only [Act.put, List.setIfInBounds_toArray, List.set_cons_zero, List.set_cons_succ]
  with_reducible apply wpV_light
  · simp only [lightOp]
  · intro W hU hF
    have f0 := CS.out W hU
    clear hU hF
    go_simp
    exact rfl
  simp only [Act.put, List.setIfInBounds_toArray, List.set_cons_zero, List.set_cons_succ]
  with_reducible apply wpV_light
  · simp only [lightOp]
  · intro W hU hF
    have f0 := CS.out W hU
    clear hU hF
    go_simp
    exact rfl
  simp only [Act.put, List.setIfInBounds_toArray, List.set_cons_zero, List.set_cons_succ]
  with_reducible apply wpV_light
  · simp only [lightOp]
  · intro W hU hF
    have f0 := CS.out W hU
    clear hU hF
    go_simp
    exact rfl
  simp only [Act.put, List.setIfInBounds_toArray, List.set_cons_zero, List.set_cons_succ]
  with_reducible apply wpV_light
  · simp only [lightOp]
  · intro W hU hF
    have f0 := CS.out W hU
    clear hU hF
    go_simp
    exact rfl
  simp only [Act.put, List.setIfInBounds_toArray, List.set_cons_zero, List.set_cons_succ]
  with_reducible apply wpV_light
  · simp only [lightOp]
  · intro W hU hF
    have f0 := CS.out W hU
    clear hU hF
    go_simp
    exact rfl
  simp only [Act.put, List.setIfInBounds_toArray, List.set_cons_zero, List.set_cons_succ]
  with_reducible apply wpV_light
  · simp only [lightOp]
  · intro W hU hF
    have f0 := CS.out W hU
    clear hU hF
    go_simp
    exact rfl
  simp only [Act.put, List.setIfInBounds_toArray, List.set_cons_zero, List.set_cons_succ]
  with_reducible apply wpV_light
  · simp only [lightOp]
  · intro W hU hF
    have f0 := CS.out W hU
    clear hU hF
    go_simp
    exact rfl
  simp only [Act.put, List.setIfInBounds_toArray, List.set_cons_zero, List.set_cons_succ]
  with_reducible apply wpV_light
  · simp only [lightOp]
  · intro W hU hF
    have f0 := CS.out W hU
    clear hU hF
    go_simp
    exact rfl
  simp only [Act.put, List.setIfInBounds_toArray, List.set_cons_zero, List.set_cons_succ]
  with_reducible apply wpV_light
  · simp only [lightOp]
  · intro W hU hF
    have f0 := CS.out W hU
    clear hU hF
    go_simp
    exact rfl
  simp only [Act.put, List.setIfInBounds_toArray, List.set_cons_zero, List.set_cons_succ]
  with_reducible apply wpV_light
  · simp only [lightOp]
  · intro W hU hF
    have f0 := CS.out W hU
    clear hU hF
    go_simp
    exact rfl
  simp only [Act.put, List.setIfInBounds_toArray, List.set_cons_zero, List.set_cons_succ]
  with_reducible apply wpV_light
  · simp only [lightOp]
  · intro W hU hF
    have f0 := CS.out W hU
    clear hU hF
    go_simp
    exact rfl
  simp only [Act.put, List.setIfInBounds_toArray, List.set_cons_zero, List.set_cons_succ]
  with_reducible apply wpV_light
  · simp only [lightOp]
  · intro W hU hF
    have f0 := CS.out W hU
    clear hU hF
    go_simp
    exact rfl
  simp only [Act.put, List.setIfInBounds_toArray, List.set_cons_zero, List.set_cons_succ]
  with_reducible apply wpV_light
  · simp only [lightOp]
  · intro W hU hF
    have f0 := CS.out W hU
    clear hU hF
    go_simp
    exact rfl
  simp only [Act.put, List.setIfInBounds_toArray, List.set_cons_zero, List.set_cons_succ]
  with_reducible apply wpV_light
  · simp only [lightOp]
  · intro W hU hF
    have f0 := CS.out W hU
    clear hU hF
    go_simp
    exact rfl
  simp only [Act.put, List.setIfInBounds_toArray, List.set_cons_zero, List.set_cons_succ]
  with_reducible apply wpV_light
  · simp only [lightOp]
  · intro W hU hF
    have f0 := CS.out W hU
    clear hU hF
    go_simp
    exact rfl
  simp only [Act.put, List.setIfInBounds_toArray, List.set_cons_zero, List.set_cons_succ]
  with_reducible apply wpV_light
  · simp only [lightOp]
  · intro W hU hF
    have f0 := CS.out W hU
    clear hU hF
    go_simp
    exact rfl
  simp only [Act.put, List.setIfInBounds_toArray, List.set_cons_zero, List.set_cons_succ]
  with_reducible apply wpV_light
  · simp only [lightOp]
  · intro W hU hF
    have f0 := CS.out W hU
    clear hU hF
    go_simp
    exact rfl
  simp only [Act.put, List.setIfInBounds_toArray, List.set_cons_zero, List.set_cons_succ]
  with_reducible apply wpV_light
  · simp only [lightOp]
  · intro W hU hF
    have f0 := CS.out W hU
    clear hU hF
    go_simp
    exact rfl
  simp only [Act.put, List.setIfInBounds_toArray, List.set_cons_zero, List.set_cons_succ]
  with_reducible apply wpV_light
  · simp only [lightOp]
  · intro W hU hF
    have f0 := CS.out W hU
    clear hU hF
    go_simp
    exact rfl
  simp only [Act.put, List.setIfInBounds_toArray, List.set_cons_zero, List.set_cons_succ]
  with_reducible apply wpV_light
  · simp only [lightOp]
  · intro W hU hF
    have f0 := CS.out W hU
    clear hU hF
    go_simp
    exact rfl
  simp only [Act.put, List.setIfInBounds_toArray, List.set_cons_zero, List.set_cons_succ]
  with_reducible apply wpV_light
  · simp only [lightOp]
  · intro W hU hF
    have f0 := CS.out W hU
    clear hU hF
    go_simp
    exact rfl
  simp only [Act.put, List.setIfInBounds_toArray, List.set_cons_zero, List.set_cons_succ]
  with_reducible apply wpV_light
  · simp only [lightOp]
  · intro W hU hF
    have f0 := CS.out W hU
    clear hU hF
    go_simp
    exact rfl
  simp only [Act.put, List.setIfInBounds_toArray, List.set_cons_zero, List.set_cons_succ]
  refine wpV_end (fun W hU _ _ => ?_)
  have U2 : Hid (Upd [] w W) := Lib.hid ((Upd.refl [] w).drew.trans hU)
  clear hU
  have O2 : Hid (W.ownsRow B 29 2 (.slice (some ⟨g, 0, none⟩) n c) n (flatT ts)) := Lib.hid (by have := own_upd0 HO.out U2.out; rw [HN.out] at this; exact this)
  obtain ⟨f0, f1, f2, f3, f4⟩ := CS.out W ((Upd.refl [] w.drew).trans (by
    have := U2.out
    exact ⟨this.os, this.tape, this.output, this.size, this.keep⟩))
  have fz : ∀ k, W.frozen? ⟨g, k, none⟩ = false := own_frozen O2.out
  have fl : g < W.heap.size := by obtain ⟨_, _, hb, _⟩ := own_open O2.out; exact hb.lt
  refine wpT_op (by rfl) (fun K hK => ?_)
  go_wp2_with fail
  refine hK.out _ _ ?_
  clear hK K
  try simp only [Act.put, List.setIfInBounds_toArray, List.set_cons_zero, List.set_cons_succ]
  refine wpT_op (by rfl) (fun K hK => ?_)
  go_wp2_with fail
  refine hK.out _ _ ?_
  clear hK K
  try simp only [Act.put, List.setIfInBounds_toArray, List.set_cons_zero, List.set_cons_succ]
  have O3 : Hid (((W.setCell ⟨g, i * 2, none⟩ (.int .i64 y.wn)).setCell ⟨g, i * 2 + 1, none⟩ (.int .i64 y.id)).ownsRow B 29 2 (.slice (some ⟨g, 0, none⟩) n c) n (flatT (ts.set i y))) := Lib.hid (by rw [flatT_set]; exact own_set (own_set O2.out _ _) _ _)
  have U3 : Hid (Upd [g] w ((W.setCell ⟨g, i * 2, none⟩ (.int .i64 y.wn)).setCell ⟨g, i * 2 + 1, none⟩ (.int .i64 y.id))) := Lib.hid (((U2.out.mono (by simp)).setCell (.inl (by simp)) _).setCell (.inl (by simp)) _)
  generalize ((W.setCell ⟨g, i * 2, none⟩ (.int .i64 y.wn)).setCell ⟨g, i * 2 + 1, none⟩ (.int .i64 y.id)) = W3 at *
  clear f0 f1 f2 f3 f4 fz fl O2 U2
  obtain ⟨z, hz⟩ : ∃ z, (ts.set i y)[j]? = some z := ⟨_, List.getElem?_eq_getElem (by rw [List.length_set, HN.out]; exact hj)⟩
  have f1 := own_cell O3.out _ _ (flatT_get _ j z hz).1
  have f2 := own_cell O3.out _ _ (flatT_get _ j z hz).2
  have fz : ∀ k, W3.frozen? ⟨g, k, none⟩ = false := own_frozen O3.out
  have fl : g < W3.heap.size := by obtain ⟨_, _, hb, _⟩ := own_open O3.out; exact hb.lt
  clear hz
  refine wpT_op (by rfl) (fun K hK => ?_)
  go_wp2_with fail
  refine hK.out _ _ ?_
  clear hK K
  try simp only [Act.put, List.setIfInBounds_toArray, List.set_cons_zero, List.set_cons_succ]
  refine wpT_op (by rfl) (fun K hK => ?_)
  go_wp2_with fail
  refine hK.out _ _ ?_
  clear hK K
  try simp only [Act.put, List.setIfInBounds_toArray, List.set_cons_zero, List.set_cons_succ]
  have O4 : Hid (((W3.setCell ⟨g, j * 2, none⟩ (.int .i64 x.wn)).setCell ⟨g, j * 2 + 1, none⟩ (.int .i64 x.id)).ownsRow B 29 2 (.slice (some ⟨g, 0, none⟩) n c) n (flatT ((ts.set i y).set j x))) := Lib.hid (by rw [flatT_set]; exact own_set (own_set O3.out _ _) _ _)
  have U4 : Hid (Upd [g] w ((W3.setCell ⟨g, j * 2, none⟩ (.int .i64 x.wn)).setCell ⟨g, j * 2 + 1, none⟩ (.int .i64 x.id))) := Lib.hid ((U3.out.setCell (.inl (by simp)) _).setCell (.inl (by simp)) _)
  generalize ((W3.setCell ⟨g, j * 2, none⟩ (.int .i64 x.wn)).setCell ⟨g, j * 2 + 1, none⟩ (.int .i64 x.id)) = W4 at *
  clear f1 f2 fz fl O3 U3
  refine wpT_end ?_
  -- the places
  have SW : Hid ((ts.set i y).set j x = swp ts i j) := Lib.hid (by unfold swp; rw [HX.out, HY.out])
  have hgp : g ≠ p := by
    intro e
    subst e
    exact (Blk.ne_ HB.out HG.out (by decide)) rfl
  obtain ⟨P4, hP4⟩ : ∃ us, (ts.set i y).set j x = us := ⟨_, rfl⟩
  rw [hP4] at O4 SW
  have B4 : Hid (Blk W4 p 58 #[.slice (some ⟨g, 0, none⟩) n c, .map (some mb)]) := Lib.hid (by have := HB.out.upd U4.out (by simp; exact fun e => hgp e.symm); rw [HN.out] at this; exact this)
  have hgm : g ≠ mb := blk_map HG.out HM.out
  have M4 : Hid (IMap W4 .i64 mb (posT ts) n) := Lib.hid (by have := HM.out.upd U4.out (by simp; exact fun e => hgm e.symm); rw [HN.out] at this; exact this)
  obtain ⟨a, ha⟩ : ∃ a, P4[i]? = some a := ⟨_, List.getElem?_eq_getElem (by rw [SW.out, swp_length, HN.out]; exact hi)⟩
  obtain ⟨b, hb⟩ : ∃ b, P4[j]? = some b := ⟨_, List.getElem?_eq_getElem (by rw [SW.out, swp_length, HN.out]; exact hj)⟩
  have CT : Hid (∀ W, Upd [] W4.drew W → W.cell? ⟨p, 0, none⟩ = some (.slice (some ⟨g, 0, none⟩) n c) ∧ W.cell? ⟨p, 1, none⟩ = some (.map (some mb)) ∧ W.cell? ⟨g, i * 2 + 1, none⟩ = some (.int .i64 a.id) ∧ W.cell? ⟨g, j * 2 + 1, none⟩ = some (.int .i64 b.id)) := Lib.hid (fun W hW => by
    have hu : Upd [] W4 W := (Upd.refl [] W4).drew.trans hW
    have ho' := own_upd0 O4.out hu
    exact ⟨(B4.out.upd hu (by simp)).cell 0, (B4.out.upd hu (by simp)).cell 1, own_cell ho' _ _ (flatT_get P4 i a ha).2, own_cell ho' _ _ (flatT_get P4 j b hb).2⟩)
  have HA := Lib.hid ha
  have HBB := Lib.hid hb
  clear ha hb hP4 hgp hgm
  go_wp2_with fail
  refine wp_invNT 26 [] [] (by kernel_rfl) (by simp) (by kernel_rfl) (by kernel_rfl) trivial ?_
  simp only [List.take_succ_cons, List.take_zero, List.drop_succ_cons, List.drop_zero]
  with_reducible apply wpV_light
  · simp only [lightOp]
  · intro W hU hF
    have f0 := CT.out W hU
    clear hU hF
    go_simp
    exact rfl
  simp only [Act.put, List.setIfInBounds_toArray, List.set_cons_zero, List.set_cons_succ]
  with_reducible apply wpV_light
  · simp only [lightOp]
  · intro W hU hF
    have f0 := CT.out W hU
    clear hU hF
    go_simp
    exact rfl
  simp only [Act.put, List.setIfInBounds_toArray, List.set_cons_zero, List.set_cons_succ]
  with_reducible apply wpV_light
  · simp only [lightOp]
  · intro W hU hF
    have f0 := CT.out W hU
    clear hU hF
    go_simp
    exact rfl
  simp only [Act.put, List.setIfInBounds_toArray, List.set_cons_zero, List.set_cons_succ]
  with_reducible apply wpV_light
  · simp only [lightOp]
  · intro W hU hF
    have f0 := CT.out W hU
    clear hU hF
    go_simp
    exact rfl
  simp only [Act.put, List.setIfInBounds_toArray, List.set_cons_zero, List.set_cons_succ]
  with_reducible apply wpV_light
  · simp only [lightOp]
  · intro W hU hF
    have f0 := CT.out W hU
    clear hU hF
    go_simp
    exact rfl
  simp only [Act.put, List.setIfInBounds_toArray, List.set_cons_zero, List.set_cons_succ]
  with_reducible apply wpV_light
  · simp only [lightOp]
  · intro W hU hF
    have f0 := CT.out W hU
    clear hU hF
    go_simp
    exact rfl
  simp only [Act.put, List.setIfInBounds_toArray, List.set_cons_zero, List.set_cons_succ]
  with_reducible apply wpV_light
  · simp only [lightOp]
  · intro W hU hF
    have f0 := CT.out W hU
    clear hU hF
    go_simp
    exact rfl
  simp only [Act.put, List.setIfInBounds_toArray, List.set_cons_zero, List.set_cons_succ]
  with_reducible apply wpV_light
  · simp only [lightOp]
  · intro W hU hF
    have f0 := CT.out W hU
    clear hU hF
    go_simp
    exact rfl
  simp only [Act.put, List.setIfInBounds_toArray, List.set_cons_zero, List.set_cons_succ]
  with_reducible apply wpV_light
  · simp only [lightOp]
  · intro W hU hF
    have f0 := CT.out W hU
    clear hU hF
    go_simp
    exact rfl
  simp only [Act.put, List.setIfInBounds_toArray, List.set_cons_zero, List.set_cons_succ]
  with_reducible apply wpV_light
  · simp only [lightOp]
  · intro W hU hF
    have f0 := CT.out W hU
    clear hU hF
    go_simp
    exact rfl
  simp only [Act.put, List.setIfInBounds_toArray, List.set_cons_zero, List.set_cons_succ]
  with_reducible apply wpV_light
  · simp only [lightOp]
  · intro W hU hF
    have f0 := CT.out W hU
    clear hU hF
    go_simp
    exact rfl
  simp only [Act.put, List.setIfInBounds_toArray, List.set_cons_zero, List.set_cons_succ]
  with_reducible apply wpV_light
  · simp only [lightOp]
  · intro W hU hF
    have f0 := CT.out W hU
    clear hU hF
    go_simp
    exact rfl
  simp only [Act.put, List.setIfInBounds_toArray, List.set_cons_zero, List.set_cons_succ]
  with_reducible apply wpV_light
  · simp only [lightOp]
  · intro W hU hF
    have f0 := CT.out W hU
    clear hU hF
    go_simp
    exact rfl
  simp only [Act.put, List.setIfInBounds_toArray, List.set_cons_zero, List.set_cons_succ]
  with_reducible apply wpV_light
  · simp only [lightOp]
  · intro W hU hF
    have f0 := CT.out W hU
    clear hU hF
    go_simp
    exact rfl
  simp only [Act.put, List.setIfInBounds_toArray, List.set_cons_zero, List.set_cons_succ]
  with_reducible apply wpV_light
  · simp only [lightOp]
  · intro W hU hF
    have f0 := CT.out W hU
    clear hU hF
    go_simp
    exact rfl
  simp only [Act.put, List.setIfInBounds_toArray, List.set_cons_zero, List.set_cons_succ]
  with_reducible apply wpV_light
  · simp only [lightOp]
  · intro W hU hF
    have f0 := CT.out W hU
    clear hU hF
    go_simp
    exact rfl
  simp only [Act.put, List.setIfInBounds_toArray, List.set_cons_zero, List.set_cons_succ]
  with_reducible apply wpV_light
  · simp only [lightOp]
  · intro W hU hF
    have f0 := CT.out W hU
    clear hU hF
    go_simp
    exact rfl
  simp only [Act.put, List.setIfInBounds_toArray, List.set_cons_zero, List.set_cons_succ]
  with_reducible apply wpV_light
  · simp only [lightOp]
  · intro W hU hF
    have f0 := CT.out W hU
    clear hU hF
    go_simp
    exact rfl
  simp only [Act.put, List.setIfInBounds_toArray, List.set_cons_zero, List.set_cons_succ]
  with_reducible apply wpV_light
  · simp only [lightOp]
  · intro W hU hF
    have f0 := CT.out W hU
    clear hU hF
    go_simp
    exact rfl
  simp only [Act.put, List.setIfInBounds_toArray, List.set_cons_zero, List.set_cons_succ]
  with_reducible apply wpV_light
  · simp only [lightOp]
  · intro W hU hF
    have f0 := CT.out W hU
    clear hU hF
    go_simp
    exact rfl
  simp only [Act.put, List.setIfInBounds_toArray, List.set_cons_zero, List.set_cons_succ]
  with_reducible apply wpV_light
  · simp only [lightOp]
  · intro W hU hF
    have f0 := CT.out W hU
    clear hU hF
    go_simp
    exact rfl
  simp only [Act.put, List.setIfInBounds_toArray, List.set_cons_zero, List.set_cons_succ]
  with_reducible apply wpV_light
  · simp only [lightOp]
  · intro W hU hF
    have f0 := CT.out W hU
    clear hU hF
    go_simp
    exact rfl
  simp only [Act.put, List.setIfInBounds_toArray, List.set_cons_zero, List.set_cons_succ]
  with_reducible apply wpV_light
  · simp only [lightOp]
  · intro W hU hF
    have f0 := CT.out W hU
    clear hU hF
    go_simp
    exact rfl
  simp only [Act.put, List.setIfInBounds_toArray, List.set_cons_zero, List.set_cons_succ]
  with_reducible apply wpV_light
  · simp only [lightOp]
  · intro W hU hF
    have f0 := CT.out W hU
    clear hU hF
    go_simp
    exact rfl
  simp only [Act.put, List.setIfInBounds_toArray, List.set_cons_zero, List.set_cons_succ]
  with_reducible apply wpV_light
  · simp only [lightOp]
  · intro W hU hF
    have f0 := CT.out W hU
    clear hU hF
    go_simp
    exact rfl
  simp only [Act.put, List.setIfInBounds_toArray, List.set_cons_zero, List.set_cons_succ]
  with_reducible apply wpV_light
  · simp only [lightOp]
  · intro W hU hF
    have f0 := CT.out W hU
    clear hU hF
    go_simp
    exact rfl
  simp only [Act.put, List.setIfInBounds_toArray, List.set_cons_zero, List.set_cons_succ]
  refine wpV_end (fun W hU _ _ => ?_)
  have U5 : Hid (Upd [] W4 W) := Lib.hid ((Upd.refl [] W4).drew.trans hU)
  clear hU
  have M5 := Lib.hid (M4.out.upd U5.out (by simp))
  obtain ⟨W6, s1, r1, ⟨L1, c1, ir1, im1, ig1, il1⟩, u6⟩ := run_mapEntry_int (P := Tryd.prog) (z := .int .i64 0) Tryd.underlying56 Tryd.underlying3 (fun _ => by kernel_rfl) M5.out a.id
  have IR1 := Lib.hid ir1
  have IG1 := Lib.hid ig1
  have IM1 := Lib.hid im1
  have IL1 := Lib.hid il1
  have U6 := Lib.hid u6
  clear ir1 ig1 im1 il1 u6
  refine wpT_op (by rfl) (fun K hK => ?_)
  go_wp2_with fail
  refine hK.out _ _ ?_
  clear hK K
  try simp only [Act.put, List.setIfInBounds_toArray, List.set_cons_zero, List.set_cons_succ]
  refine wpT_op (by rfl) (fun K hK => ?_)
  go_wp2_with fail
  refine hK.out _ _ ?_
  clear hK K
  try simp only [Act.put, List.setIfInBounds_toArray, List.set_cons_zero, List.set_cons_succ]
  obtain ⟨v1, hv1⟩ := IM1.out
  obtain ⟨W7, r2, m7, u7⟩ := run_entryStore_int (P := Tryd.prog) (mt := 56) IR1.out hv1 (.int .i64 i)
  have M7 : Hid (IMap W7 .i64 mb (putI (posT ts) a.id (.int .i64 i)) L1.length) := Lib.hid (m7.congr (fun k => by
    unfold putI
    split
    · rfl
    · rename_i hk; rw [IG1.out, if_neg hk]))
  have U7 := Lib.hid (U6.out.trans u7)
  have r2' : (Instr.entryStore 56 (.map (some mb)) (.int .i64 s1) (.int .i64 i)).run Tryd.prog W6 = .ok () W7 := r2
  clear m7 u7 hv1 r1 r2
  refine wpT_op (by rfl) (fun K hK => ?_)
  go_wp2_with fail
  refine hK.out _ _ ?_
  clear hK K
  try simp only [Act.put, List.setIfInBounds_toArray, List.set_cons_zero, List.set_cons_succ]
  clear r2'
  obtain ⟨W8, s2, r3, ⟨L2, c2, ir2, im2, ig2, il2⟩, u8⟩ := run_mapEntry_int (P := Tryd.prog) (z := .int .i64 0) Tryd.underlying56 Tryd.underlying3 (fun _ => by kernel_rfl) M7.out b.id
  have IR2 := Lib.hid ir2
  have IG2 := Lib.hid ig2
  have IM2 := Lib.hid im2
  have IL2 := Lib.hid il2
  have U8 := Lib.hid (U7.out.trans u8)
  clear ir2 ig2 im2 il2 u8
  refine wpT_op (by rfl) (fun K hK => ?_)
  go_wp2_with fail
  refine hK.out _ _ ?_
  clear hK K
  try simp only [Act.put, List.setIfInBounds_toArray, List.set_cons_zero, List.set_cons_succ]
  refine wpT_op (by rfl) (fun K hK => ?_)
  go_wp2_with fail
  refine hK.out _ _ ?_
  clear hK K
  try simp only [Act.put, List.setIfInBounds_toArray, List.set_cons_zero, List.set_cons_succ]
  obtain ⟨v2, hv2⟩ := IM2.out
  obtain ⟨W9, r4, m9, u9⟩ := run_entryStore_int (P := Tryd.prog) (mt := 56) IR2.out hv2 (.int .i64 j)
  have M9 : Hid (IMap W9 .i64 mb (putI (putI (posT ts) a.id (.int .i64 i)) b.id (.int .i64 j)) L2.length) := Lib.hid (m9.congr (fun k => by
    unfold putI
    split
    · rfl
    · rename_i hk; rw [IG2.out, if_neg hk]; rfl))
  have U9 := Lib.hid (U8.out.trans u9)
  have r4' : (Instr.entryStore 56 (.map (some mb)) (.int .i64 s2) (.int .i64 j)).run Tryd.prog W8 = .ok () W9 := r4
  clear m9 u9 hv2 r3 r4
  refine wpT_op (by rfl) (fun K hK => ?_)
  go_wp2_with fail
  refine hK.out _ _ ?_
  clear hK K
  try simp only [Act.put, List.setIfInBounds_toArray, List.set_cons_zero, List.set_cons_succ]
  clear r4'
  refine wpT_end ?_
  go_wp2_with fail
  go_end0
  have UM : Upd [mb] W4 W9 := (U5.out.mono (by simp)).trans U9.out
  have hl := swp_length ts i j
  have hil : i < ts.length := by rw [HN.out]; exact hi
  have hjl : j < ts.length := by rw [HN.out]; exact hj
  have hia : (swp ts i j).getD i default = a := by have := HA.out; rw [SW.out] at this; rw [List.getD_eq_getElem?_getD, this]; rfl
  have hjb : (swp ts i j).getD j default = b := by have := HBB.out; rw [SW.out] at this; rw [List.getD_eq_getElem?_getD, this]; rfl
  have pa : posT ts a.id ≠ none := by
    have hm : a ∈ ts := (swp_perm ts i j hil hjl).mem_iff.1 (by have := HA.out; rw [SW.out] at this; exact List.mem_of_getElem? this)
    obtain ⟨m, hm, he⟩ := List.getElem_of_mem hm
    rw [posT_at HS.out.nd (List.getElem?_eq_some_iff.2 ⟨hm, he⟩)]
    simp
  have pb : posT ts b.id ≠ none := by
    have hm : b ∈ ts := (swp_perm ts i j hil hjl).mem_iff.1 (by have := HBB.out; rw [SW.out] at this; exact List.mem_of_getElem? this)
    obtain ⟨m, hm, he⟩ := List.getElem_of_mem hm
    rw [posT_at HS.out.nd (List.getElem?_eq_some_iff.2 ⟨hm, he⟩)]
    simp
  have l1 : L1.length = n := by rw [IL1.out, if_pos (Option.isSome_iff_ne_none.2 pa)]
  have l2 : L2.length = n := by
    rw [IL2.out, if_pos, l1]
    unfold putI
    split
    · rfl
    · exact Option.isSome_iff_ne_none.2 pb
  have hgm : g ≠ mb := by
    obtain ⟨_, _, hb, _⟩ := own_open O4.out
    exact blk_map hb M4.out
  have hpm : p ≠ mb := blk_map B4.out M4.out
  have fin : TimSt B p mb W9 (swp ts i j) := by
    refine ⟨⟨.slice (some ⟨g, 0, none⟩) n c, B4.out.upd UM (by simp; exact hpm), ?_⟩, ?_, swp_ids hil hjl HS.out.nd, by rw [hl]; exact HS.out.small, HS.out.bp, HS.out.bm⟩
    · rw [hl, HN.out, ← SW.out]
      exact own_upd O4.out UM (by intro b hb; simp only [Value.ownBlock, Option.some.injEq] at hb; subst hb; simp; exact hgm)
    · rw [hl, HN.out]
      have := M9.out
      rw [l2] at this
      exact this.congr (fun k => by rw [posT_swp hil hjl HS.out.nd, hia, hjb])
  refine ⟨rfl, fin, ?_, fun k hk => ?_⟩
  · have h1 : Upd [g, mb] w W9 := (U4.out.mono (by simp)).trans (UM.mono (by simp))
    refine .of_upd h1 (fun x hx => ?_)
    simp only [List.mem_cons, List.not_mem_nil, or_false] at hx
    rcases hx with rfl | rfl
    · exact .inl (.inr (.inr ⟨_, HB.out.cell 0, rfl⟩))
    · exact .inl (.inr (.inl rfl))
  · left
    rcases hk with rfl | rfl | ⟨v, h1, h2⟩
    · exact .inl rfl
    · exact .inr (.inl rfl)
    · rw [(B4.out.upd UM (by simp; exact hpm)).cell] at h1
      cases h1
      exact .inr (.inr ⟨_, HB.out.cell 0, h2⟩)
end Go.Proofs.YtainiojlhdbhgaaDoor

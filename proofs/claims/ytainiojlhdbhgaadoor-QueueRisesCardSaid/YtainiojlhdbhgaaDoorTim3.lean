/-
  queue.timers: Push, Pop.
-/
import Derived.Test.YtainiojlhdbhgaaDoorTim2
set_option linter.unusedVariables false
namespace Go.Proofs.YtainiojlhdbhgaaDoor
open Go.RowKit HeapPlain
attribute [local go_sem] litStep_value

theorem tim_elem : Elem Tryd.prog 36 29 2 16 := .mk' (z := ((Tryd.prog.info? 29).bind (·.zero)).getD undef) Tryd.underlying36 (by kernel_rfl) (by kernel_rfl) (by omega)
theorem posT_push {ts : List Tm} {x : Tm} (h : ∀ t ∈ ts, t.id ≠ x.id) (k : Int) : posT (ts ++ [x]) k = putI (posT ts) x.id (.int .i64 ts.length) k := by
  unfold putI posT
  rw [List.findIdx?_append]
  by_cases hk : k = x.id
  · subst hk
    have : ts.findIdx? (fun t => t.id == x.id) = none := by
      rw [List.findIdx?_eq_none_iff]
      intro t ht
      simpa using h t ht
    rw [if_pos rfl, this]
    simp [List.findIdx?_cons]
  · rw [if_neg hk]
    have : ([x] : List Tm).findIdx? (fun t => t.id == k) = none := by
      have : (x.id == k) = false := by simpa using fun e => hk e.symm
      simp [List.findIdx?_cons, this]
    rw [this]
    cases ts.findIdx? (fun t => t.id == k) <;> simp
theorem posT_pop {ts : List Tm} {n : Nat} {x : Tm} (hn : (ts.map (·.id)).Nodup) (hl : ts.length = n + 1) (hx : ts[n]? = some x) (k : Int) : posT (ts.take n) k = delI (posT ts) x.id k := by
  obtain ⟨hnl, he⟩ := List.getElem?_eq_some_iff.1 hx
  have hts : ts = ts.take n ++ [x] := by
    conv => lhs; rw [← List.take_append_drop n ts]
    rw [List.drop_eq_getElem_cons hnl, he, List.drop_eq_nil_of_le (by omega)]
  have hd : ∀ t ∈ ts.take n, t.id ≠ x.id := by
    intro t ht e
    rw [hts, List.map_append, List.nodup_append] at hn
    exact hn.2.2 _ (List.mem_map.2 ⟨t, ht, rfl⟩) _ (by simp) e
  have hp := posT_push hd k
  rw [← hts] at hp
  unfold delI
  rw [hp]
  unfold putI
  by_cases hk : k = x.id
  · rw [if_pos hk, hk]
    exact posT_none hd
  · rw [if_neg hk, if_neg hk]

set_option maxRecDepth 100000 in
set_option maxHeartbeats 1000000 in
theorem tim_push (B p mb : Nat) (ts : List Tm) (x : Tm) (w : World) (hs : TimSt B p mb w ts) (hx : ∀ t ∈ ts, t.id ≠ x.id) (hl : ts.length < 1000) (hBw : B ≤ w.heap.size) :
    Calls Tryd.prog 96 #[.pointer (some ⟨p, 0, none⟩), .iface 29 (.agg #[.int .i64 x.wn, .int .i64 x.id])] w fun e w' => e = .returned (.tuple #[]) ∧ TimSt B p mb w' (ts ++ [x]) ∧ FrT p mb w w' := by
  have HS := Lib.hid hs
  obtain ⟨v, hb, ho⟩ := hs.obj
  obtain ⟨A, c, rfl, hnc, hcm⟩ := own_slice ho
  obtain ⟨n, hn⟩ : ∃ n, ts.length = n := ⟨_, rfl⟩
  rw [hn] at hb ho hl hnc
  have HB := Lib.hid hb
  have HO := Lib.hid ho
  have HM : Hid (IMap w .i64 mb (posT ts) n) := Lib.hid (hn ▸ hs.mp)
  have HN := Lib.hid hn
  have HX := Lib.hid hx
  have ta : ∀ w, (Instr.typeAssert (.iface 29 (.agg #[.int .i64 x.wn, .int .i64 x.id])) 20 29 true).run Tryd.prog w = .ok (.tuple #[.agg #[.int .i64 x.wn, .int .i64 x.id], .bool true]) w := fun _ => by kernel_rfl
  clear hs hb ho hn hx
  go_enter Tryd.func96, Tryd.ntmps96
  go_wp2_with fail
  have U1 : Hid (Upd [] w (w.alloc (.cells #[.int .i64 x.wn, .int .i64 x.id] 29))) := Lib.hid ((Upd.refl [] w).alloc _)
  have Y1 : Hid (Blk (w.alloc (.cells #[.int .i64 x.wn, .int .i64 x.id] 29)) w.heap.size 29 #[.int .i64 x.wn, .int .i64 x.id]) := Lib.hid (Blk.new w _ _)
  generalize (w.alloc (.cells #[.int .i64 x.wn, .int .i64 x.id] 29)) = w1 at *
  have HB1 := Lib.hid (HB.out.upd U1.out (by simp))
  have HO1 := Lib.hid (own_upd0 HO.out U1.out)
  have HM1 := Lib.hid (HM.out.upd U1.out (by simp))
  have CS : Hid (∀ W, Upd [] w1.drew W → W.cell? ⟨p, 0, none⟩ = some (.slice A n c) ∧ W.cell? ⟨p, 1, none⟩ = some (.map (some mb)) ∧ W.cell? ⟨w.heap.size, 1, none⟩ = some (.int .i64 x.id)) := Lib.hid (fun W hW => by
    have hu : Upd [] w1 W := (Upd.refl [] w1).drew.trans hW
    exact ⟨(HB1.out.upd hu (by simp)).cell 0, (HB1.out.upd hu (by simp)).cell 1, (Y1.out.upd hu (by simp)).cell 1⟩)
  refine wp_invNT 11 [] [] (by kernel_rfl) (by simp) (by kernel_rfl) (by kernel_rfl) trivial ?_
  simp only [List.take_succ_cons, List.take_zero, List.drop_succ_cons, List.drop_zero]
  with_reducible apply wpV_light
  · simp only [lightOp]
  · intro W hU hF
    have f0 := CS.out W hU
    clear hU hF
    go_simp
    exact rfl
  simp only [Act.put, List.setIfInBounds_toArray, List.set_cons_zero, List.set_cons_succ]
  with_reducible apply wpV_light
  · simp only [lightOp]
  · intro W hU hF
    have f0 := CS.out W hU
    clear hU hF
    go_simp
    exact rfl
  simp only [Act.put, List.setIfInBounds_toArray, List.set_cons_zero, List.set_cons_succ]
  with_reducible apply wpV_light
  · simp only [lightOp]
  · intro W hU hF
    have f0 := CS.out W hU
    clear hU hF
    go_simp
    exact rfl
  simp only [Act.put, List.setIfInBounds_toArray, List.set_cons_zero, List.set_cons_succ]
  with_reducible apply wpV_light
  · simp only [lightOp]
  · intro W hU hF
    have f0 := CS.out W hU
    clear hU hF
    go_simp
    exact rfl
  simp only [Act.put, List.setIfInBounds_toArray, List.set_cons_zero, List.set_cons_succ]
  with_reducible apply wpV_light
  · simp only [lightOp]
  · intro W hU hF
    have f0 := CS.out W hU
    clear hU hF
    go_simp
    exact rfl
  simp only [Act.put, List.setIfInBounds_toArray, List.set_cons_zero, List.set_cons_succ]
  with_reducible apply wpV_light
  · simp only [lightOp]
  · intro W hU hF
    have f0 := CS.out W hU
    clear hU hF
    go_simp
    exact rfl
  simp only [Act.put, List.setIfInBounds_toArray, List.set_cons_zero, List.set_cons_succ]
  with_reducible apply wpV_light
  · simp only [lightOp]
  · intro W hU hF
    have f0 := CS.out W hU
    clear hU hF
    go_simp
    exact rfl
  simp only [Act.put, List.setIfInBounds_toArray, List.set_cons_zero, List.set_cons_succ]
  with_reducible apply wpV_light
  · simp only [lightOp]
  · intro W hU hF
    have f0 := CS.out W hU
    clear hU hF
    go_simp
    exact rfl
  simp only [Act.put, List.setIfInBounds_toArray, List.set_cons_zero, List.set_cons_succ]
  with_reducible apply wpV_light
  · simp only [lightOp]
  · intro W hU hF
    have f0 := CS.out W hU
    clear hU hF
    go_simp
    exact rfl
  simp only [Act.put, List.setIfInBounds_toArray, List.set_cons_zero, List.set_cons_succ]
  with_reducible apply wpV_light
  · simp only [lightOp]
  · intro W hU hF
    have f0 := CS.out W hU
    clear hU hF
    go_simp
    exact rfl
  simp only [Act.put, List.setIfInBounds_toArray, List.set_cons_zero, List.set_cons_succ]
  with_reducible apply wpV_light
  · simp only [lightOp]
  · intro W hU hF
    have f0 := CS.out W hU
    clear hU hF
    go_simp
    exact rfl
  simp only [Act.put, List.setIfInBounds_toArray, List.set_cons_zero, List.set_cons_succ]
  refine wpV_end (fun W hU _ _ => ?_)
  have U2 : Hid (Upd [] w1 W) := Lib.hid ((Upd.refl [] w1).drew.trans hU)
  clear hU
  obtain ⟨W3, r3, m3, u3⟩ := run_mapUpdate_int (P := Tryd.prog) (mt := 56) Tryd.underlying56 Tryd.underlying3 (HM1.out.upd U2.out (by simp)) x.id (.int .i64 n)
  have M3 : Hid (IMap W3 .i64 mb (posT (ts ++ [x])) (n + 1)) := Lib.hid (by
    rw [posT_none HX.out] at m3
    exact m3.congr (fun k => by rw [posT_push HX.out, HN.out]))
  have U3 := Lib.hid u3
  have hpm : Hid (p ≠ mb) := Lib.hid (blk_map HB.out HM.out)
  have UM : Hid (Upd [mb] w1 W3) := Lib.hid ((U2.out.mono (by simp)).trans u3)
  clear m3 u3
  refine wpT_op (by rfl) (fun K hK => ?_)
  go_wp2_with fail
  refine hK.out _ _ ?_
  clear hK K
  try simp only [Act.put, List.setIfInBounds_toArray, List.set_cons_zero, List.set_cons_succ]
  clear r3
  refine wpT_end ?_
  have hyb : Hid (w.heap.size ≠ mb) := Lib.hid (blk_map Y1.out HM1.out)
  have HB3 := Lib.hid (HB1.out.upd UM.out (by simp; exact hpm.out))
  have Y3 := Lib.hid (Y1.out.upd UM.out (by simp; exact hyb.out))
  have HO3 : Hid (W3.ownsRow B 29 2 (.slice A n c) n (flatT ts)) := Lib.hid (own_upd HO1.out UM.out (by
    intro b hb
    simp
    rintro rfl
    rcases HO1.out.2 with ⟨e, _⟩ | ⟨g, cap, cur, e, _, hg, _⟩
    · rw [e] at hb; simp [Value.ownBlock] at hb
    · rw [e] at hb
      simp only [Value.ownBlock, Option.some.injEq] at hb
      subst hb
      exact (blk_map hg HM1.out) rfl))
  have CT : Hid (∀ W, Upd [] W3.drew W → W.cell? ⟨p, 0, none⟩ = some (.slice A n c) ∧ W.cell? ⟨w.heap.size, 0, none⟩ = some (.int .i64 x.wn) ∧ W.cell? ⟨w.heap.size, 1, none⟩ = some (.int .i64 x.id)) := Lib.hid (fun W hW => by
    have hu : Upd [] W3 W := (Upd.refl [] W3).drew.trans hW
    exact ⟨(HB3.out.upd hu (by simp)).cell 0, (Y3.out.upd hu (by simp)).cell 0, (Y3.out.upd hu (by simp)).cell 1⟩)
  have SZ : Hid (B ≤ W3.heap.size) := Lib.hid (Nat.le_trans hBw (Nat.le_trans U1.out.size UM.out.size))
  go_wp2_with fail
  refine wp_invNT 7 [(6, .lit 29 #[.int .i64 x.wn, .int .i64 x.id] 1)] [] (by kernel_rfl) (by simp) (by kernel_rfl) (by kernel_rfl) ⟨lasts_lit _ _ _, trivial⟩ ?_
  simp only [List.take_succ_cons, List.take_zero, List.drop_succ_cons, List.drop_zero]
  with_reducible apply wpV_light
  · simp only [lightOp]
  · intro W hU hF
    have f0 := CT.out W hU
    clear hU hF
    go_simp
    exact rfl
  simp only [Act.put, List.setIfInBounds_toArray, List.set_cons_zero, List.set_cons_succ]
  with_reducible apply wpV_light
  · simp only [lightOp]
  · intro W hU hF
    have f0 := CT.out W hU
    clear hU hF
    go_simp
    exact rfl
  simp only [Act.put, List.setIfInBounds_toArray, List.set_cons_zero, List.set_cons_succ]
  with_reducible apply wpV_light
  · simp only [lightOp]
  · intro W hU hF
    have f0 := CT.out W hU
    clear hU hF
    go_simp
    exact rfl
  simp only [Act.put, List.setIfInBounds_toArray, List.set_cons_zero, List.set_cons_succ]
  with_reducible apply wpV_light
  · simp only [lightOp]
  · intro W hU hF
    have f0 := CT.out W hU
    clear hU hF
    go_simp
    exact rfl
  simp only [Act.put, List.setIfInBounds_toArray, List.set_cons_zero, List.set_cons_succ]
  with_reducible apply wpV_light
  · simp only [lightOp]
  · intro W hU hF
    have f0 := CT.out W hU
    clear hU hF
    go_simp
    exact rfl
  simp only [Act.put, List.setIfInBounds_toArray, List.set_cons_zero, List.set_cons_succ]
  with_reducible apply wpV_light
  · simp only [lightOp]
  · intro W hU hF
    have f0 := CT.out W hU
    clear hU hF
    go_simp
    exact rfl
  simp only [Act.put, List.setIfInBounds_toArray, List.set_cons_zero, List.set_cons_succ]
  refine wpV_heavy (by simp only [lightOp]) (by rfl) (fun W hU hk hF K hK => ?_) ?_
  · go_wp2_with fail
    exact wpV_lit hK rfl rfl rfl
  rintro _ ⟨g, rfl⟩
  simp only [Act.put, List.setIfInBounds_toArray, List.set_cons_zero, List.set_cons_succ]
  refine wpV_end (fun W hU _ hF => ?_)
  have U4 : Hid (Upd [] W3 W) := Lib.hid ((Upd.refl [] W3).drew.trans hU)
  have LT : Hid (Blk W g 29 #[.int .i64 x.wn, .int .i64 x.id]) := Lib.hid (by
    obtain ⟨g', he, hb⟩ := hF.out.1 (by kernel_rfl)
    injection he with he _ _
    injection he with he
    injection he with he
    subst he
    exact hb)
  clear hU hF
  refine wpT_op (by rfl) (fun K hK => ?_)
  refine wp_app W (.tmp 27) (.tmp 29) _ (by rfl) tim_elem (.slice A n c) _ (by rfl) (by rfl) (own_upd0 HO3.out U4.out) (.of_blk LT.out (m := 1) 1 rfl) (by intro u hu; simp at hu; rcases hu with rfl | rfl <;> rfl) (by simp only [maxLen]; omega) (by omega) (Nat.le_trans SZ.out U4.out.size) ?_
  intro v5 W5 o5 u5 b5
  obtain ⟨A5, c5, rfl, _, _⟩ := own_slice o5
  refine hK.out _ _ ?_
  clear hK K
  simp only [Act.put, List.setIfInBounds_toArray, List.set_cons_zero, List.set_cons_succ]
  have O5 : Hid (W5.ownsRow B 29 2 (.slice A5 (n + 1) c5) (n + 1) (flatT (ts ++ [x]))) := Lib.hid (by rw [flatT_append]; exact o5)
  have U5 := Lib.hid u5
  have B5 := Lib.hid b5
  have hpo : Hid (∀ b, (Value.slice A n c).ownBlock = some b → b ≠ p ∧ b ≠ mb) := Lib.hid (fun b hb => by
    refine ⟨fun e => ?_, fun e => ?_⟩
    · subst e
      exact (own_type HO1.out HB1.out (by decide)) hb
    · subst e
      rcases HO1.out.2 with ⟨e, _⟩ | ⟨g, cap, cur, e, _, hg, _⟩
      · rw [e] at hb; simp [Value.ownBlock] at hb
      · rw [e] at hb
        simp only [Value.ownBlock, Option.some.injEq] at hb
        subst hb
        exact (blk_map hg HM1.out) rfl)
  clear o5 u5 b5
  have HB5 : Hid (Blk W5 p 58 #[.slice A n c, .map (some mb)]) := Lib.hid ((HB3.out.upd U4.out (by simp)).upd U5.out (by intro hm; exact (hpo.out p (by simpa using hm)).1 rfl))
  have M5 : Hid (IMap W5 .i64 mb (posT (ts ++ [x])) (n + 1)) := Lib.hid ((M3.out.upd U4.out (by simp)).upd U5.out (by intro hm; exact (hpo.out mb (by simpa using hm)).2 rfl))
  have f0 : W5.cell? ⟨p, 0, none⟩ = some (.slice A n c) := HB5.out.cell 0
  have f1 : W5.frozen? ⟨p, 0, none⟩ = false := HB5.out.frozen 0
  have f2 : p < W5.heap.size := HB5.out.lt
  refine wpT_op (by rfl) (fun K hK => ?_)
  go_wp2_with fail
  refine hK.out _ _ ?_
  clear hK K
  try simp only [Act.put, List.setIfInBounds_toArray, List.set_cons_zero, List.set_cons_succ]
  refine wpT_op (by rfl) (fun K hK => ?_)
  go_wp2_with fail
  refine hK.out _ _ ?_
  clear hK K
  try simp only [Act.put, List.setIfInBounds_toArray, List.set_cons_zero, List.set_cons_succ]
  refine wpT_op (by rfl) (fun K hK => ?_)
  go_wp2_with fail
  refine hK.out _ _ ?_
  clear hK K
  try simp only [Act.put, List.setIfInBounds_toArray, List.set_cons_zero, List.set_cons_succ]
  refine wpT_end ?_
  go_wp2_with fail
  go_end0
  have h5p : ∀ b, (Value.slice A5 (n + 1) c5).ownBlock = some b → b ≠ p := fun b hb e => by
    subst e
    exact (own_type O5.out HB5.out (by decide)) hb
  have UF : Upd [p] W5 (W5.setCell ⟨p, 0, none⟩ (.slice A5 (n + 1) c5)) := (Upd.refl [p] W5).setCell (.inl (by simp)) _
  refine ⟨rfl, ⟨⟨.slice A5 (n + 1) c5, HB5.out.set_eq rfl, ?_⟩, ?_, ?_, ?_, HS.out.bp, HS.out.bm⟩, ?_, fun k hk => ?_⟩
  · rw [List.length_append, HN.out]
    exact own_upd O5.out UF (by intro b hb; simpa using h5p b hb)
  · rw [List.length_append, HN.out]
    exact M5.out.upd UF (by simp; exact fun e => hpm.out e.symm)
  · rw [List.map_append, List.nodup_append]
    refine ⟨HS.out.nd, by simp, fun a ha b hb => ?_⟩
    obtain ⟨t, ht, rfl⟩ := List.mem_map.1 ha
    simp at hb
    subst hb
    exact HX.out t ht
  · rw [List.length_append, HN.out]; simp; omega
  · have h1 : Upd (p :: mb :: (Value.slice A n c).ownBlock.toList) w (W5.setCell ⟨p, 0, none⟩ (.slice A5 (n + 1) c5)) :=
      ((((U1.out.mono (by simp)).trans (UM.out.mono (by simp))).trans (U4.out.mono (by simp))).trans (U5.out.mono (by intro y hy; exact .inl (List.mem_cons_of_mem _ (List.mem_cons_of_mem _ hy))))).trans (UF.mono (by simp))
    refine .of_upd h1 (fun y hy => ?_)
    rcases List.mem_cons.1 hy with rfl | hy
    · exact .inl (.inl rfl)
    · rcases List.mem_cons.1 hy with rfl | hy
      · exact .inl (.inr (.inl rfl))
      · exact .inl (.inr (.inr ⟨_, HB.out.cell 0, by simpa using hy⟩))
  · rcases hk with rfl | rfl | ⟨v, h1, h2⟩
    · exact .inl (.inl rfl)
    · exact .inl (.inr (.inl rfl))
    · rw [(HB5.out.set_eq (i := 0) (u := .slice A5 (n + 1) c5) rfl).cell] at h1
      have hv : Value.slice A5 (n + 1) c5 = v := Option.some.inj h1
      subst hv
      rcases B5.out with h | h
      · exact .inl (.inr (.inr ⟨.slice A n c, HB.out.cell 0, h.symm.trans h2⟩))
      · have := Option.some.inj (h.symm.trans h2)
        subst this
        exact .inr (Nat.le_trans U1.out.size (Nat.le_trans UM.out.size U4.out.size))

set_option maxRecDepth 100000 in
set_option maxHeartbeats 1000000 in
theorem tim_pop (B p mb : Nat) (ts : List Tm) (n : Nat) (w : World) (hs : TimSt B p mb w ts) (hn : ts.length = n + 1) :
    Calls Tryd.prog 95 #[.pointer (some ⟨p, 0, none⟩)] w fun e w' => e = .returned (.iface 29 (.agg #[.int .i64 (ts.getD n default).wn, .int .i64 (ts.getD n default).id])) ∧ TimSt B p mb w' (ts.take n) ∧ FrT p mb w w' := by
  have HS := Lib.hid hs
  obtain ⟨v, hb, ho⟩ := hs.obj
  obtain ⟨g, c, cur, rfl, hBg, hbg, hnc, hcm, _, _⟩ := own_form ho (by omega)
  have hsm := hs.small
  rw [hn] at hb ho hnc hsm
  obtain ⟨x, hx⟩ : ∃ x, ts[n]? = some x := ⟨_, List.getElem?_eq_getElem (by omega)⟩
  have hxd : ts.getD n default = x := by rw [List.getD_eq_getElem?_getD, hx]; rfl
  rw [hxd]
  have HB := Lib.hid hb
  have HO := Lib.hid ho
  have HM : Hid (IMap w .i64 mb (posT ts) (n + 1)) := Lib.hid (hn ▸ hs.mp)
  have HG := Lib.hid hbg
  have HN := Lib.hid hn
  have HX := Lib.hid hx
  have f0 : w.cell? ⟨p, 0, none⟩ = some (.slice (some ⟨g, 0, none⟩) (n + 1) c) := hb.cell 0
  have f1 : w.frozen? ⟨p, 0, none⟩ = false := hb.frozen 0
  have f2 : p < w.heap.size := hb.lt
  have f3 : p < w.heap.size + 1 := by omega
  have c0 := own_cell ho _ _ (flatT_get ts n x hx).1
  have c1 := own_cell ho _ _ (flatT_get ts n x hx).2
  have gl : g < w.heap.size := hbg.lt
  have hcc : (n : Int) ≤ c := by omega
  have hpm : Hid (p ≠ mb) := Lib.hid (blk_map hb HM.out)
  have hgm : Hid (g ≠ mb) := Lib.hid (blk_map hbg HM.out)
  have hgp : Hid (g ≠ p) := Lib.hid (fun e => by subst e; exact (Blk.ne_ hb hbg (by decide)) rfl)
  unfold maxLen at hcm
  clear hs hb ho hbg hx hxd hn
  go_enter Tryd.func95, Tryd.ntmps95
  go_wp2_with fail
  have U1 : Hid (Upd [p] w ((w.setCell ⟨p, 0, none⟩ (.slice (some ⟨g, 0, none⟩) n c)).alloc (.cells #[.int .i64 x.wn, .int .i64 x.id] 29))) := Lib.hid (((Upd.refl [p] w).setCell (.inl (by simp)) _).alloc _)
  have Y1 : Hid (Blk ((w.setCell ⟨p, 0, none⟩ (.slice (some ⟨g, 0, none⟩) n c)).alloc (.cells #[.int .i64 x.wn, .int .i64 x.id] 29)) w.heap.size 29 #[.int .i64 x.wn, .int .i64 x.id]) := Lib.hid (Blk.newAt _ _ (by simp [World.setCell]))
  have P1 : Hid (Blk ((w.setCell ⟨p, 0, none⟩ (.slice (some ⟨g, 0, none⟩) n c)).alloc (.cells #[.int .i64 x.wn, .int .i64 x.id] 29)) p 58 #[.slice (some ⟨g, 0, none⟩) n c, .map (some mb)]) := Lib.hid ((HB.out.set_eq rfl).alloc _)
  generalize ((w.setCell ⟨p, 0, none⟩ (.slice (some ⟨g, 0, none⟩) n c)).alloc (.cells #[.int .i64 x.wn, .int .i64 x.id] 29)) = w1 at *
  have O1 : Hid (w1.ownsRow B 29 2 (.slice (some ⟨g, 0, none⟩) n c) n (flatT (ts.take n))) := Lib.hid (by
    have h1 := own_take HO.out n (by omega)
    have h2 : (flatT ts).take (n * 2) = flatT (ts.take n) := by
      have hts : ts = ts.take n ++ ts.drop n := (List.take_append_drop n ts).symm
      conv => lhs; rw [hts, flatT_append]
      rw [List.take_append_of_le_length (by rw [flatT_len, List.length_take, HN.out]; omega), List.take_of_length_le (by rw [flatT_len, List.length_take, HN.out]; omega)]
    rw [h2] at h1
    exact own_upd h1 U1.out (by intro b hb; simp only [Value.ownBlock, Option.some.injEq] at hb; subst hb; simpa using hgp.out))
  have M1 : Hid (IMap w1 .i64 mb (posT ts) (n + 1)) := Lib.hid (HM.out.upd U1.out (by simp; exact fun e => hpm.out e.symm))
  have CS : Hid (∀ W, Upd [] w1.drew W → W.cell? ⟨p, 1, none⟩ = some (.map (some mb)) ∧ W.cell? ⟨w.heap.size, 1, none⟩ = some (.int .i64 x.id)) := Lib.hid (fun W hW => by
    have hu : Upd [] w1 W := (Upd.refl [] w1).drew.trans hW
    exact ⟨(P1.out.upd hu (by simp)).cell 1, (Y1.out.upd hu (by simp)).cell 1⟩)
  clear f0 f1 f2 f3 c0 c1 gl
  refine wp_invNT 6 [] [] (by kernel_rfl) (by simp) (by kernel_rfl) (by kernel_rfl) trivial ?_
  simp only [List.take_succ_cons, List.take_zero, List.drop_succ_cons, List.drop_zero]
  with_reducible apply wpV_light
  · simp only [lightOp]
  · intro W hU hF
    have f0 := CS.out W hU
    clear hU hF
    go_simp
    exact rfl
  simp only [Act.put, List.setIfInBounds_toArray, List.set_cons_zero, List.set_cons_succ]
  with_reducible apply wpV_light
  · simp only [lightOp]
  · intro W hU hF
    have f0 := CS.out W hU
    clear hU hF
    go_simp
    exact rfl
  simp only [Act.put, List.setIfInBounds_toArray, List.set_cons_zero, List.set_cons_succ]
  with_reducible apply wpV_light
  · simp only [lightOp]
  · intro W hU hF
    have f0 := CS.out W hU
    clear hU hF
    go_simp
    exact rfl
  simp only [Act.put, List.setIfInBounds_toArray, List.set_cons_zero, List.set_cons_succ]
  with_reducible apply wpV_light
  · simp only [lightOp]
  · intro W hU hF
    have f0 := CS.out W hU
    clear hU hF
    go_simp
    exact rfl
  simp only [Act.put, List.setIfInBounds_toArray, List.set_cons_zero, List.set_cons_succ]
  with_reducible apply wpV_light
  · simp only [lightOp]
  · intro W hU hF
    have f0 := CS.out W hU
    clear hU hF
    go_simp
    exact rfl
  simp only [Act.put, List.setIfInBounds_toArray, List.set_cons_zero, List.set_cons_succ]
  with_reducible apply wpV_light
  · simp only [lightOp]
  · intro W hU hF
    have f0 := CS.out W hU
    clear hU hF
    go_simp
    exact rfl
  simp only [Act.put, List.setIfInBounds_toArray, List.set_cons_zero, List.set_cons_succ]
  refine wpV_end (fun W hU _ _ => ?_)
  have U2 : Hid (Upd [] w1 W) := Lib.hid ((Upd.refl [] w1).drew.trans hU)
  clear hU
  obtain ⟨W3, r3, m3, u3⟩ := run_delete_int (P := Tryd.prog) (ats := #[56, 3]) (ty := 0) rfl Tryd.underlying56 Tryd.underlying3 (M1.out.upd U2.out (by simp)) x.id
  have M3 : Hid (IMap W3 .i64 mb (posT (ts.take n)) n) := Lib.hid (by
    rw [posT_at HS.out.nd HX.out] at m3
    exact m3.congr (fun k => by rw [posT_pop HS.out.nd HN.out HX.out]))
  have UM : Hid (Upd [mb] w1 W3) := Lib.hid ((U2.out.mono (by simp)).trans u3)
  clear m3 u3
  refine wpT_op (by rfl) (fun K hK => ?_)
  go_wp2_with fail
  refine hK.out _ _ ?_
  clear hK K
  try simp only [Act.put, List.setIfInBounds_toArray, List.set_cons_zero, List.set_cons_succ]
  clear r3
  refine wpT_end ?_
  have hyb : Hid (w.heap.size ≠ mb) := Lib.hid (blk_map Y1.out M1.out)
  have Y3 := Lib.hid (Y1.out.upd UM.out (by simp; exact hyb.out))
  have y0 : W3.cell? ⟨w.heap.size, 0, none⟩ = some (.int .i64 x.wn) := Y3.out.cell 0
  have y1 : W3.cell? ⟨w.heap.size, 1, none⟩ = some (.int .i64 x.id) := Y3.out.cell 1
  go_wp2_with fail
  go_ret
  have hlt : (ts.take n).length = n := by rw [List.length_take, HN.out]; omega
  refine ⟨rfl, ⟨⟨.slice (some ⟨g, 0, none⟩) n c, P1.out.upd UM.out (by simp; exact hpm.out), ?_⟩, ?_, ?_, by omega, HS.out.bp, HS.out.bm⟩, ?_, fun k hk => ?_⟩
  · rw [hlt]
    exact own_upd O1.out UM.out (by intro b hb; simp only [Value.ownBlock, Option.some.injEq] at hb; subst hb; simpa using hgm.out)
  · rw [hlt]; exact M3.out
  · exact HS.out.nd.sublist ((List.take_sublist n ts).map _)
  · have h1 : Upd [p, mb] w W3 := (U1.out.mono (by simp)).trans (UM.out.mono (by simp))
    refine .of_upd h1 (fun y hy => ?_)
    simp only [List.mem_cons, List.not_mem_nil, or_false] at hy
    rcases hy with rfl | rfl
    · exact .inl (.inl rfl)
    · exact .inl (.inr (.inl rfl))
  · rcases hk with rfl | rfl | ⟨v, h1, h2⟩
    · exact .inl (.inl rfl)
    · exact .inl (.inr (.inl rfl))
    · rw [(P1.out.upd UM.out (by simp; exact hpm.out)).cell] at h1
      cases h1
      exact .inl (.inr (.inr ⟨_, HB.out.cell 0, h2⟩))

theorem tim_heaped (B p mb : Nat) : Heaped Tm 24 94 97 (.pointer (some ⟨p, 0, none⟩)) ltT (TimSt B p mb) (FrT p mb) where
  refl := FrT.refl p mb
  trans := fun a b c => FrT.trans
  len := fun w xs hs => tim_len B p mb xs w hs
  less := fun w xs i j hs hi hj => tim_less B p mb xs i j w hs hi hj
  swap := fun w xs i j hs hi hj => tim_swap B p mb xs i j w hs hi hj
  small := fun w xs hs => Nat.le_trans hs.small (by omega)
end Go.Proofs.YtainiojlhdbhgaaDoor

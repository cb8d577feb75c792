/-
  model.State: Copy.
-/
import Derived.Test.YtjlpogmoebmkdaaDoorMdl5
set_option linter.unusedVariables false
namespace Go.Proofs.YtjlpogmoebmkdaaDoor
open Go.RowKit Assoc MP
attribute [local go_sem] litStep_value

theorem take_snoc5 {α : Type} {L : List α} {k : Nat} {x : α} (h : L[k]? = some x) : L.take (k + 1) = L.take k ++ [x] := by
  obtain ⟨hk, rfl⟩ := List.getElem?_eq_some_iff.1 h
  exact List.take_succ_eq_append_getElem hk
/-- A new map, a new block that holds one: facts that last where nothing turns. -/
def mapSpec (H : Nat) (f : Int → Option Value) (n : Nat) : Spec := ⟨fun _ => [], fun v w => ∃ m, v = .map (some m) ∧ H ≤ m ∧ IMap w .i64 m f n, fun v => ∃ m, v = .map (some m)⟩
def litMap (H : Nat) (f : Int → Option Value) (n : Nat) : Spec := ⟨fun _ => [], fun v w => ∃ g m, v = .slice (some ⟨g, 0, none⟩) 1 1 ∧ Blk w g 59 #[.map (some m)] ∧ H ≤ m ∧ IMap w .i64 m f n, fun v => ∃ g, v = .slice (some ⟨g, 0, none⟩) 1 1⟩
theorem lasts_mapSpec (w0 : World) (H : Nat) (f : Int → Option Value) (n : Nat) : Lasts0 w0 (mapSpec H f n) :=
  ⟨fun v w w' _ ⟨m, h1, h2, h3⟩ hu => ⟨m, h1, h2, h3.upd hu (by simp)⟩, ⟨_, 0, rfl⟩, fun _ _ ⟨m, h, _⟩ => ⟨m, h⟩⟩
theorem lasts_litMap (w0 : World) (H : Nat) (f : Int → Option Value) (n : Nat) : Lasts0 w0 (litMap H f n) :=
  ⟨fun v w w' _ ⟨g, m, h1, h2, h3, h4⟩ hu => ⟨g, m, h1, h2.upd hu (by simp), h3, h4.upd hu (by simp)⟩, ⟨_, 0, rfl⟩, fun _ _ ⟨g, _, h, _⟩ => ⟨g, h⟩⟩
/-- The copy so far. -/
structure CopySt (sb1 : Nat) (s : MS) (vk : Value) (gc cc : Nat) (ms : List Nat) (k : Nat) (w0 w : World) : Prop where
  st : MdlSt w0.heap.size sb1 vk gc cc ms w { s with L := s.L.take k }
  u : Upd [] w0 w
def MCopyPost (s : MS) (w : World) (e : Ending) (w' : World) : Prop := ∃ sb F, e = .returned (.pointer (some ⟨sb, 0, none⟩)) ∧ Mdl w.heap.size sb F w' s ∧ Upd [] w w'
set_option maxRecDepth 100000 in
set_option maxHeartbeats 4000000 in
theorem m_copy (B sb : Nat) (F : List Nat) (s : MS) (w : World) (h : Mdl B sb F w s) :
    Calls Tryd.prog 17 #[.pointer (some ⟨sb, 0, none⟩)] w fun e w' => MCopyPost s w e w' := by
  have eq0 := @Lib.run_eql_slice_nil Tryd.prog
  obtain ⟨g, vk, gc, cc, ms, hF, h⟩ := h
  have HG := Lib.hid g
  have HS := Lib.hid h
  obtain ⟨n, hn⟩ : ∃ n, s.L.length = n := ⟨_, rfl⟩
  have HN := Lib.hid hn
  have hn8 : n ≤ 8 := by rw [← hn, ← g.kl]; exact g.k8
  have K8 := Lib.hid g.k8
  obtain ⟨Ak, ck, rfl, hnk, _⟩ := own_slice HS.out.k
  have HB : Hid (Blk w sb 75 #[.slice Ak s.K.length ck, .slice (some ⟨gc, 0, none⟩) n cc]) := Lib.hid (by rw [← hn]; exact h.box)
  have OC : Hid (w.ownsRow B 59 1 (.slice (some ⟨gc, 0, none⟩) n cc) n (mapsV ms)) := Lib.hid (by rw [← hn]; exact h.c)
  have c0 : w.cell? ⟨sb, 0, none⟩ = some (.slice Ak s.K.length ck) := HB.out.cell 0
  have c1 : w.cell? ⟨sb, 1, none⟩ = some (.slice (some ⟨gc, 0, none⟩) n cc) := HB.out.cell 1
  clear g h hF hn
  go_enter Tryd.func17, Tryd.ntmps17
  go_wp2_with fail
  refine (clone_ints Ak s.K.length ck s.K w HS.out.k.rd rfl (by have := K8.out; omega)).mono ?_
  rintro e w1 ⟨v, rfl, o1, u1⟩
  obtain ⟨A1, k1, rfl, _, _⟩ := own_slice o1
  have O1 := Lib.hid o1
  have U1 := Lib.hid u1
  clear o1 u1 c0 c1
  have UX : Hid (Upd [] w1 ((w1.alloc (.cells #[] 59)).alloc (.cells #[.slice A1 s.K.length k1, .slice (some ⟨w1.heap.size, 0, none⟩) 0 0] 75))) := Lib.hid (((Upd.refl [] w1).alloc _).alloc _)
  have cx : ((w1.alloc (.cells #[] 59)).alloc (.cells #[.slice A1 s.K.length k1, .slice (some ⟨w1.heap.size, 0, none⟩) 0 0] 75)).cell? ⟨sb, 1, none⟩ = some (.slice (some ⟨gc, 0, none⟩) n cc) := (HB.out.upd (U1.out.trans UX.out) (by simp)).cell 1
  have h2 : (w1.alloc (.cells #[] 59)).heap.size = w1.heap.size + 1 := by simp
  have C0 : Hid (MdlSt w.heap.size (w1.heap.size + 1) (.slice A1 s.K.length k1) w1.heap.size 0 [] ((w1.alloc (.cells #[] 59)).alloc (.cells #[.slice A1 s.K.length k1, .slice (some ⟨w1.heap.size, 0, none⟩) 0 0] 75)) { s with L := s.L.take 0 }) := Lib.hid ⟨Blk.newAt 75 _ h2, O1.out.upd0 UX.out, own_made 1 ((Blk.new w1 59 #[]).upd ((Upd.refl [] _).alloc _) (by simp)) U1.out.size, by simp, .nil, by have := U1.out.size; omega, by simp⟩
  go_wp2_with fail
  generalize ((w1.alloc (.cells #[] 59)).alloc (.cells #[.slice A1 s.K.length k1, .slice (some ⟨w1.heap.size, 0, none⟩) 0 0] 75)) = w2 at *
  have U2 := Lib.hid (U1.out.trans UX.out)
  obtain ⟨ob, hob⟩ : ∃ ob, w1.heap.size + 1 = ob := ⟨_, rfl⟩
  have hob2 : (w1.alloc (.cells #[] 59)).heap.size = ob := by rw [h2, hob]
  rw [hob] at C0
  try rw [h2]
  try rw [hob]
  clear h2 hob2 hob cx UX
  go_loopw [28] (fun v wr => ∃ k : Nat, v = .int .i64 k ∧ k ≤ n ∧ Hid ((∃ gc1 cc1 ms1, MdlSt w.heap.size ob (.slice A1 s.K.length k1) gc1 cc1 ms1 wr { s with L := s.L.take k }) ∧ Upd [] w wr)) (fun v _ => n - (intOf v).toNat)
  case atStart => exact ⟨0, rfl, by omega, Lib.hid ⟨⟨_, _, _, C0.out⟩, U2.out⟩⟩
  case round =>
    obtain ⟨k, rfl, hk, HK⟩ := hrel
    obtain ⟨⟨gc1, cc1, ms1, hst⟩, hu⟩ := HK.out
    rename World => wi
    have ST := Lib.hid hst
    have UI := Lib.hid hu
    have LK : Hid ((s.L.take k).length = k) := Lib.hid (by rw [List.length_take, HN.out]; omega)
    clear HK hst hu C0
    by_cases hkn : k < n
    · obtain ⟨m, hm, him⟩ := (HS.out.upd UI.out (by simp)).at_ (i := k) (by rw [HN.out]; exact hkn)
      have HIM := Lib.hid him
      have LT := Lib.hid (take_snoc5 (coll_get (s := s) (i := k) (by rw [HN.out]; exact hkn)))
      have e0 : wi.cell? ⟨gc, k, none⟩ = some (.map (some m)) := own_cell (own_upd0 OC.out UI.out) k _ (by unfold mapsV; rw [List.getElem?_map, hm]; rfl)
      have q1 : (0 : Int) ≤ (k : Int) := by omega
      have q2 : (k : Int) < (n : Int) := by omega
      have OB : Hid (Blk wi ob 75 #[.slice A1 s.K.length k1, .slice (some ⟨gc1, 0, none⟩) k cc1]) := Lib.hid (by have := ST.out.box; rw [show ({ s with L := s.L.take k } : MS).L.length = k from LK.out] at this; exact this)
      have ON : Hid (wi.ownsRow w.heap.size 59 1 (.slice (some ⟨gc1, 0, none⟩) k cc1) k (mapsV ms1)) := Lib.hid (by have := ST.out.c; rw [show ({ s with L := s.L.take k } : MS).L.length = k from LK.out] at this; exact this)
      clear hm him
      go_wp2_with fail
      have CS : Hid (∀ W, Upd [] wi.drew W → W.cell? ⟨ob, 1, none⟩ = some (.slice (some ⟨gc1, 0, none⟩) k cc1)) := Lib.hid (fun W hW => (OB.out.upd ((Upd.refl [] wi).drew.trans hW) (by simp)).cell 1)
      refine wp_invNT0 8 [(6, mapSpec wi.heap.size (mapI (coll s k)) (coll s k).length), (7, litMap wi.heap.size (mapI (coll s k)) (coll s k).length)] (by kernel_rfl) (by simp) (by kernel_rfl) (by kernel_rfl) ⟨lasts_mapSpec _ _ _ _, lasts_litMap _ _ _ _, trivial⟩ ?_
      simp only [List.take_succ_cons, List.take_zero, List.drop_succ_cons, List.drop_zero]
      with_reducible apply wpV_light
      · simp only [lightOp]
      · intro W hU hF
        have f0 := CS.out W hU
        clear hU hF
        go_simp
        exact rfl
      simp only [Act.put, List.setIfInBounds_toArray, List.set_cons_zero, List.set_cons_succ]
      with_reducible apply wpV_light
      · simp only [lightOp]
      · intro W hU hF
        have f0 := CS.out W hU
        clear hU hF
        go_simp
        exact rfl
      simp only [Act.put, List.setIfInBounds_toArray, List.set_cons_zero, List.set_cons_succ]
      with_reducible apply wpV_light
      · simp only [lightOp]
      · intro W hU hF
        have f0 := CS.out W hU
        clear hU hF
        go_simp
        exact rfl
      simp only [Act.put, List.setIfInBounds_toArray, List.set_cons_zero, List.set_cons_succ]
      with_reducible apply wpV_light
      · simp only [lightOp]
      · intro W hU hF
        have f0 := CS.out W hU
        clear hU hF
        go_simp
        exact rfl
      simp only [Act.put, List.setIfInBounds_toArray, List.set_cons_zero, List.set_cons_succ]
      with_reducible apply wpV_light
      · simp only [lightOp]
      · intro W hU hF
        have f0 := CS.out W hU
        clear hU hF
        go_simp
        exact rfl
      simp only [Act.put, List.setIfInBounds_toArray, List.set_cons_zero, List.set_cons_succ]
      with_reducible apply wpV_light
      · simp only [lightOp]
      · intro W hU hF
        have f0 := CS.out W hU
        clear hU hF
        go_simp
        exact rfl
      simp only [Act.put, List.setIfInBounds_toArray, List.set_cons_zero, List.set_cons_succ]
      refine wpV_heavy (by simp only [lightOp]) (by rfl) (fun W hU hk hF K hK => ?_) ?_
      · go_wp2_with fail
        refine (clone_map m _ _ _ (HIM.out.upd ((Upd.refl [] wi).drew.trans hU) (by simp))).mono ?_
        rintro e w5 ⟨rfl, im5, u5, -⟩
        go_wp2_with fail
        exact hK.out _ _ (outV_new rfl ⟨_, rfl, ((Upd.refl [] wi).drew.trans hU).size, im5⟩ (by intro b hb; cases hb) u5)
      rintro _ ⟨m6, rfl⟩
      simp only [Act.put, List.setIfInBounds_toArray, List.set_cons_zero, List.set_cons_succ]
      refine wpV_heavy (by simp only [lightOp]) (by rfl) (fun W hU hk hF K hK => ?_) ?_
      · have h6 := hF.out.1 (by kernel_rfl)
        go_wp2_with fail
        obtain ⟨m', e6, h6a, h6b⟩ := h6
        injection e6 with e6
        injection e6 with e6
        subst e6
        exact hK.out _ _ (outV_new rfl ⟨_, m6, rfl, Blk.new _ _ _, h6a, h6b.upd ((Upd.refl [] _).alloc _) (by simp)⟩ (by intro b hb; cases hb) ((Upd.refl [] _).alloc _))
      rintro _ ⟨g5, rfl⟩
      simp only [Act.put, List.setIfInBounds_toArray, List.set_cons_zero, List.set_cons_succ]
      refine wpV_end (fun W hU _ hF => ?_)
      have U6 : Hid (Upd [] wi W) := Lib.hid ((Upd.refl [] wi).drew.trans hU)
      obtain ⟨g5', m5, e5, hb5, hm5, him5⟩ := hF.out.2.1 (by kernel_rfl)
      injection e5 with e5 _ _
      injection e5 with e5
      injection e5 with e5
      subst e5
      have HB5 := Lib.hid hb5
      have HM5 := Lib.hid hm5
      have IM5 := Lib.hid him5
      clear hU hF hb5 hm5 him5
      have S5 : Hid (w.heap.size ≤ W.heap.size) := Lib.hid (UI.out.trans U6.out).size
      refine wpT_op (by rfl) (fun K hK => ?_)
      refine wp_app W (.tmp 36) (.tmp 39) _ (by rfl) elem_map (.slice (some ⟨gc1, 0, none⟩) k cc1) _ (by rfl) (by rfl) (own_upd0 ON.out U6.out) (.of_blk HB5.out (m := 1) 1 rfl) (by intro u hu; simp at hu; subst hu; rfl) (by simp only [maxLen]; omega) (by omega) S5.out ?_
      intro v7 w7 o7 u7 b7
      have O7N : Hid (w7.ownsRow w.heap.size 59 1 v7 (k + 1) (mapsV ms1 ++ [.map (some m5)])) := Lib.hid o7
      have U7 := Lib.hid u7
      obtain ⟨g7, c7, cur7, rfl, _⟩ := own_form O7N.out (by omega)
      refine hK.out _ _ ?_
      clear hK K
      simp only [Act.put, List.setIfInBounds_toArray, List.set_cons_zero, List.set_cons_succ]
      have OB7 := Lib.hid ((OB.out.upd U6.out (by simp)).upd u7 (by intro hm; exact own_type ON.out OB.out (by decide) (by simpa using hm)))
      clear o7 u7 b7
      have z3 : w7.cell? ⟨ob, 1, none⟩ = some (.slice (some ⟨gc1, 0, none⟩) k cc1) := OB7.out.cell 1
      have z4 : w7.frozen? ⟨ob, 1, none⟩ = false := OB7.out.frozen 1
      have z5 : ob < w7.heap.size := OB7.out.lt
      refine wpT_op (by rfl) (fun K hK => ?_)
      go_wp2_with fail
      refine hK.out _ _ ?_
      clear hK K
      try simp only [Act.put, List.setIfInBounds_toArray, List.set_cons_zero, List.set_cons_succ]
      refine wpT_op (by rfl) (fun K hK => ?_)
      go_wp2_with fail
      refine hK.out _ _ ?_
      clear hK K
      try simp only [Act.put, List.setIfInBounds_toArray, List.set_cons_zero, List.set_cons_succ]
      refine wpT_op (by rfl) (fun K hK => ?_)
      go_wp2_with fail
      refine hK.out _ _ ?_
      clear hK K
      try simp only [Act.put, List.setIfInBounds_toArray, List.set_cons_zero, List.set_cons_succ]
      refine wpT_end ?_
      have U8 : Hid (Upd [ob] w7 (w7.setCell ⟨ob, 1, none⟩ (.slice (some ⟨g7, 0, none⟩) (k + 1) c7))) := Lib.hid ((Upd.refl [ob] w7).setCell (.inl (by simp)) _)
      have ST8 : Hid (∃ gc1 cc1 ms1, MdlSt w.heap.size ob (.slice A1 s.K.length k1) gc1 cc1 ms1 (w7.setCell ⟨ob, 1, none⟩ (.slice (some ⟨g7, 0, none⟩) (k + 1) c7)) { s with L := s.L.take (k + 1) }) := Lib.hid (by
        have UT : Upd [ob, gc1] wi (w7.setCell ⟨ob, 1, none⟩ (.slice (some ⟨g7, 0, none⟩) (k + 1) c7)) := ((U6.out.mono (by simp)).trans (U7.out.mono (by intro y hy; simp [Value.ownBlock] at hy; subst hy; exact .inl (by simp)))).trans (U8.out.mono (by simp))
        have IMX : IMap (w7.setCell ⟨ob, 1, none⟩ (.slice (some ⟨g7, 0, none⟩) (k + 1) c7)) .i64 m5 (mapI (coll s k)) (coll s k).length := by
          have im7 := IM5.out.upd U7.out (by simp [Value.ownBlock]; intro e; have := (own_lt ON.out (b := gc1) rfl).2; have := HM5.out; omega)
          exact im7.upd U8.out (by simp; intro e; have := OB.out.lt; have := HM5.out; omega)
        have hp := ST.out.push (m := m5) (l := coll s k) (gc' := g7) (cc' := c7) UT (by rw [show ({ s with L := s.L.take k } : MS).L.length = k from LK.out]; exact OB7.out.set_eq rfl) (by rw [show ({ s with L := s.L.take k } : MS).L.length = k from LK.out]; exact own_upd O7N.out U8.out (by intro b hb; simp; rintro rfl; exact own_type O7N.out OB7.out (by decide) hb)) IMX HM5.out (Nat.le_trans UI.out.size HM5.out)
        rw [LT.out]
        exact ⟨_, _, _, hp⟩)
      have UI8 : Hid (Upd [] w (w7.setCell ⟨ob, 1, none⟩ (.slice (some ⟨g7, 0, none⟩) (k + 1) c7))) := Lib.hid (by
        have h1 := (UI.out.trans U6.out).trans' U7.out (fun x hx => .inr (own_lt ON.out (by simpa using hx)).1)
        exact h1.trans' U8.out (fun x hx => by simp at hx; subst hx; exact .inr ST.out.bs))
      go_wp2_with fail
      go_roundw
      case rel => exact ⟨k + 1, by go_num, by omega, Lib.hid ⟨ST8.out, UI8.out⟩⟩
      case measure => simp [intOf]; omega
    · obtain rfl : k = n := by omega
      go_wp2_with fail
      go_ret
      unfold MCopyPost
      have hst := ST.out
      rw [show ({ s with L := s.L.take k } : MS) = s by rw [List.take_of_length_le (by rw [HN.out]; exact Nat.le_refl _)]] at hst
      exact ⟨ob, _, rfl, ⟨HG.out, _, _, _, _, rfl, hst⟩, UI.out⟩
end Go.Proofs.YtjlpogmoebmkdaaDoor

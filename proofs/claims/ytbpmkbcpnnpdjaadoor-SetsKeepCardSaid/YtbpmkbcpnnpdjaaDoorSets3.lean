/-
  sets.Sets: Mark, find, Keep, Back.
-/
import Derived.Test.YtbpmkbcpnnpdjaaDoorSets2
set_option linter.unusedVariables false
namespace Go.Proofs.YtbpmkbcpnnpdjaaDoor
open Go.RowKit Assoc SP
attribute [local go_sem] litStep_value

theorem ow_take {α : Type} {E : Enc α} {e : TypeId} {w : World} {B n c k : Nat} {A : Option Addr} {L : List α} (h : Ow E e w B (.slice A n c) L) (hk : k ≤ L.length) : Ow E e w B (.slice A k c) (L.take k) := by
  obtain ⟨A', c', he, _⟩ := own_slice h
  injection he with _ hn _
  subst hn
  unfold Ow
  rw [flat_take, List.length_take, Nat.min_eq_left hk]
  have h0 := h
  rcases h0.2 with ⟨e1, e2⟩ | ⟨g, cap, cur, e1, _⟩
  · injection e1 with a1 a2 a3
    subst a1 a3
    have : k = 0 := by omega
    subst this
    exact ⟨by simp, .inl ⟨rfl, by simp⟩⟩
  · injection e1 with a1 a2 a3
    subst a1 a3
    exact own_take h k hk

def MarkPost (B sb am wm : Nat) (F : List Nat) (s : SS) (w : World) (e : Ending) (w' : World) : Prop := ∃ v F', e = .returned (.tuple #[.int .i64 (if 20 ≤ s.marks.length then 0 else (s.marks.length + 1 : Nat)), v]) ∧ ErrV w' v (if 20 ≤ s.marks.length then 10 else 0) 0 ∧ Sets B sb am wm F' w' (sMark s) ∧ Frm F F' w w'
set_option maxRecDepth 100000 in
set_option maxHeartbeats 4000000 in
theorem s_mark (B sb am wm : Nat) (F : List Nat) (s : SS) (w : World) (h : Sets B sb am wm F w s) (hBw : B ≤ w.heap.size) :
    Calls Tryd.prog 9 #[.pointer (some ⟨sb, 0, none⟩)] w fun e w' => MarkPost B sb am wm F s w e w' := by
  have H := Lib.hid h
  obtain ⟨g, vr, vl, vk, hF, h⟩ := h
  have HF := Lib.hid hF
  have HS := Lib.hid h
  have HG := Lib.hid g
  obtain ⟨Al, cl, rfl, hnl, hcl⟩ := own_slice h.l
  obtain ⟨Ak, ck, rfl, hnk, hck⟩ := own_slice h.k
  obtain ⟨N, hN⟩ : ∃ N, s.log.length = N := ⟨_, rfl⟩
  obtain ⟨M, hM⟩ : ∃ M, s.marks.length = M := ⟨_, rfl⟩
  have HN := Lib.hid hN
  have HM := Lib.hid hM
  have c4 : w.cell? ⟨sb, 4, none⟩ = some (.slice Ak M ck) := by have := h.box.cell 4; rw [hM] at this; exact this
  clear g hF h hN hM hnl hnk
  go_enter Tryd.func9, Tryd.ntmps9
  go_wp2_with fail
  refine (s_made B sb am wm F s w H.out).mono ?_; rintro e w2 ⟨rfl, rfl⟩
  by_cases h2 : 20 ≤ M
  · have d : decide ((20 : Int) ≤ (M : Int)) = true := by simp; omega
    go_wp2_with fail
    go_ret2
    unfold MarkPost sMark
    rw [HM.out, if_pos h2, if_pos h2, if_pos h2]
    exact ⟨_, _, rfl, ErrV.errno _ 10 (by omega) (by omega), H.out, .refl _ _⟩
  · have d : decide ((20 : Int) ≤ (M : Int)) = false := by simp; omega
    have CS : Hid (∀ W, Upd [] w.drew W → W.cell? ⟨sb, 4, none⟩ = some (.slice Ak M ck) ∧ W.cell? ⟨sb, 3, none⟩ = some (.slice Al N cl)) := Lib.hid (fun W hW => by
      have hu : Upd [] w W := (Upd.refl [] w).drew.trans hW
      have hb := HS.out.box.upd hu (by simp)
      rw [HN.out, HM.out] at hb
      exact ⟨hb.cell 4, hb.cell 3⟩)
    have O0 : Hid (w.ownsRow B 3 1 (.slice Ak M ck) M (flat encK s.marks)) := Lib.hid (by have := HS.out.k; unfold Ow at this; rw [HM.out] at this; exact this)
    go_wp2_with fail
    clear c4
    refine wp_invNT 11 [(10, .lit 3 #[.int .i64 N] 1)] [] (by kernel_rfl) (by simp) (by kernel_rfl) (by kernel_rfl) ⟨lasts_lit _ _ _, trivial⟩ ?_
    simp only [List.take_succ_cons, List.take_zero, List.drop_succ_cons, List.drop_zero]
    with_reducible apply wpV_light
    · simp only [lightOp]
    · intro W hU hF
      have f0 := CS.out W hU
      clear hU hF
      go_simp
      exact rfl
    simp only [Act.put, List.setIfInBounds_toArray, List.set_cons_zero, List.set_cons_succ]
    with_reducible apply wpV_light
    · simp only [lightOp]
    · intro W hU hF
      have f0 := CS.out W hU
      clear hU hF
      go_simp
      exact rfl
    simp only [Act.put, List.setIfInBounds_toArray, List.set_cons_zero, List.set_cons_succ]
    with_reducible apply wpV_light
    · simp only [lightOp]
    · intro W hU hF
      have f0 := CS.out W hU
      clear hU hF
      go_simp
      exact rfl
    simp only [Act.put, List.setIfInBounds_toArray, List.set_cons_zero, List.set_cons_succ]
    with_reducible apply wpV_light
    · simp only [lightOp]
    · intro W hU hF
      have f0 := CS.out W hU
      clear hU hF
      go_simp
      exact rfl
    simp only [Act.put, List.setIfInBounds_toArray, List.set_cons_zero, List.set_cons_succ]
    with_reducible apply wpV_light
    · simp only [lightOp]
    · intro W hU hF
      have f0 := CS.out W hU
      clear hU hF
      go_simp
      exact rfl
    simp only [Act.put, List.setIfInBounds_toArray, List.set_cons_zero, List.set_cons_succ]
    with_reducible apply wpV_light
    · simp only [lightOp]
    · intro W hU hF
      have f0 := CS.out W hU
      clear hU hF
      go_simp
      exact rfl
    simp only [Act.put, List.setIfInBounds_toArray, List.set_cons_zero, List.set_cons_succ]
    with_reducible apply wpV_light
    · simp only [lightOp]
    · intro W hU hF
      have f0 := CS.out W hU
      clear hU hF
      go_simp
      exact rfl
    simp only [Act.put, List.setIfInBounds_toArray, List.set_cons_zero, List.set_cons_succ]
    with_reducible apply wpV_light
    · simp only [lightOp]
    · intro W hU hF
      have f0 := CS.out W hU
      clear hU hF
      go_simp
      exact rfl
    simp only [Act.put, List.setIfInBounds_toArray, List.set_cons_zero, List.set_cons_succ]
    with_reducible apply wpV_light
    · simp only [lightOp]
    · intro W hU hF
      have f0 := CS.out W hU
      clear hU hF
      go_simp
      exact rfl
    simp only [Act.put, List.setIfInBounds_toArray, List.set_cons_zero, List.set_cons_succ]
    with_reducible apply wpV_light
    · simp only [lightOp]
    · intro W hU hF
      have f0 := CS.out W hU
      clear hU hF
      go_simp
      exact rfl
    simp only [Act.put, List.setIfInBounds_toArray, List.set_cons_zero, List.set_cons_succ]
    refine wpV_heavy (by simp only [lightOp]) (by rfl) (fun W hU hk hF K hK => ?_) ?_
    · go_wp2_with fail
      exact wpV_lit hK rfl rfl rfl
    rintro _ ⟨g, rfl⟩
    simp only [Act.put, List.setIfInBounds_toArray, List.set_cons_zero, List.set_cons_succ]
    refine wpV_end (fun W hU _ hF => ?_)
    have U1 : Hid (Upd [] w W) := Lib.hid ((Upd.refl [] w).drew.trans hU)
    have LT : Hid (Blk W g 3 #[.int .i64 N]) := Lib.hid (by
      obtain ⟨g', he, hb⟩ := hF.out.1 (by kernel_rfl)
      injection he with he _ _
      injection he with he
      injection he with he
      subst he
      exact hb)
    clear hU hF
    refine wpT_op (by rfl) (fun K hK => ?_)
    refine wp_app W (.tmp 21) (.tmp 27) _ (by rfl) elem_int (.slice Ak M ck) _ (by rfl) (by rfl) (own_upd0 O0.out U1.out) (.of_blk LT.out (m := 1) 1 rfl) (by intro u hu; simp at hu; subst hu; rfl) (by simp only [maxLen]; omega) (by omega) (Nat.le_trans hBw U1.out.size) ?_
    intro v5 w5 o5 u5 b5
    obtain ⟨A5, c5, rfl, _, _⟩ := own_slice o5
    refine hK.out _ _ ?_
    clear hK K
    simp only [Act.put, List.setIfInBounds_toArray, List.set_cons_zero, List.set_cons_succ]
    have U5 : Hid (Upd ((Value.slice Ak M ck).ownBlock.toList) w w5) := Lib.hid ((U1.out.mono (by simp)).trans u5)
    have B5 : Hid (∀ b, (Value.slice A5 (M + 1) c5).ownBlock = some b → (Value.slice Ak s.marks.length ck).ownBlock = some b ∨ w.heap.size ≤ b) := Lib.hid (fun b hb => by
      rcases b5 with b5 | b5
      · exact .inl (by rw [HM.out]; exact b5 ▸ hb)
      · rw [b5] at hb
        injection hb with hb
        have := U1.out.size
        exact .inr (by omega))
    have O5 : Hid (Ow encK 3 w5 B (.slice A5 (M + 1) c5) (s.marks ++ [s.log.length])) := Lib.hid (by
      have e1 : flat encK s.marks ++ #[Value.int .i64 N].toList = flat encK (s.marks ++ [s.log.length]) := by rw [flat_append, HN.out]; rfl
      have e2 : M + 1 = (s.marks ++ [s.log.length]).length := by rw [List.length_append, HM.out]; rfl
      rw [e1] at o5
      unfold Ow
      rw [← e2]
      exact o5)
    have NS : Hid (∀ b, (Value.slice Ak M ck).ownBlock = some b → b ≠ sb ∧ b ≠ am ∧ b ≠ wm ∧ vr.ownBlock ≠ some b ∧ (Value.slice Al s.log.length cl).ownBlock ≠ some b) := Lib.hid (fun b hb => HS.out.nk (b := b) (by rw [HM.out]; exact hb))
    have H5 : Hid (Blk w5 sb 62 #[vr, .map (some am), .map (some wm), .slice Al N cl, .slice Ak M ck]) := Lib.hid (by
      have h1 := HS.out.box
      rw [HN.out, HM.out] at h1
      exact h1.upd U5.out (by intro hm; exact (NS.out sb (by simpa using hm)).1 rfl))
    clear o5 u5 b5
    have x0 : w5.cell? ⟨sb, 4, none⟩ = some (.slice Ak M ck) := H5.out.cell 4
    have x1 : w5.frozen? ⟨sb, 4, none⟩ = false := H5.out.frozen 4
    have x2 : sb < w5.heap.size := H5.out.lt
    refine wpT_op (by rfl) (fun K hK => ?_)
    go_wp2_with fail
    refine hK.out _ _ ?_
    clear hK K
    try simp only [Act.put, List.setIfInBounds_toArray, List.set_cons_zero, List.set_cons_succ]
    refine wpT_op (by rfl) (fun K hK => ?_)
    go_wp2_with fail
    refine hK.out _ _ ?_
    clear hK K
    try simp only [Act.put, List.setIfInBounds_toArray, List.set_cons_zero, List.set_cons_succ]
    refine wpT_op (by rfl) (fun K hK => ?_)
    go_wp2_with fail
    refine hK.out _ _ ?_
    clear hK K
    try simp only [Act.put, List.setIfInBounds_toArray, List.set_cons_zero, List.set_cons_succ]
    refine wpT_end ?_
    go_wp2_with fail
    go_ret2
    unfold MarkPost sMark
    rw [HM.out, if_neg h2, if_neg h2, if_neg h2]
    have GM := good_mark HG.out
    unfold sMark at GM
    rw [HM.out, if_neg h2] at GM
    have UF : Upd [sb] w5 (w5.setCell ⟨sb, 4, none⟩ (.slice A5 (M + 1) c5)) := (Upd.refl [sb] w5).setCell (.inl (by simp)) _
    have UT : Upd (sb :: (Value.slice Ak M ck).ownBlock.toList) w (w5.setCell ⟨sb, 4, none⟩ (.slice A5 (M + 1) c5)) := (U5.out.mono (by intro y hy; exact .inl (by simp at hy ⊢; exact .inr hy))).trans (UF.mono (by simp))
    refine ⟨.nilIface, fpS sb am wm vr (.slice Al s.log.length cl) (.slice A5 (M + 1) c5), rfl, ErrV.nil _, ⟨GM, vr, _, _, rfl, ?_⟩, ?_⟩
    · have HB7 := (H5.out.set_eq (i := 4) (u := .slice A5 (M + 1) c5) rfl)
      rw [← HN.out] at HB7
      refine HS.out.turn UT HB7 (.inr ⟨rfl, rfl, fun b hb => ?_⟩) (.inr ⟨rfl, rfl, fun b hb => ?_⟩) (.inl (O5.out.upd UF ?_)) (.inr ⟨rfl, ?_⟩) (.inr ⟨rfl, ?_⟩)
      · have h1 := HS.out.nr hb
        rw [HM.out] at h1
        simp
        exact ⟨h1.1, h1.2.2.2.2⟩
      · have h1 := HS.out.nl hb
        rw [HM.out] at h1
        simp
        exact ⟨h1.1, h1.2.2.2.2⟩
      · intro b hb
        simp
        rintro rfl
        exact own_type O5.out H5.out (by decide) hb
      · simp
        exact ⟨fun e => HS.out.na.1 e.symm, fun hb => (NS.out am hb).2.1 rfl⟩
      · simp
        exact ⟨fun e => HS.out.na.2 e.symm, fun hb => (NS.out wm hb).2.2.1 rfl⟩
    · rw [HF.out]
      refine frm_fp UT (by intro k hk; rw [← HM.out] at hk; exact .inl (by unfold fpS; simp at hk ⊢; rcases hk with rfl | hk <;> simp [*])) (fun b hb => .inl hb) (fun b hb => .inl hb) B5.out

theorem isM_form {s : SS} {m : Int} (h : isM s m = true) : ∃ k : Nat, m = (k : Int) + 1 ∧ k < s.marks.length := by
  unfold isM at h
  rw [decide_eq_true_iff] at h
  exact ⟨(m - 1).toNat, by omega, by omega⟩
def SFindPost (s : SS) (m : Int) (w : World) (e : Ending) (w' : World) : Prop := ∃ v, e = .returned (.tuple #[.int .i64 (if isM s m then ((s.marks.getD (m - 1).toNat 0 : Nat) : Int) else 0), v]) ∧ ErrV w' v (if isM s m then 0 else 6) (if isM s m then 0 else m) ∧ Upd [] w w' ∧ (isM s m = true → v = .nilIface ∧ w = w') ∧ (isM s m = false → ∃ b, v = .iface 81 (.pointer (some ⟨b, 0, none⟩)))
set_option maxRecDepth 100000 in
set_option maxHeartbeats 1000000 in
theorem s_find (B sb am wm : Nat) (F : List Nat) (s : SS) (m : Int) (w : World) (h : Sets B sb am wm F w s) :
    Calls Tryd.prog 33 #[.pointer (some ⟨sb, 0, none⟩), .int .i64 m] w fun e w' => SFindPost s m w e w' := by
  have H := Lib.hid h
  obtain ⟨g, vr, vl, vk, hF, h⟩ := h
  have HS := Lib.hid h
  obtain ⟨Ak, ck, rfl, hnk, hck⟩ := own_slice h.k
  obtain ⟨M, hM⟩ : ∃ M, s.marks.length = M := ⟨_, rfl⟩
  have HM := Lib.hid hM
  have hM20 : M ≤ 20 := hM ▸ g.ml
  have c4 : w.cell? ⟨sb, 4, none⟩ = some (.slice Ak M ck) := by have := h.box.cell 4; rw [hM] at this; exact this
  clear g hF h hM hnk
  go_enter Tryd.func33, Tryd.ntmps33
  go_wp2_with fail
  refine (s_made B sb am wm F s w H.out).mono ?_; rintro e w2 ⟨rfl, rfl⟩
  by_cases h1 : m < 1
  · have HI : Hid (isM s m = false) := Lib.hid (by unfold isM; rw [decide_eq_false_iff_not]; omega)
    go_wp2_with fail
    go_ret2
    unfold SFindPost
    rw [HI.out]
    have hu : Upd [] w (w.alloc (.cells #[.int .i64 m, .int .i64 6] 83)) := (Upd.refl [] w).alloc _
    exact ⟨.iface 81 (.pointer (some ⟨w.heap.size, 0, none⟩)), rfl, ErrV.fault (no := 6) (at_ := m) (Blk.new w _ _) (by omega) (by omega), hu, fun h => (by cases h), fun _ => ⟨_, rfl⟩⟩
  · by_cases h2 : (M : Int) < m
    · have HI : Hid (isM s m = false) := Lib.hid (by unfold isM; rw [decide_eq_false_iff_not, HM.out]; omega)
      go_wp2_with fail
      go_ret2
      unfold SFindPost
      rw [HI.out]
      have hu : Upd [] w (w.alloc (.cells #[.int .i64 m, .int .i64 6] 83)) := (Upd.refl [] w).alloc _
      exact ⟨.iface 81 (.pointer (some ⟨w.heap.size, 0, none⟩)), rfl, ErrV.fault (no := 6) (at_ := m) (Blk.new w _ _) (by omega) (by omega), hu, fun h => (by cases h), fun _ => ⟨_, rfl⟩⟩
    · have HI : Hid (isM s m = true) := Lib.hid (by unfold isM; rw [decide_eq_true_iff, HM.out]; omega)
      obtain ⟨k, rfl, hk⟩ := isM_form HI.out
      rw [HM.out] at hk
      obtain ⟨gk, cg, cur, e1, _⟩ := own_form HS.out.k (by rw [HM.out]; omega)
      injection e1 with e1 _ e1'
      subst e1 e1'
      obtain ⟨y, hy⟩ : ∃ y, s.marks[k]? = some y := ⟨_, List.getElem?_eq_getElem (by rw [HM.out]; exact hk)⟩
      have HY := Lib.hid hy
      have e0 : w.cell? ⟨gk, k, none⟩ = some (.int .i64 y) := by have := own_cell HS.out.k _ _ ((flat_get hy (j := 0) (by decide)).trans rfl); rwa [show k * encK.s + 0 = k by simp [encK]] at this
      have q1 : (0 : Int) ≤ (k : Int) := by omega
      have q2 : (k : Int) < (M : Int) := by omega
      have q3 : (k : Int) + 1 - 1 = (k : Int) := by omega
      clear hy
      go_wp2_with fail
      go_ret2
      unfold SFindPost
      rw [HI.out]
      refine ⟨.nilIface, ?_, ErrV.nil _, .refl _ _, fun _ => ⟨rfl, rfl⟩, fun h => (by cases h)⟩
      rw [if_pos rfl, q3, Int.toNat_natCast, List.getD_eq_getElem?_getD, HY.out]
      rfl
end Go.Proofs.YtbpmkbcpnnpdjaaDoor

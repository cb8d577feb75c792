/-
  concordref07.Sets: Mark, Keep, Back.
-/
import Derived.Test.YtbpmkbcpnnpdjaaDoorRefS3
import Derived.Test.YtbpmkbcpnnpdjaaDoorSets3
set_option linter.unusedVariables false
namespace Go.Proofs.YtbpmkbcpnnpdjaaDoor
open Go.RowKit Assoc SP
attribute [local go_sem] litStep_value

def RMarkPost (B rb : Nat) (F : List Nat) (d : DS) (w : World) (e : Ending) (w' : World) : Prop := ∃ F', e = .returned (.tuple #[.int .i64 (if 20 ≤ d.M.length then 0 else (d.M.length + 1 : Nat)), .int .i64 (if 20 ≤ d.M.length then 10 else 0)]) ∧ RefS B rb F' w' (dMark d) ∧ Frm F F' w w'
set_option maxRecDepth 100000 in
set_option maxHeartbeats 4000000 in
theorem rs_mark (B rb : Nat) (F : List Nat) (d : DS) (w : World) (h : RefS B rb F w d) (hBw : B ≤ w.heap.size) :
    Calls Tryd.prog 29 #[.pointer (some ⟨rb, 0, none⟩)] w fun e w' => RMarkPost B rb F d w e w' := by
  have H := Lib.hid h
  obtain ⟨g, vr, vw, vm, ms, hF, h⟩ := h
  have HF := Lib.hid hF
  have HS := Lib.hid h
  have HG := Lib.hid g
  obtain ⟨Am, cm, rfl, hnm, hcm⟩ := own_slice h.m
  obtain ⟨Aw, cw, rfl, hnw, hcw⟩ := own_slice h.ww
  obtain ⟨M, hM⟩ : ∃ M, d.M.length = M := ⟨_, rfl⟩
  obtain ⟨N, hN⟩ : ∃ N, d.W.length = N := ⟨_, rfl⟩
  have HB : Hid (Blk w rb 37 #[vr, .slice Aw N cw, .slice Am M cm]) := Lib.hid (by rw [← hN, ← hM]; exact h.box)
  have O0 : Hid (w.ownsRow B 26 1 (.slice Am M cm) M ms) := Lib.hid (by rw [← hM]; exact h.m)
  have HM := Lib.hid hM
  have HN := Lib.hid hN
  have c2 : w.cell? ⟨rb, 2, none⟩ = some (.slice Am M cm) := HB.out.cell 2
  have hm20 : M ≤ 20 := hM ▸ g.ml
  clear g hF h hM hN hnm hnw
  go_enter Tryd.func29, Tryd.ntmps29
  by_cases h2 : 20 ≤ M
  · have dd : decide ((20 : Int) ≤ (M : Int)) = true := by simp; omega
    go_wp2_with fail
    go_ret2
    unfold RMarkPost dMark
    rw [HM.out, if_pos h2, if_pos h2, if_pos h2]
    exact ⟨_, rfl, H.out, .refl _ _⟩
  · have dd : decide ((20 : Int) ≤ (M : Int)) = false := by simp; omega
    have CS : Hid (∀ W, Upd [] w.drew W → W.cell? ⟨rb, 2, none⟩ = some (.slice Am M cm) ∧ W.cell? ⟨rb, 1, none⟩ = some (.slice Aw N cw)) := Lib.hid (fun W hW => by
      have hb := HB.out.upd ((Upd.refl [] w).drew.trans hW) (by simp)
      exact ⟨hb.cell 2, hb.cell 1⟩)
    have F1 : Hid (∀ W, Upd [] w.drew W → Src W 1 (.slice Am M cm) M ms) := Lib.hid (fun W hW => Src.of_own (own_upd0 O0.out ((Upd.refl [] w).drew.trans hW)))
    have ONE : Hid (∀ u ∈ ms, u.oneCell' = true) := Lib.hid (fun u hu => by
      obtain ⟨l, _, ho⟩ := HS.out.mem hu
      obtain ⟨A', c', rfl, _⟩ := own_slice ho
      rfl)
    go_wp2_with fail
    clear c2
    refine wp_invNT 15 [(1, .own w.heap.size 26 1 0 []), (6, .own w.heap.size 26 1 M ms), (11, .lit 26 #[.slice Aw N cw] 1), (12, .own w.heap.size 26 1 (M + 1) (ms ++ [.slice Aw N cw]))] [(6, [1]), (12, [6])] (by kernel_rfl) (by simp) (by kernel_rfl) (by kernel_rfl) ⟨lasts_own _ _ _ _ _ (by simp [maxLen]), lasts_own _ _ _ _ _ (by unfold maxLen; omega), lasts_lit _ _ _, lasts_own _ _ _ _ _ (by unfold maxLen; omega), trivial⟩ ?_
    simp only [List.take_succ_cons, List.take_zero, List.drop_succ_cons, List.drop_zero]
    with_reducible apply wpV_light
    · simp only [lightOp]
    · intro W hU hF
      have f0 := CS.out W hU
      clear hU hF
      go_simp
      exact rfl
    simp only [Act.put, List.setIfInBounds_toArray, List.set_cons_zero, List.set_cons_succ]
    refine wpV_heavy (by simp only [lightOp]) (by rfl) (fun W hU hk hF K hK => ?_) ?_
    · go_wp2_with fail
      exact wpV_made hK rfl rfl rfl rfl hU.size
    rintro _ ⟨A1, c1, rfl, _, _⟩
    simp only [Act.put, List.setIfInBounds_toArray, List.set_cons_zero, List.set_cons_succ]
    with_reducible apply wpV_light
    · simp only [lightOp]
    · intro W hU hF
      have f0 := CS.out W hU
      clear hU hF
      go_simp
      exact rfl
    simp only [Act.put, List.setIfInBounds_toArray, List.set_cons_zero, List.set_cons_succ]
    with_reducible apply wpV_light
    · simp only [lightOp]
    · intro W hU hF
      have f0 := CS.out W hU
      clear hU hF
      go_simp
      exact rfl
    simp only [Act.put, List.setIfInBounds_toArray, List.set_cons_zero, List.set_cons_succ]
    with_reducible apply wpV_light
    · simp only [lightOp]
    · intro W hU hF
      have f0 := CS.out W hU
      clear hU hF
      go_simp
      exact rfl
    simp only [Act.put, List.setIfInBounds_toArray, List.set_cons_zero, List.set_cons_succ]
    with_reducible apply wpV_light
    · simp only [lightOp]
    · intro W hU hF
      have f0 := CS.out W hU
      clear hU hF
      go_simp
      exact rfl
    simp only [Act.put, List.setIfInBounds_toArray, List.set_cons_zero, List.set_cons_succ]
    refine wpV_heavy (by simp only [lightOp]) (by rfl) (fun W hU hk hF K hK => ?_) ?_
    · exact wpV_app hK (.tmp 11) (.tmp 15) _ (by rfl) elem_wrotes _ _ (by rfl) (by rfl) rfl rfl (by simp [usedV, mkI, conOf, specOf, Spec.own]) (hF.out.1 (by kernel_rfl)) (F1.out W hU) (by omega) (by simp) ONE.out (by unfold maxLen; omega) (by omega) hU.size
    rintro _ ⟨A2, c2, rfl, _, _⟩
    simp only [Act.put, List.setIfInBounds_toArray, List.set_cons_zero, List.set_cons_succ]
    with_reducible apply wpV_light
    · simp only [lightOp]
    · intro W hU hF
      have f0 := CS.out W hU
      clear hU hF
      go_simp
      exact rfl
    simp only [Act.put, List.setIfInBounds_toArray, List.set_cons_zero, List.set_cons_succ]
    with_reducible apply wpV_light
    · simp only [lightOp]
    · intro W hU hF
      have f0 := CS.out W hU
      clear hU hF
      go_simp
      exact rfl
    simp only [Act.put, List.setIfInBounds_toArray, List.set_cons_zero, List.set_cons_succ]
    with_reducible apply wpV_light
    · simp only [lightOp]
    · intro W hU hF
      have f0 := CS.out W hU
      clear hU hF
      go_simp
      exact rfl
    simp only [Act.put, List.setIfInBounds_toArray, List.set_cons_zero, List.set_cons_succ]
    with_reducible apply wpV_light
    · simp only [lightOp]
    · intro W hU hF
      have f0 := CS.out W hU
      clear hU hF
      go_simp
      exact rfl
    simp only [Act.put, List.setIfInBounds_toArray, List.set_cons_zero, List.set_cons_succ]
    refine wpV_heavy (by simp only [lightOp]) (by rfl) (fun W hU hk hF K hK => ?_) ?_
    · go_wp2_with fail
      exact wpV_lit hK rfl rfl rfl
    rintro _ ⟨g3, rfl⟩
    simp only [Act.put, List.setIfInBounds_toArray, List.set_cons_zero, List.set_cons_succ]
    refine wpV_heavy (by simp only [lightOp]) (by rfl) (fun W hU hk hF K hK => ?_) ?_
    · obtain ⟨g', he, hbl⟩ := hF.out.2.2.1 (by kernel_rfl)
      injection he with he _ _
      injection he with he
      injection he with he
      subst he
      exact wpV_app hK (.tmp 16) (.tmp 21) _ (by rfl) elem_wrotes _ _ (by rfl) (by rfl) rfl rfl (by simp [usedV, mkI, conOf, specOf, Spec.own]) (hF.out.2.1 (by kernel_rfl)) (.of_blk hbl (m := 1) 1 rfl) (by omega) (by simp) (by intro u hu; simp at hu; subst hu; rfl) (by unfold maxLen; omega) (by omega) hU.size
    rintro _ ⟨A4, c4, rfl, _, _⟩
    simp only [Act.put, List.setIfInBounds_toArray, List.set_cons_zero, List.set_cons_succ]
    with_reducible apply wpV_light
    · simp only [lightOp]
    · intro W hU hF
      have f0 := CS.out W hU
      clear hU hF
      go_simp
      exact rfl
    simp only [Act.put, List.setIfInBounds_toArray, List.set_cons_zero, List.set_cons_succ]
    with_reducible apply wpV_light
    · simp only [lightOp]
    · intro W hU hF
      have f0 := CS.out W hU
      clear hU hF
      go_simp
      exact rfl
    simp only [Act.put, List.setIfInBounds_toArray, List.set_cons_zero, List.set_cons_succ]
    refine wpV_end (fun W hU _ hF => ?_)
    have U3 : Hid (Upd [] w W) := Lib.hid ((Upd.refl [] w).drew.trans hU)
    have O3 : Hid (W.ownsRow w.heap.size 26 1 (.slice A4 (M + 1) c4) (M + 1) (ms ++ [.slice Aw N cw])) := Lib.hid (hF.out.2.2.2.1 (by kernel_rfl))
    have HB3 := Lib.hid (HB.out.upd U3.out (by simp))
    have f0 : W.cell? ⟨rb, 2, none⟩ = some (.slice Am M cm) := HB3.out.cell 2
    have f1 : W.frozen? ⟨rb, 2, none⟩ = false := HB3.out.frozen 2
    have f2 : rb < W.heap.size := HB3.out.lt
    clear hU hF
    have HB4 : Hid (Blk (W.setCell ⟨rb, 2, none⟩ (.slice A4 (M + 1) c4)) rb 37 #[vr, .slice Aw N cw, .slice A4 (M + 1) c4]) := Lib.hid (HB3.out.set_eq rfl)
    have UF : Hid (Upd [rb] W (W.setCell ⟨rb, 2, none⟩ (.slice A4 (M + 1) c4))) := Lib.hid ((Upd.refl [rb] W).setCell (.inl (by simp)) _)
    refine wpT_op (by rfl) (fun K hK => ?_)
    go_wp2_with fail
    refine hK.out _ _ ?_
    clear hK K
    try simp only [Act.put, List.setIfInBounds_toArray, List.set_cons_zero, List.set_cons_succ]
    refine wpT_end ?_
    generalize W.setCell ⟨rb, 2, none⟩ (.slice A4 (M + 1) c4) = W4 at *
    clear f0 f1 f2
    have f0 : W4.cell? ⟨rb, 2, none⟩ = some (.slice A4 (M + 1) c4) := HB4.out.cell 2
    go_wp2_with fail
    go_ret2
    unfold RMarkPost
    have GD := goodD_mark HG.out
    have HML := HS.out.mlen
    unfold dMark at GD ⊢
    rw [HM.out, if_neg h2] at GD ⊢
    rw [if_neg h2, if_neg h2]
    have HS1 := HS.out.upd0 U3.out
    have LN : (d.M ++ [d.W]).length = M + 1 := by rw [List.length_append, HM.out]; rfl
    refine ⟨fpD rb vr (.slice Aw d.W.length cw) (.slice A4 (M + 1) c4) (ms ++ [.slice Aw d.W.length cw]), rfl, ⟨GD, _, _, _, _, rfl, HS1.turn UF.out (by simp) (by rw [HN.out]; exact HB4.out) (.inr ⟨rfl, rfl⟩) (.inr ⟨rfl, rfl⟩) (.inl ⟨?_, ?_⟩)⟩, ?_, ?_⟩
    · show W4.ownsRow B _ 1 _ (d.M ++ [d.W]).length _
      rw [LN, HN.out]
      exact own_base (own_upd O3.out UF.out (by intro b hb; simp; rintro rfl; exact own_type O3.out HB3.out (by decide) hb)) hBw
    · intro i v l hv hl
      rw [List.getElem?_append] at hv
      have hl' : (d.M ++ [d.W])[i]? = some l := hl
      rw [List.getElem?_append, ← HML] at hl'
      split at hv
      · rename_i hi
        rw [if_pos hi] at hl'
        exact .inr ⟨i, hv, hl'⟩
      · rename_i hi
        rw [if_neg hi] at hl'
        refine .inl ?_
        cases hz : i - ms.length with
        | zero =>
          rw [hz] at hv hl'
          simp at hv hl'
          exact ⟨hv.symm, hl'.symm⟩
        | succ z =>
          rw [hz] at hv
          simp at hv
    · rw [HF.out]
      exact (U3.out.mono (by simp)).trans (UF.out.mono (by intro y hy; simp at hy; subst hy; exact .inl (by simp [fpD])))
    · rw [HF.out]
      intro y hy
      unfold fpD at hy ⊢
      simp only [List.mem_cons, List.mem_append, Option.mem_toList, mem_owns] at hy ⊢
      rcases hy with rfl | ((hy | hy) | hy) | ⟨u, (hu | hu), hy⟩
      · simp
      · simp [hy]
      · simp [hy]
      · exact .inr (own_lt O3.out hy).1
      · exact .inl (.inr (.inr ⟨u, hu, hy⟩))
      · simp at hu
        subst hu
        simp [hy]

theorem isD_form {d : DS} {m : Int} (h : isD d m = true) : ∃ k : Nat, m = (k : Int) + 1 ∧ k < d.M.length := by
  unfold isD at h
  rw [decide_eq_true_iff] at h
  exact ⟨(m - 1).toNat, by omega, by omega⟩
theorem own_prefix {w : World} {B n c k : Nat} {e : TypeId} {A : Option Addr} {xs : List Value} (h : w.ownsRow B e 1 (.slice A n c) n xs) (hk : k ≤ n) : w.ownsRow B e 1 (.slice A k c) k (xs.take k) := by
  have h0 := h
  rcases h0.2 with ⟨e1, e2⟩ | ⟨g, cap, cur, e1, _⟩
  · injection e1 with a1 a2 a3
    subst a1 a2 a3
    have : k = 0 := by omega
    subst this
    exact ⟨by simp, .inl ⟨rfl, by simp⟩⟩
  · injection e1 with a1 a2 a3
    subst a1 a3
    have := own_take h k hk
    rwa [Nat.mul_one] at this
def RKeepPost (B rb : Nat) (F : List Nat) (d : DS) (m : Int) (w : World) (e : Ending) (w' : World) : Prop := ∃ F', e = .returned (.int .i64 (if isD d m then 0 else 6)) ∧ RefS B rb F' w' (if isD d m then dKeep d (m - 1).toNat else d) ∧ Frm F F' w w'
def RBackPost (B rb : Nat) (F : List Nat) (d : DS) (m : Int) (w : World) (e : Ending) (w' : World) : Prop := ∃ F', e = .returned (.int .i64 (if isD d m then 0 else 6)) ∧ RefS B rb F' w' (if isD d m then dBack d (m - 1).toNat else d) ∧ Frm F F' w w'
set_option maxRecDepth 100000 in
set_option maxHeartbeats 4000000 in
theorem rs_keep (B rb : Nat) (F : List Nat) (d : DS) (m : Int) (w : World) (h : RefS B rb F w d) :
    Calls Tryd.prog 30 #[.pointer (some ⟨rb, 0, none⟩), .int .i64 m] w fun e w' => RKeepPost B rb F d m w e w' := by
  have H := Lib.hid h
  obtain ⟨g, vr, vw, vm, ms, hF, h⟩ := h
  have HF := Lib.hid hF
  have HS := Lib.hid h
  have HG := Lib.hid g
  obtain ⟨Am, cm, rfl, hnm, hcm⟩ := own_slice h.m
  obtain ⟨Aw, cw, rfl, hnw, hcw⟩ := own_slice h.ww
  obtain ⟨M, hM⟩ : ∃ M, d.M.length = M := ⟨_, rfl⟩
  obtain ⟨N, hN⟩ : ∃ N, d.W.length = N := ⟨_, rfl⟩
  have HB : Hid (Blk w rb 37 #[vr, .slice Aw N cw, .slice Am M cm]) := Lib.hid (by rw [← hN, ← hM]; exact h.box)
  have O0 : Hid (w.ownsRow B 26 1 (.slice Am M cm) M ms) := Lib.hid (by rw [← hM]; exact h.m)
  have HM := Lib.hid hM
  have HN := Lib.hid hN
  have c2 : w.cell? ⟨rb, 2, none⟩ = some (.slice Am M cm) := HB.out.cell 2
  have hm20 : M ≤ 20 := hM ▸ g.ml
  rw [hM] at hnm
  clear g hF h hM hN hnw
  go_enter Tryd.func30, Tryd.ntmps30
  by_cases h1 : m < 1
  · have HI : Hid (isD d m = false) := Lib.hid (by unfold isD; rw [decide_eq_false_iff_not]; omega)
    go_wp2_with fail
    go_ret
    unfold RKeepPost
    rw [HI.out]
    exact ⟨_, rfl, H.out, .refl _ _⟩
  · by_cases h2 : (M : Int) < m
    · have HI : Hid (isD d m = false) := Lib.hid (by unfold isD; rw [decide_eq_false_iff_not, HM.out]; omega)
      go_wp2_with fail
      go_ret
      unfold RKeepPost
      rw [HI.out]
      exact ⟨_, rfl, H.out, .refl _ _⟩
    · have HI : Hid (isD d m = true) := Lib.hid (by unfold isD; rw [decide_eq_true_iff, HM.out]; omega)
      obtain ⟨k, rfl, hk⟩ := isD_form HI.out
      rw [HM.out] at hk
      have KK : Hid ((((k : Int) + 1 - 1).toNat) = k) := Lib.hid (by omega)
      have q1 : (0 : Int) ≤ (k : Int) := by omega
      have q2 : (k : Int) < (M : Int) := by omega
      have q3 : (k : Int) + 1 - 1 = (k : Int) := by omega
      have q4 : (M : Int) ≤ (cm : Int) := by omega
      have q5 : (k : Int) ≤ (cm : Int) := by omega
      have q6 : k ≤ cm := by omega
      have f2 : w.frozen? ⟨rb, 2, none⟩ = false := HB.out.frozen 2
      have lt : rb < w.heap.size := HB.out.lt
      have OK : Hid (w.ownsRow B 26 1 (.slice Am k cm) k (ms.take k)) := Lib.hid (own_prefix O0.out (by omega))
      have LT : Hid ((d.M.take k).length = k) := Lib.hid (by rw [List.length_take, HM.out]; omega)
      have SUB : Hid (∀ i v l, (ms.take k)[i]? = some v → (d.M.take k)[i]? = some l → ∃ j : Nat, ms[j]? = some v ∧ d.M[j]? = some l) := Lib.hid (fun i v l hv hl => by
        rw [List.getElem?_take] at hv hl
        split at hv
        · rename_i hi
          rw [if_pos hi] at hl
          exact ⟨i, hv, hl⟩
        · cases hv)
      go_wp2_with fail
      go_ret
      change RKeepPost B rb F d ((k : Nat) + 1 : Int) w _ _
      unfold RKeepPost
      rw [HI.out, if_pos rfl, if_pos rfl, KK.out]
      have UF : Upd [rb] w (w.setCell ⟨rb, 2, none⟩ (.slice Am k cm)) := (Upd.refl [rb] w).setCell (.inl (by simp)) _
      refine ⟨fpD rb vr (.slice Aw d.W.length cw) (.slice Am k cm) (ms.take k), rfl, ⟨goodD_keep HG.out k, _, _, _, _, rfl, HS.out.turn UF (by simp) (by rw [HN.out]; exact HB.out.set_eq rfl) (.inr ⟨rfl, rfl⟩) (.inr ⟨rfl, rfl⟩) (.inl ⟨?_, fun i v l hv hl => .inr (SUB.out i v l hv hl)⟩)⟩, ?_, ?_⟩
      · show (w.setCell _ _).ownsRow B _ 1 _ (d.M.take k).length _
        rw [LT.out]
        exact own_upd OK.out UF (by intro b hb; simp; rintro rfl; exact own_type OK.out HB.out (by decide) hb)
      · rw [HF.out]
        exact UF.mono (by intro y hy; simp at hy; subst hy; exact .inl (by simp [fpD]))
      · rw [HF.out]
        intro y hy
        unfold fpD at hy ⊢
        simp only [List.mem_cons, List.mem_append, Option.mem_toList, mem_owns] at hy ⊢
        rcases hy with rfl | ((hy | hy) | hy) | ⟨u, hu, hy⟩
        · simp
        · simp [hy]
        · simp [hy]
        · exact .inl (.inr (.inl (.inr (by cases Am <;> exact hy))))
        · exact .inl (.inr (.inr ⟨u, List.mem_of_mem_take hu, hy⟩))
set_option maxRecDepth 100000 in
set_option maxHeartbeats 4000000 in
theorem rs_back (B rb : Nat) (F : List Nat) (d : DS) (m : Int) (w : World) (h : RefS B rb F w d) :
    Calls Tryd.prog 31 #[.pointer (some ⟨rb, 0, none⟩), .int .i64 m] w fun e w' => RBackPost B rb F d m w e w' := by
  have H := Lib.hid h
  obtain ⟨g, vr, vw, vm, ms, hF, h⟩ := h
  have HF := Lib.hid hF
  have HS := Lib.hid h
  have HG := Lib.hid g
  obtain ⟨Am, cm, rfl, hnm, hcm⟩ := own_slice h.m
  obtain ⟨Aw, cw, rfl, hnw, hcw⟩ := own_slice h.ww
  obtain ⟨M, hM⟩ : ∃ M, d.M.length = M := ⟨_, rfl⟩
  obtain ⟨N, hN⟩ : ∃ N, d.W.length = N := ⟨_, rfl⟩
  have HB : Hid (Blk w rb 37 #[vr, .slice Aw N cw, .slice Am M cm]) := Lib.hid (by rw [← hN, ← hM]; exact h.box)
  have O0 : Hid (w.ownsRow B 26 1 (.slice Am M cm) M ms) := Lib.hid (by rw [← hM]; exact h.m)
  have HM := Lib.hid hM
  have HN := Lib.hid hN
  have c2 : w.cell? ⟨rb, 2, none⟩ = some (.slice Am M cm) := HB.out.cell 2
  have hm20 : M ≤ 20 := hM ▸ g.ml
  rw [hM] at hnm
  clear g hF h hM hN hnw
  go_enter Tryd.func31, Tryd.ntmps31
  by_cases h1 : m < 1
  · have HI : Hid (isD d m = false) := Lib.hid (by unfold isD; rw [decide_eq_false_iff_not]; omega)
    go_wp2_with fail
    go_ret
    unfold RBackPost
    rw [HI.out]
    exact ⟨_, rfl, H.out, .refl _ _⟩
  · by_cases h2 : (M : Int) < m
    · have HI : Hid (isD d m = false) := Lib.hid (by unfold isD; rw [decide_eq_false_iff_not, HM.out]; omega)
      go_wp2_with fail
      go_ret
      unfold RBackPost
      rw [HI.out]
      exact ⟨_, rfl, H.out, .refl _ _⟩
    · have HI : Hid (isD d m = true) := Lib.hid (by unfold isD; rw [decide_eq_true_iff, HM.out]; omega)
      obtain ⟨k, rfl, hk⟩ := isD_form HI.out
      rw [HM.out] at hk
      have KK : Hid ((((k : Int) + 1 - 1).toNat) = k) := Lib.hid (by omega)
      have q1 : (0 : Int) ≤ (k : Int) := by omega
      have q2 : (k : Int) < (M : Int) := by omega
      have q3 : (k : Int) + 1 - 1 = (k : Int) := by omega
      have q4 : (M : Int) ≤ (cm : Int) := by omega
      have q5 : (k : Int) ≤ (cm : Int) := by omega
      have q6 : k ≤ cm := by omega
      have f2 : w.frozen? ⟨rb, 2, none⟩ = false := HB.out.frozen 2
      have lt : rb < w.heap.size := HB.out.lt
      have OK : Hid (w.ownsRow B 26 1 (.slice Am k cm) k (ms.take k)) := Lib.hid (own_prefix O0.out (by omega))
      have LT : Hid ((d.M.take k).length = k) := Lib.hid (by rw [List.length_take, HM.out]; omega)
      have SUB : Hid (∀ i v l, (ms.take k)[i]? = some v → (d.M.take k)[i]? = some l → ∃ j : Nat, ms[j]? = some v ∧ d.M[j]? = some l) := Lib.hid (fun i v l hv hl => by
        rw [List.getElem?_take] at hv hl
        split at hv
        · rename_i hi
          rw [if_pos hi] at hl
          exact ⟨i, hv, hl⟩
        · cases hv)
      obtain ⟨gm, cg, cur, e1, _⟩ := own_form O0.out (by omega)
      injection e1 with e1 _ e1'
      subst e1 e1'
      have hml := HS.out.mlen
      rw [HM.out] at hml
      obtain ⟨y, hy⟩ : ∃ y, ms[k]? = some y := ⟨_, List.getElem?_eq_getElem (by omega)⟩
      obtain ⟨l, hl⟩ : ∃ l, d.M[k]? = some l := ⟨_, List.getElem?_eq_getElem (by rw [HM.out]; omega)⟩
      have HY := Lib.hid (HS.out.each k y l hy hl)
      have HYM := Lib.hid (List.mem_of_getElem? hy)
      obtain ⟨Ay, cy, rfl, _, _⟩ := own_slice HY.out
      obtain ⟨ny, hny⟩ : ∃ ny, l.length = ny := ⟨_, rfl⟩
      have e0 : w.cell? ⟨gm, k, none⟩ = some (.slice Ay ny cy) := by rw [← hny]; exact own_cell O0.out k _ hy
      have HL : Hid (d.M.getD k [] = l) := Lib.hid (by rw [List.getD_eq_getElem?_getD, hl]; rfl)
      have HNY := Lib.hid hny
      have g1 : w.frozen? ⟨rb, 1, none⟩ = false := HB.out.frozen 1
      have g0 : w.cell? ⟨rb, 1, none⟩ = some (.slice Aw N cw) := HB.out.cell 1
      have B8 : Hid (Blk (w.setCell ⟨rb, 1, none⟩ (.slice Ay ny cy)) rb 37 #[vr, .slice Ay ny cy, .slice (some ⟨gm, 0, none⟩) M cm]) := Lib.hid (HB.out.set_eq rfl)
      have y4 : (w.setCell ⟨rb, 1, none⟩ (.slice Ay ny cy)).cell? ⟨rb, 2, none⟩ = some (.slice (some ⟨gm, 0, none⟩) M cm) := B8.out.cell 2
      have y5 : (w.setCell ⟨rb, 1, none⟩ (.slice Ay ny cy)).frozen? ⟨rb, 2, none⟩ = false := B8.out.frozen 2
      clear hml hy hl hny
      go_wp2_with fail
      go_ret
      change RBackPost B rb F d ((k : Nat) + 1 : Int) w _ _
      unfold RBackPost
      rw [HI.out, if_pos rfl, if_pos rfl, KK.out]
      have UF : Upd [rb] w ((w.setCell ⟨rb, 1, none⟩ (.slice Ay ny cy)).setCell ⟨rb, 2, none⟩ (.slice (some ⟨gm, 0, none⟩) k cm)) := ((Upd.refl [rb] w).setCell (.inl (by simp)) _).setCell (.inl (by simp)) _
      refine ⟨fpD rb vr (.slice Ay ny cy) (.slice (some ⟨gm, 0, none⟩) k cm) (ms.take k), rfl, ⟨goodD_back HG.out (by rw [HM.out]; exact hk), _, _, _, _, rfl, HS.out.turn UF (by simp) (B8.out.set_eq rfl) (.inr ⟨rfl, rfl⟩) (.inl ?_) (.inl ⟨?_, fun i v l hv hl => .inr (SUB.out i v l hv hl)⟩)⟩, ?_, ?_⟩
      · show Ow encW _ _ B _ (d.M.getD k [])
        have := HY.out
        rw [HL.out]
        rw [HNY.out] at this
        exact this.upd UF (by intro b hb; simp; rintro rfl; exact own_type this HB.out (by decide) hb)
      · show (World.setCell _ _ _).ownsRow B _ 1 _ (d.M.take k).length _
        rw [LT.out]
        exact own_upd OK.out UF (by intro b hb; simp; rintro rfl; exact own_type OK.out HB.out (by decide) hb)
      · rw [HF.out]
        exact UF.mono (by intro y hy; simp at hy; subst hy; exact .inl (by simp [fpD]))
      · rw [HF.out]
        intro y hy
        unfold fpD at hy ⊢
        simp only [List.mem_cons, List.mem_append, Option.mem_toList, mem_owns] at hy ⊢
        rcases hy with rfl | ((hy | hy) | hy) | ⟨u, hu, hy⟩
        · simp
        · simp [hy]
        · exact .inl (.inr (.inr ⟨_, HYM.out, by rw [HNY.out]; exact hy⟩))
        · exact .inl (.inr (.inl (.inr hy)))
        · exact .inl (.inr (.inr ⟨u, List.mem_of_mem_take hu, hy⟩))
end Go.Proofs.YtbpmkbcpnnpdjaaDoor

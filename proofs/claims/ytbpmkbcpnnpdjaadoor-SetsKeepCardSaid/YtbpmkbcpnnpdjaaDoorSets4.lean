/-
  sets.Sets: Keep, Back.
-/
import Derived.Test.YtbpmkbcpnnpdjaaDoorSets3
set_option linter.unusedVariables false
namespace Go.Proofs.YtbpmkbcpnnpdjaaDoor
open Go.RowKit Assoc SP
attribute [local go_sem] litStep_value

theorem keep_log (s : SS) {k : Nat} (h : k ≠ 0) : (sKeep s k).log = s.log := by unfold sKeep; rw [if_neg h]
def KeepPost (B sb am wm : Nat) (F : List Nat) (s : SS) (m : Int) (w : World) (e : Ending) (w' : World) : Prop := ∃ v F', e = .returned v ∧ ErrV w' v (if isM s m then 0 else 6) (if isM s m then 0 else m) ∧ Sets B sb am wm F' w' (if isM s m then sKeep s (m - 1).toNat else s) ∧ Frm F F' w w'
set_option maxRecDepth 100000 in
set_option maxHeartbeats 4000000 in
theorem s_keep (B sb am wm : Nat) (F : List Nat) (s : SS) (m : Int) (w : World) (h : Sets B sb am wm F w s) :
    Calls Tryd.prog 17 #[.pointer (some ⟨sb, 0, none⟩), .int .i64 m] w fun e w' => KeepPost B sb am wm F s m w e w' := by
  have H := Lib.hid h
  obtain ⟨g, vr, vl, vk, hF, h⟩ := h
  have HF := Lib.hid hF
  have HS := Lib.hid h
  have HG := Lib.hid g
  obtain ⟨Ak, ck, rfl, hnk, hck⟩ := own_slice h.k
  obtain ⟨Al, cl, rfl, hnl, hcl⟩ := own_slice h.l
  obtain ⟨N, hN⟩ : ∃ N, s.log.length = N := ⟨_, rfl⟩
  obtain ⟨M, hM⟩ : ∃ M, s.marks.length = M := ⟨_, rfl⟩
  have HM := Lib.hid hM
  have HN := Lib.hid hN
  have hM20 : M ≤ 20 := hM ▸ g.ml
  rw [hM] at hnk
  clear g hF h hM hN
  go_enter Tryd.func17, Tryd.ntmps17
  go_wp2_with fail
  refine (s_find B sb am wm F s m w H.out).mono ?_; rintro e w1 ⟨v, rfl, ev, u1, hv1, hv2⟩
  cases hi : isM s m with
  | false =>
    obtain ⟨b, rfl⟩ := hv2 hi
    rw [hi] at ev
    have EV := Lib.hid ev
    have U1 := Lib.hid u1
    have HI := Lib.hid hi
    clear ev u1 hv1 hv2 hi
    simp only [Bool.false_eq_true, if_false]
    go_wp2_with fail
    go_ret
    unfold KeepPost
    rw [HI.out]
    exact ⟨_, _, rfl, EV.out, H.out.upd0 U1.out, .of0 U1.out⟩
  | true =>
    obtain ⟨rfl, rfl⟩ := hv1 hi
    have HI := Lib.hid hi
    obtain ⟨k, rfl, hk⟩ := isM_form hi
    rw [HM.out] at hk
    clear ev u1 hv1 hv2 hi
    simp only [if_true]
    obtain ⟨z, hz⟩ : ∃ z, ((s.marks.getD ((k : Int) + 1 - 1).toNat 0 : Nat) : Int) = z := ⟨_, rfl⟩
    rw [hz]
    clear hz
    have KK : Hid ((((k : Int) + 1 - 1).toNat) = k) := Lib.hid (by omega)
    obtain ⟨gk, cg, cur, e1, _⟩ := own_form HS.out.k (by rw [HM.out]; omega)
    injection e1 with e1 _ e1'
    subst e1 e1'
    have HB : Hid (Blk w sb 62 #[vr, .map (some am), .map (some wm), .slice Al N cl, .slice (some ⟨gk, 0, none⟩) M ck]) := Lib.hid (by have := HS.out.box; rw [HN.out, HM.out] at this; exact this)
    have c4 : w.cell? ⟨sb, 4, none⟩ = some (.slice (some ⟨gk, 0, none⟩) M ck) := HB.out.cell 4
    have f4 : w.frozen? ⟨sb, 4, none⟩ = false := HB.out.frozen 4
    have c3 : w.cell? ⟨sb, 3, none⟩ = some (.slice Al N cl) := HB.out.cell 3
    have f3 : w.frozen? ⟨sb, 3, none⟩ = false := HB.out.frozen 3
    have l4 : sb < w.heap.size := HB.out.lt
    have q1 : (0 : Int) ≤ (k : Int) := by omega
    have q2 : (k : Int) < (M : Int) := by omega
    have q3 : (k : Int) + 1 - 1 = (k : Int) := by omega
    have q4 : (M : Int) ≤ (ck : Int) := by omega
    have q5 : (k : Int) ≤ (ck : Int) := by omega
    have q6 : k ≤ ck := by omega
    have OK : Hid (Ow encK 3 w B (.slice (some ⟨gk, 0, none⟩) k ck) (s.marks.take k)) := Lib.hid (ow_take HS.out.k (by rw [HM.out]; omega))
    have U4 : Hid (Upd [sb] w (w.setCell ⟨sb, 4, none⟩ (.slice (some ⟨gk, 0, none⟩) k ck))) := Lib.hid ((Upd.refl [sb] w).setCell (.inl (by simp)) _)
    have B4 : Hid (Blk (w.setCell ⟨sb, 4, none⟩ (.slice (some ⟨gk, 0, none⟩) k ck)) sb 62 #[vr, .map (some am), .map (some wm), .slice Al N cl, .slice (some ⟨gk, 0, none⟩) k ck]) := Lib.hid (HB.out.set_eq rfl)
    have NK : Hid (∀ b, (Value.slice (some ⟨gk, 0, none⟩) k ck).ownBlock = some b → b ≠ sb ∧ (Value.slice (some ⟨gk, 0, none⟩) s.marks.length ck).ownBlock = some b) := Lib.hid (fun b hb => ⟨fun e => own_type OK.out HB.out (by decide) (e ▸ hb), hb⟩)
    by_cases hk0 : k = 0
    · subst hk0
      have U5 : Hid (Upd [sb] w ((w.setCell ⟨sb, 4, none⟩ (.slice (some ⟨gk, 0, none⟩) 0 ck)).setCell ⟨sb, 3, none⟩ (.slice none 0 0))) := Lib.hid (U4.out.setCell (.inl (by simp)) _)
      have B5 : Hid (Blk ((w.setCell ⟨sb, 4, none⟩ (.slice (some ⟨gk, 0, none⟩) 0 ck)).setCell ⟨sb, 3, none⟩ (.slice none 0 0)) sb 62 #[vr, .map (some am), .map (some wm), .slice none 0 0, .slice (some ⟨gk, 0, none⟩) 0 ck]) := Lib.hid (B4.out.set_eq rfl)
      go_wp2_with fail
      go_ret
      change KeepPost B sb am wm F s ((0 : Nat) + 1 : Int) w _ _
      unfold KeepPost
      rw [HI.out, if_pos rfl, if_pos rfl, if_pos rfl, KK.out]
      refine ⟨.nilIface, fpS sb am wm vr (.slice none 0 0) (.slice (some ⟨gk, 0, none⟩) 0 ck), rfl, ErrV.nil _, ⟨good_keep HG.out 0, vr, (.slice none 0 0), _, rfl, ?_⟩, ?_⟩
      · refine HS.out.turn U5.out B5.out (.inr ⟨rfl, rfl, fun b hb => by simp; exact (HS.out.nr hb).1⟩) (.inl (Ow.nil _ _ _ _)) (.inl (OK.out.upd U5.out (fun b hb => by simp; exact (NK.out b hb).1))) (.inr ⟨rfl, by simp; exact HS.out.na.1.symm⟩) (.inr ⟨rfl, by simp; exact HS.out.na.2.symm⟩)
      · rw [HF.out]
        exact frm_fp U5.out (by intro j hj; simp at hj; subst hj; exact .inl (by unfold fpS; simp)) (fun b hb => .inl hb) (fun b hb => by simp [Value.ownBlock] at hb) (fun b hb => .inl (NK.out b hb).2)
    · have d0 : decide ((k : Int) = 0) = false := by simp; omega
      have d1 : ((k : Int) == 0) = false := by simp; omega
      have NLS : Hid (∀ b, (Value.slice Al s.log.length cl).ownBlock = some b → b ∉ [sb]) := Lib.hid (fun b hb => by simp; exact (HS.out.nl hb).1)
      have BX : Hid (Blk (w.setCell ⟨sb, 4, none⟩ (.slice (some ⟨gk, 0, none⟩) k ck)) sb 62 #[vr, .map (some am), .map (some wm), .slice Al s.log.length cl, .slice (some ⟨gk, 0, none⟩) k ck]) := Lib.hid (by rw [HN.out]; exact B4.out)
      go_wp2_with fail
      go_ret
      change KeepPost B sb am wm F s ((k : Nat) + 1 : Int) w _ _
      unfold KeepPost
      rw [HI.out, if_pos rfl, if_pos rfl, if_pos rfl, KK.out]
      refine ⟨.nilIface, fpS sb am wm vr (.slice Al s.log.length cl) (.slice (some ⟨gk, 0, none⟩) k ck), rfl, ErrV.nil _, ⟨good_keep HG.out k, vr, (.slice Al s.log.length cl), _, rfl, ?_⟩, ?_⟩
      · refine HS.out.turn U4.out BX.out (.inr ⟨rfl, rfl, fun b hb => by simp; exact (HS.out.nr hb).1⟩) (.inr ⟨rfl, keep_log s hk0, NLS.out⟩) (.inl (OK.out.upd U4.out (fun b hb => by simp; exact (NK.out b hb).1))) (.inr ⟨rfl, by simp; exact HS.out.na.1.symm⟩) (.inr ⟨rfl, by simp; exact HS.out.na.2.symm⟩)
      · rw [HF.out]
        exact frm_fp U4.out (by intro j hj; simp at hj; subst hj; exact .inl (by unfold fpS; simp)) (fun b hb => .inl hb) (fun b hb => .inl hb) (fun b hb => .inl (NK.out b hb).2)
end Go.Proofs.YtbpmkbcpnnpdjaaDoor

/-
  sets.Sets: Back.
-/
import Derived.Test.YtbpmkbcpnnpdjaaDoorSets4
set_option linter.unusedVariables false
namespace Go.Proofs.YtbpmkbcpnnpdjaaDoor
open Go.RowKit Assoc SP
attribute [local go_sem] litStep_value

theorem imap_del {w : World} {wm : Nat} {W : AL} {c : Int} (hs : Srt W) (h : IMap w .u64 wm (delI (mapW W) c) (if (mapW W c).isSome then W.length - 1 else W.length)) : IMap w .u64 wm (mapW (del W c)) (del W c).length := by
  have e : (mapW W c).isSome = (get W c).isSome := by unfold mapW; cases get W c <;> rfl
  rw [e] at h
  rw [len_del hs]
  exact h.congr (fun k => by rw [mapW_del])
theorem slice_own {A : Option Addr} {n m c b : Nat} (h : (Value.slice A n c).ownBlock = some b) : (Value.slice A m c).ownBlock = some b := by
  cases A with
  | none => exact h
  | some a => exact h
/-- Only the map of what is written has turned. -/
structure BackSt (B sb am wm : Nat) (vr vl vk : Value) (s : SS) (w wr : World) (j : Nat) : Prop where
  m : IMap wr .u64 wm (mapW (undoTo j s.log s.W)) (undoTo j s.log s.W).length
  u : Upd [wm] w wr
theorem BackSt.st {B sb am wm : Nat} {vr vl vk : Value} {s : SS} {w wr : World} {j : Nat} (h : BackSt B sb am wm vr vl vk s w wr j) (hs : SetSt B sb am wm vr vl vk w s) : SetSt B sb am wm vr vl vk wr { s with W := undoTo j s.log s.W } :=
  hs.turn h.u (hs.box.upd h.u (by simp; exact hs.na.2)) (.inr ⟨rfl, rfl, fun b hb => by simp; exact (hs.nr hb).2.2.1⟩) (.inr ⟨rfl, rfl, fun b hb => by simp; exact (hs.nl hb).2.2.1⟩) (.inr ⟨rfl, rfl, fun b hb => by simp; exact (hs.nk hb).2.2.1⟩) (.inr ⟨rfl, by simp; exact hs.ne⟩) (.inl h.m)
theorem BackSt.upd0 {B sb am wm : Nat} {vr vl vk : Value} {s : SS} {w wr w' : World} {j : Nat} (h : BackSt B sb am wm vr vl vk s w wr j) (hu : Upd [] wr w') : BackSt B sb am wm vr vl vk s w w' j :=
  ⟨h.m.upd hu (by simp), h.u.trans (hu.mono (by simp))⟩

def BackPost (B sb am wm : Nat) (F : List Nat) (s : SS) (m : Int) (w : World) (e : Ending) (w' : World) : Prop := ∃ v F', e = .returned v ∧ ErrV w' v (if isM s m then 0 else 6) (if isM s m then 0 else m) ∧ Sets B sb am wm F' w' (if isM s m then sBack s (m - 1).toNat else s) ∧ Frm F F' w w'
set_option maxRecDepth 100000 in
set_option maxHeartbeats 8000000 in
theorem s_back (B sb am wm : Nat) (F : List Nat) (s : SS) (m : Int) (w : World) (h : Sets B sb am wm F w s) (hll : s.log.length ≤ 1000) :
    Calls Tryd.prog 13 #[.pointer (some ⟨sb, 0, none⟩), .int .i64 m] w fun e w' => BackPost B sb am wm F s m w e w' := by
  have H := Lib.hid h
  obtain ⟨g, vr, vl, vk, hF, h⟩ := h
  have HF := Lib.hid hF
  have HS := Lib.hid h
  have HG := Lib.hid g
  obtain ⟨Ak, ck, rfl, hnk, hck⟩ := own_slice h.k
  obtain ⟨Al, cl, rfl, hnl, hcl⟩ := own_slice h.l
  obtain ⟨N, hN⟩ : ∃ N, s.log.length = N := ⟨_, rfl⟩
  obtain ⟨M, hM⟩ : ∃ M, s.marks.length = M := ⟨_, rfl⟩
  have HM := Lib.hid hM
  have HN := Lib.hid hN
  have hM20 : M ≤ 20 := hM ▸ g.ml
  rw [hM] at hnk
  rw [hN] at hnl hll
  clear g hF h hM hN
  go_enter Tryd.func13, Tryd.ntmps13
  go_wp2_with fail
  refine (s_find B sb am wm F s m w H.out).mono ?_; rintro e w1 ⟨v, rfl, ev, u1, hv1, hv2⟩
  cases hi : isM s m with
  | false =>
    obtain ⟨b, rfl⟩ := hv2 hi
    rw [hi] at ev
    have EV := Lib.hid ev
    have U1 := Lib.hid u1
    have HI := Lib.hid hi
    clear ev u1 hv1 hv2 hi
    simp only [Bool.false_eq_true, if_false]
    go_wp2_with fail
    go_ret
    unfold BackPost
    rw [HI.out]
    exact ⟨_, _, rfl, EV.out, H.out.upd0 U1.out, .of0 U1.out⟩
  | true =>
    obtain ⟨rfl, rfl⟩ := hv1 hi
    have HI := Lib.hid hi
    obtain ⟨k, rfl, hk⟩ := isM_form hi
    have HKL := Lib.hid hk
    rw [HM.out] at hk
    clear ev u1 hv1 hv2 hi
    simp only [if_true]
    have KK : Hid ((((k : Int) + 1 - 1).toNat) = k) := Lib.hid (by omega)
    rw [KK.out]
    obtain ⟨z, hz⟩ : ∃ z, s.marks.getD k 0 = z := ⟨_, rfl⟩
    have HZ := Lib.hid hz
    have hzN : z ≤ N := by
      rw [← hz, ← HN.out]
      refine HG.out.le _ ?_
      rw [List.getD_eq_getElem?_getD, List.getElem?_eq_getElem HKL.out]
      exact List.getElem_mem _
    rw [hz]
    clear hz
    have HB : Hid (Blk w sb 62 #[vr, .map (some am), .map (some wm), .slice Al N cl, .slice Ak M ck]) := Lib.hid (by have := HS.out.box; rw [HN.out, HM.out] at this; exact this)
    have c3 : w.cell? ⟨sb, 3, none⟩ = some (.slice Al N cl) := HB.out.cell 3
    go_wp2_with fail
    go_loopw [7] (fun v wr => ∃ j : Nat, v = .int .i64 ((j : Int) - 1) ∧ z ≤ j ∧ j ≤ N ∧ Hid (BackSt B sb am wm vr (.slice Al s.log.length cl) (.slice Ak s.marks.length ck) s w wr j)) (fun v _ => (intOf v + 1).toNat)
    case atStart => exact ⟨N, rfl, hzN, by omega, Lib.hid ⟨by rw [← HN.out, undoTo_len]; exact HS.out.m, .refl _ _⟩⟩
    case round =>
      obtain ⟨j, rfl, hzj, hjN, HJ⟩ := hrel
      rename World => wi
      have SI := Lib.hid (HJ.out.st HS.out)
      have HBI : Hid (Blk wi sb 62 #[vr, .map (some am), .map (some wm), .slice Al N cl, .slice Ak M ck]) := Lib.hid (by have := SI.out.box; rw [HN.out, HM.out] at this; exact this)
      clear c3
      have c3 : wi.cell? ⟨sb, 3, none⟩ = some (.slice Al N cl) := HBI.out.cell 3
      by_cases hjz : z < j
      · obtain ⟨i, rfl⟩ : ∃ i, j = i + 1 := ⟨j - 1, by omega⟩
        obtain ⟨⟨uc, uv, uw⟩, hx⟩ : ∃ u, s.log[i]? = some u := ⟨_, List.getElem?_eq_getElem (by rw [HN.out]; omega)⟩
        have HX := Lib.hid hx
        obtain ⟨gl, cg, cur, e1, _⟩ := own_form HS.out.l (by rw [HN.out]; omega)
        injection e1 with e1 _ e1'
        subst e1 e1'
        have e0 : wi.cell? ⟨gl, i * 3, none⟩ = some (.int .u64 uc) := SI.out.l.at_ hx 0 _ rfl
        have e1 : wi.cell? ⟨gl, i * 3 + 1, none⟩ = some (.int .u64 uv) := SI.out.l.at_ hx 1 _ rfl
        have e2 : wi.cell? ⟨gl, i * 3 + 2, none⟩ = some (.bool uw) := SI.out.l.at_ hx 2 _ rfl
        have ST : Hid (undoTo i s.log s.W = undo1 (undoTo (i + 1) s.log s.W) ⟨uc, uv, uw⟩) := Lib.hid (undoTo_step (n := 0) hx _)
        have SR : Hid (Srt (undoTo (i + 1) s.log s.W)) := Lib.hid (srt_undoTo HG.out.srt _ _)
        have q1 : (0 : Int) ≤ (i : Int) := by omega
        have q2 : (i : Int) < (N : Int) := by omega
        have q3 : ((i + 1 : Nat) : Int) - 1 = (i : Int) := by omega
        have q4 : (z : Int) ≤ (i : Int) := by omega
        rw [q3]
        clear hx q3
        have UA : Hid (Upd [] wi (wi.alloc (.cells #[.int .u64 uc, .int .u64 uv, .bool uw] 75))) := Lib.hid ((Upd.refl [] wi).alloc _)
        have YA : Hid (Blk (wi.alloc (.cells #[.int .u64 uc, .int .u64 uv, .bool uw] 75)) wi.heap.size 75 #[.int .u64 uc, .int .u64 uv, .bool uw]) := Lib.hid (Blk.new wi _ _)
        cases uw with
        | true =>
          go_wp2_with fail
          generalize (wi.alloc (.cells #[.int .u64 uc, .int .u64 uv, .bool true] 75)) = w5 at *
          have J5 := Lib.hid (HJ.out.upd0 UA.out)
          have CS : Hid (∀ W, Upd [] w5.drew W → W.cell? ⟨sb, 2, none⟩ = some (.map (some wm)) ∧ W.cell? ⟨wi.heap.size, 0, none⟩ = some (.int .u64 uc) ∧ W.cell? ⟨wi.heap.size, 1, none⟩ = some (.int .u64 uv)) := Lib.hid (fun W hW => by
            have hu : Upd [] w5 W := (Upd.refl [] w5).drew.trans hW
            exact ⟨((HBI.out.upd UA.out (by simp)).upd hu (by simp)).cell 2, (YA.out.upd hu (by simp)).cell 0, (YA.out.upd hu (by simp)).cell 1⟩)
          refine wp_invNT 8 [] [] (by kernel_rfl) (by simp) (by kernel_rfl) (by kernel_rfl) trivial ?_
          simp only [List.take_succ_cons, List.take_zero, List.drop_succ_cons, List.drop_zero]
          with_reducible apply wpV_light
          · simp only [lightOp]
          · intro W hU hF
            have f0 := CS.out W hU
            clear hU hF
            go_simp
            exact rfl
          simp only [Act.put, List.setIfInBounds_toArray, List.set_cons_zero, List.set_cons_succ]
          with_reducible apply wpV_light
          · simp only [lightOp]
          · intro W hU hF
            have f0 := CS.out W hU
            clear hU hF
            go_simp
            exact rfl
          simp only [Act.put, List.setIfInBounds_toArray, List.set_cons_zero, List.set_cons_succ]
          with_reducible apply wpV_light
          · simp only [lightOp]
          · intro W hU hF
            have f0 := CS.out W hU
            clear hU hF
            go_simp
            exact rfl
          simp only [Act.put, List.setIfInBounds_toArray, List.set_cons_zero, List.set_cons_succ]
          with_reducible apply wpV_light
          · simp only [lightOp]
          · intro W hU hF
            have f0 := CS.out W hU
            clear hU hF
            go_simp
            exact rfl
          simp only [Act.put, List.setIfInBounds_toArray, List.set_cons_zero, List.set_cons_succ]
          with_reducible apply wpV_light
          · simp only [lightOp]
          · intro W hU hF
            have f0 := CS.out W hU
            clear hU hF
            go_simp
            exact rfl
          simp only [Act.put, List.setIfInBounds_toArray, List.set_cons_zero, List.set_cons_succ]
          with_reducible apply wpV_light
          · simp only [lightOp]
          · intro W hU hF
            have f0 := CS.out W hU
            clear hU hF
            go_simp
            exact rfl
          simp only [Act.put, List.setIfInBounds_toArray, List.set_cons_zero, List.set_cons_succ]
          with_reducible apply wpV_light
          · simp only [lightOp]
          · intro W hU hF
            have f0 := CS.out W hU
            clear hU hF
            go_simp
            exact rfl
          simp only [Act.put, List.setIfInBounds_toArray, List.set_cons_zero, List.set_cons_succ]
          with_reducible apply wpV_light
          · simp only [lightOp]
          · intro W hU hF
            have f0 := CS.out W hU
            clear hU hF
            go_simp
            exact rfl
          simp only [Act.put, List.setIfInBounds_toArray, List.set_cons_zero, List.set_cons_succ]
          refine wpV_end (fun W hU _ _ => ?_)
          have JW := Lib.hid (J5.out.upd0 ((Upd.refl [] w5).drew.trans hU))
          clear hU
          obtain ⟨W3, r3, m3, u3⟩ := run_mapUpdate_int (P := Tryd.prog) (mt := 58) Tryd.underlying58 Tryd.underlying38 JW.out.m uc (.int .u64 uv)
          have J7 : Hid (BackSt B sb am wm vr (.slice (some ⟨gl, 0, none⟩) s.log.length cl) (.slice Ak s.marks.length ck) s w W3 i) := Lib.hid (by
            refine ⟨?_, JW.out.u.trans u3⟩
            rw [ST.out]
            exact imap_put SR.out m3)
          clear m3 u3
          refine wpT_op (by rfl) (fun K hK => ?_)
          go_wp2_with fail
          refine hK.out _ _ ?_
          clear hK K
          try simp only [Act.put, List.setIfInBounds_toArray, List.set_cons_zero, List.set_cons_succ]
          clear r3
          refine wpT_end ?_
          go_wp2_with fail
          go_roundw
          case rel => exact ⟨i, by go_num, by omega, by omega, J7⟩
          case measure => simp [intOf]
        | false =>
          go_wp2_with fail
          generalize (wi.alloc (.cells #[.int .u64 uc, .int .u64 uv, .bool false] 75)) = w5 at *
          have J5 := Lib.hid (HJ.out.upd0 UA.out)
          have CS : Hid (∀ W, Upd [] w5.drew W → W.cell? ⟨sb, 2, none⟩ = some (.map (some wm)) ∧ W.cell? ⟨wi.heap.size, 0, none⟩ = some (.int .u64 uc) ∧ W.cell? ⟨wi.heap.size, 1, none⟩ = some (.int .u64 uv)) := Lib.hid (fun W hW => by
            have hu : Upd [] w5 W := (Upd.refl [] w5).drew.trans hW
            exact ⟨((HBI.out.upd UA.out (by simp)).upd hu (by simp)).cell 2, (YA.out.upd hu (by simp)).cell 0, (YA.out.upd hu (by simp)).cell 1⟩)
          refine wp_invNT 6 [] [] (by kernel_rfl) (by simp) (by kernel_rfl) (by kernel_rfl) trivial ?_
          simp only [List.take_succ_cons, List.take_zero, List.drop_succ_cons, List.drop_zero]
          with_reducible apply wpV_light
          · simp only [lightOp]
          · intro W hU hF
            have f0 := CS.out W hU
            clear hU hF
            go_simp
            exact rfl
          simp only [Act.put, List.setIfInBounds_toArray, List.set_cons_zero, List.set_cons_succ]
          with_reducible apply wpV_light
          · simp only [lightOp]
          · intro W hU hF
            have f0 := CS.out W hU
            clear hU hF
            go_simp
            exact rfl
          simp only [Act.put, List.setIfInBounds_toArray, List.set_cons_zero, List.set_cons_succ]
          with_reducible apply wpV_light
          · simp only [lightOp]
          · intro W hU hF
            have f0 := CS.out W hU
            clear hU hF
            go_simp
            exact rfl
          simp only [Act.put, List.setIfInBounds_toArray, List.set_cons_zero, List.set_cons_succ]
          with_reducible apply wpV_light
          · simp only [lightOp]
          · intro W hU hF
            have f0 := CS.out W hU
            clear hU hF
            go_simp
            exact rfl
          simp only [Act.put, List.setIfInBounds_toArray, List.set_cons_zero, List.set_cons_succ]
          with_reducible apply wpV_light
          · simp only [lightOp]
          · intro W hU hF
            have f0 := CS.out W hU
            clear hU hF
            go_simp
            exact rfl
          simp only [Act.put, List.setIfInBounds_toArray, List.set_cons_zero, List.set_cons_succ]
          with_reducible apply wpV_light
          · simp only [lightOp]
          · intro W hU hF
            have f0 := CS.out W hU
            clear hU hF
            go_simp
            exact rfl
          simp only [Act.put, List.setIfInBounds_toArray, List.set_cons_zero, List.set_cons_succ]
          refine wpV_end (fun W hU _ _ => ?_)
          have JW := Lib.hid (J5.out.upd0 ((Upd.refl [] w5).drew.trans hU))
          clear hU
          obtain ⟨W3, r3, m3, u3⟩ := run_delete_int (P := Tryd.prog) (ats := #[58, 38]) (ty := 0) rfl Tryd.underlying58 Tryd.underlying38 JW.out.m uc
          have J7 : Hid (BackSt B sb am wm vr (.slice (some ⟨gl, 0, none⟩) s.log.length cl) (.slice Ak s.marks.length ck) s w W3 i) := Lib.hid (by
            refine ⟨?_, JW.out.u.trans u3⟩
            rw [ST.out]
            exact imap_del SR.out m3)
          clear m3 u3
          refine wpT_op (by rfl) (fun K hK => ?_)
          go_wp2_with fail
          refine hK.out _ _ ?_
          clear hK K
          try simp only [Act.put, List.setIfInBounds_toArray, List.set_cons_zero, List.set_cons_succ]
          clear r3
          refine wpT_end ?_
          go_wp2_with fail
          go_roundw
          case rel => exact ⟨i, by go_num, by omega, by omega, J7⟩
          case measure => simp [intOf]
      · have hjz2 : j = z := by omega
        subst hjz2
        have d : ¬ ((j : Int) ≤ (j : Int) - 1) := by omega
        have OL : Hid (Ow encU 75 wi B (.slice Al j cl) (s.log.take j)) := Lib.hid (ow_take SI.out.l (by show j ≤ s.log.length; rw [HN.out]; omega))
        have OK : Hid (Ow encK 3 wi B (.slice Ak k ck) (s.marks.take k)) := Lib.hid (ow_take SI.out.k (by show k ≤ s.marks.length; rw [HM.out]; omega))
        have c4 : wi.cell? ⟨sb, 4, none⟩ = some (.slice Ak M ck) := HBI.out.cell 4
        have f3 : wi.frozen? ⟨sb, 3, none⟩ = false := HBI.out.frozen 3
        have f4 : wi.frozen? ⟨sb, 4, none⟩ = false := HBI.out.frozen 4
        have lt : sb < wi.heap.size := HBI.out.lt
        have B8 : Hid (Blk (wi.setCell ⟨sb, 3, none⟩ (.slice Al j cl)) sb 62 #[vr, .map (some am), .map (some wm), .slice Al j cl, .slice Ak M ck]) := Lib.hid (HBI.out.set_eq rfl)
        have y4 : (wi.setCell ⟨sb, 3, none⟩ (.slice Al j cl)).cell? ⟨sb, 4, none⟩ = some (.slice Ak M ck) := B8.out.cell 4
        have y5 : (wi.setCell ⟨sb, 3, none⟩ (.slice Al j cl)).frozen? ⟨sb, 4, none⟩ = false := B8.out.frozen 4
        have B9 : Hid (Blk ((wi.setCell ⟨sb, 3, none⟩ (.slice Al j cl)).setCell ⟨sb, 4, none⟩ (.slice Ak k ck)) sb 62 #[vr, .map (some am), .map (some wm), .slice Al j cl, .slice Ak k ck]) := Lib.hid (B8.out.set_eq rfl)
        have U9 : Hid (Upd [sb] wi ((wi.setCell ⟨sb, 3, none⟩ (.slice Al j cl)).setCell ⟨sb, 4, none⟩ (.slice Ak k ck))) := Lib.hid (((Upd.refl [sb] wi).setCell (.inl (by simp)) _).setCell (.inl (by simp)) _)
        have q1 : (0 : Int) ≤ (j : Int) := by omega
        have q2 : (j : Int) ≤ (cl : Int) := by omega
        have q2n : j ≤ cl := by omega
        have q3 : (k : Int) + 1 - 1 = (k : Int) := by omega
        have q4 : (0 : Int) ≤ (k : Int) := by omega
        have q5 : (k : Int) ≤ (ck : Int) := by omega
        have q5n : k ≤ ck := by omega
        have q6 : (k : Int) < (M : Int) := by omega
        have SB : Hid (sBack s k = { R := s.R, W := undoTo j s.log s.W, log := s.log.take j, marks := s.marks.take k }) := Lib.hid (by unfold sBack; rw [HZ.out])
        go_wp2_with fail
        go_ret
        change BackPost B sb am wm F s ((k : Nat) + 1 : Int) w _ _
        unfold BackPost
        rw [HI.out, if_pos rfl, if_pos rfl, if_pos rfl, KK.out]
        have GB := good_back HG.out HKL.out
        rw [SB.out] at GB ⊢
        refine ⟨.nilIface, fpS sb am wm vr (.slice Al j cl) (.slice Ak k ck), rfl, ErrV.nil _, ⟨GB, vr, _, _, rfl, ?_⟩, ?_⟩
        · exact SI.out.turn U9.out B9.out (.inr ⟨rfl, rfl, fun b hb => by simp; exact (SI.out.nr hb).1⟩) (.inl (OL.out.upd U9.out (fun b hb => by simp; exact (SI.out.nl (slice_own hb)).1))) (.inl (OK.out.upd U9.out (fun b hb => by simp; exact (SI.out.nk (slice_own hb)).1))) (.inr ⟨rfl, by simp; exact SI.out.na.1.symm⟩) (.inr ⟨rfl, by simp; exact SI.out.na.2.symm⟩)
        · rw [HF.out]
          exact frm_fp ((HJ.out.u.mono (by simp)).trans (U9.out.mono (T := [sb, wm]) (by simp))) (by intro i hi; simp at hi; exact .inl (by unfold fpS; rcases hi with rfl | rfl <;> simp)) (fun b hb => .inl hb) (fun b hb => .inl (slice_own hb)) (fun b hb => .inl (slice_own hb))
end Go.Proofs.YtbpmkbcpnnpdjaaDoor

/-
  concordlaw08.Is: is a state the document's?
-/
import Derived.Test.YtjlpogmoebmkdaaDoorMPlay
import Derived.Test.YtjlpogmoebmkdaaDoorPairs
import Derived.Test.YtjlpogmoebmkdaaDoorMdl4
import Derived.Test.YtjlpogmoebmkdaaDoorMdl5
set_option linter.unusedVariables false
namespace Go.Proofs.YtjlpogmoebmkdaaDoor
open Go.RowKit Assoc MP
attribute [local go_sem] litStep_value

set_option maxRecDepth 100000 in
set_option maxHeartbeats 4000000 in
theorem mis_ok (B sb rb : Nat) (s : MS) (w : World) (h : MBoth B sb rb w s) :
    Calls Tryd.prog 19 #[.pointer (some ⟨sb, 0, none⟩), .pointer (some ⟨rb, 0, none⟩)] w fun e w' => e = .returned (.bool true) ∧ Upd [] w w' := by
  obtain ⟨F, G, hs, hd, hdj⟩ := h
  have HS0 := Lib.hid hs
  have HD0 := Lib.hid hd
  obtain ⟨hgd, vk, vl, ms, hF, hst⟩ := hd
  have HGD := Lib.hid hgd
  obtain ⟨Ak, ck, rfl, _, _⟩ := own_slice hst.k
  obtain ⟨NK, hNK⟩ : ∃ NK, s.K.length = NK := ⟨_, rfl⟩
  have HNK := Lib.hid hNK
  have HST := Lib.hid hst
  have hk8 : NK ≤ 8 := hNK ▸ hgd.k8
  rw [hNK] at HST
  have CK : Hid (∀ W, Upd [] w W → W.cell? ⟨rb, 0, none⟩ = some (.slice Ak NK ck) ∧ Ow encK 3 W B (.slice Ak NK ck) s.K) := Lib.hid (fun W hW => ⟨by rw [← hNK]; exact (hst.box.upd hW (by simp)).cell 0, by rw [← hNK]; exact hst.k.upd0 hW⟩)
  clear hs hdj hgd hst hF hNK
  go_enter Tryd.func19, Tryd.ntmps19
  have CS : Hid (∀ W, Upd [] w.drew W → W.cell? ⟨rb, 0, none⟩ = some (.slice Ak NK ck)) := Lib.hid (fun W hW => (CK.out W ((Upd.refl [] w).drew.trans hW)).1)
  go_wp2_with fail
  refine wp_invN [(4, .own w.heap.size 3 1 NK (flat encK s.K)), (9, .det (.bool true))] [] (by kernel_rfl) (by kernel_rfl) (by kernel_rfl) ⟨lasts_own _ _ _ _ _ (by unfold maxLen; omega), lasts_det _, trivial⟩ ?_
  with_reducible apply wpV_light
  · simp only [lightOp]
  · intro W hU hF
    have f0 := CS.out W hU
    clear hU hF
    go_simp
    exact rfl
  simp only [Act.put, List.setIfInBounds_toArray, List.set_cons_zero, List.set_cons_succ]
  with_reducible apply wpV_light
  · simp only [lightOp]
  · intro W hU hF
    have f0 := CS.out W hU
    clear hU hF
    go_simp
    exact rfl
  simp only [Act.put, List.setIfInBounds_toArray, List.set_cons_zero, List.set_cons_succ]
  with_reducible apply wpV_light
  · simp only [lightOp]
  · intro W hU hF
    have f0 := CS.out W hU
    clear hU hF
    go_simp
    exact rfl
  simp only [Act.put, List.setIfInBounds_toArray, List.set_cons_zero, List.set_cons_succ]
  with_reducible apply wpV_light
  · simp only [lightOp]
  · intro W hU hF
    have f0 := CS.out W hU
    clear hU hF
    go_simp
    exact rfl
  simp only [Act.put, List.setIfInBounds_toArray, List.set_cons_zero, List.set_cons_succ]
  refine wpV_heavy (by simp only [lightOp]) (by rfl) (fun W hU hk hF K hK => ?_) ?_
  · go_wp2_with fail
    have hs1 := HS0.out.upd0 ((Upd.refl [] w).drew.trans hU)
    refine (m_kinds B sb F s W hs1).mono ?_
    rintro e w2 ⟨v2, rfl, o2, u2⟩
    go_wp2_with fail
    refine hK.out _ _ (outV_new rfl ?_ ?_ u2)
    · have o3 : w2.ownsRow w.heap.size 3 1 v2 NK (flat encK s.K) := own_base (by have := o2; unfold Ow at this; rw [HNK.out] at this; exact this) hU.size
      exact o3
    · intro b hb
      have hb1 : b ∈ v2.ownBlock.toList := hb
      have hb2 : v2.ownBlock = some b := by simpa using hb1
      exact own_lt o2 hb2
  rintro _ ⟨A2, c2, rfl, _, _⟩
  simp only [Act.put, List.setIfInBounds_toArray, List.set_cons_zero, List.set_cons_succ]
  with_reducible apply wpV_light
  · simp only [lightOp]
  · intro W hU hF
    have f0 := CS.out W hU
    clear hU hF
    go_simp
    exact rfl
  simp only [Act.put, List.setIfInBounds_toArray, List.set_cons_zero, List.set_cons_succ]
  with_reducible apply wpV_light
  · simp only [lightOp]
  · intro W hU hF
    have f0 := CS.out W hU
    clear hU hF
    go_simp
    exact rfl
  simp only [Act.put, List.setIfInBounds_toArray, List.set_cons_zero, List.set_cons_succ]
  with_reducible apply wpV_light
  · simp only [lightOp]
  · intro W hU hF
    have f0 := CS.out W hU
    clear hU hF
    go_simp
    exact rfl
  simp only [Act.put, List.setIfInBounds_toArray, List.set_cons_zero, List.set_cons_succ]
  with_reducible apply wpV_light
  · simp only [lightOp]
  · intro W hU hF
    have f0 := CS.out W hU
    clear hU hF
    go_simp
    exact rfl
  simp only [Act.put, List.setIfInBounds_toArray, List.set_cons_zero, List.set_cons_succ]
  refine wpV_heavy (by simp only [lightOp]) (by rfl) (fun W hU hk hF K hK => ?_) ?_
  · go_wp2_with fail
    have o2 : W.ownsRow w.heap.size 3 1 (.slice A2 NK c2) NK (flat encK s.K) := hF.out.1 (by kernel_rfl)
    refine (ints_ok w.heap.size B s.K s.K (.slice A2 NK c2) (.slice Ak NK ck) W (by unfold Ow; rw [HNK.out]; exact o2) (CK.out W ((Upd.refl [] w).drew.trans hU)).2 (by rw [HNK.out]; omega) (by rw [HNK.out]; omega)).mono ?_
    rintro e w3 ⟨rfl, u3⟩
    rw [decide_eq_true rfl]
    go_wp2_with fail
    exact hK.out _ _ (outV_new rfl rfl (by intro b hb; cases hb) u3)
  rintro _ rfl
  simp only [Act.put, List.setIfInBounds_toArray, List.set_cons_zero, List.set_cons_succ]
  with_reducible apply wpV_light
  · simp only [lightOp]
  · intro W hU hF
    have f0 := CS.out W hU
    clear hU hF
    go_simp
    exact rfl
  simp only [Act.put, List.setIfInBounds_toArray, List.set_cons_zero, List.set_cons_succ]
  with_reducible apply wpV_light
  · simp only [lightOp]
  · intro W hU hF
    have f0 := CS.out W hU
    clear hU hF
    go_simp
    exact rfl
  simp only [Act.put, List.setIfInBounds_toArray, List.set_cons_zero, List.set_cons_succ]
  refine wpV_end (fun W hU _ _ => ?_)
  have U1 : Hid (Upd [] w W) := Lib.hid ((Upd.refl [] w).drew.trans hU)
  clear hU
  refine wpT_end ?_
  have c0 : W.cell? ⟨rb, 0, none⟩ = some (.slice Ak NK ck) := (CK.out W U1.out).1
  go_wp2_with fail
  go_loopw [27, 5, 6, 7, 8, 9] (fun v v5 v6 v7 v8 v9 wr => ∃ k : Nat, v = .int .i64 k ∧ k ≤ NK ∧ Hid (Upd [] w wr)) (fun v _ _ _ _ _ _ => NK - (intOf v).toNat)
  case atStart => exact ⟨0, rfl, by omega, U1⟩
  case round =>
    obtain ⟨k, rfl, hk, UK⟩ := hrel
    clear c0 CS U1
    rename World => wr
    by_cases hkn : k < NK
    · have hi : k < s.L.length := by rw [← HGD.out.kl, HNK.out]; exact hkn
      have HI := Lib.hid hi
      have HIC : Hid (isC s k = true) := Lib.hid (isC_nat hi)
      clear hi
      go_wp2_with fail
      refine (m_list B sb F s k wr (HS0.out.upd0 UK.out)).mono ?_
      rintro e w2 ⟨v2, e2, rfl, ev2, o2, u2⟩
      have EV2 : Hid (ErrV w2 e2 0 0) := Lib.hid (by rw [HIC.out] at ev2; exact ev2)
      have O2 : Hid (Ow encPr 36 w2 wr.heap.size v2 (coll s k)) := Lib.hid (by have := o2; unfold listC at this; rw [HIC.out, Int.toNat_natCast] at this; exact this)
      have U2 := Lib.hid (UK.out.trans u2)
      clear ev2 o2 u2
      go_wp2_with fail
      refine (m_size B sb F s k w2 (HS0.out.upd0 U2.out)).mono ?_
      rintro e w3 ⟨e3, rfl, ev3, u3⟩
      rw [HIC.out, if_pos rfl] at ev3 ⊢
      have EV3 : Hid (ErrV w3 e3 0 0) := Lib.hid ev3
      have EV2' : Hid (ErrV w3 e2 0 0) := Lib.hid (EV2.out.upd u3)
      have O3 : Hid (Ow encPr 36 w3 wr.heap.size v2 (coll s k)) := Lib.hid (O2.out.upd0 u3)
      have U3 := Lib.hid (U2.out.trans u3)
      clear ev3 u3 O2 EV2
      obtain ⟨hgd, vk3, vl3, ms3, hF3, hst3⟩ := HD0.out.upd0 U3.out
      obtain ⟨gl, cl, Ai, ci, rfl, hcell, hoi, hmi⟩ := hst3.at_ HI.out
      obtain ⟨N, hN⟩ : ∃ N, s.L.length = N := ⟨_, rfl⟩
      obtain ⟨n, hn⟩ : ∃ n, (coll s k).length = n := ⟨_, rfl⟩
      have hn1 : n ≤ 100 := hn ▸ hgd.len _ (coll_mem HI.out)
      have hi2 : k < N := hN ▸ HI.out
      have c1 : w3.cell? ⟨rb, 1, none⟩ = some (.slice (some ⟨gl, 0, none⟩) N cl) := by rw [← hN]; exact hst3.box.cell 1
      have e0 : w3.cell? ⟨gl, k, none⟩ = some (.slice Ai n ci) := by rw [← hn]; exact hcell
      have HN := Lib.hid hn
      have HC1 : Hid (∀ W, Upd [] w3 W → W.cell? ⟨rb, 1, none⟩ = some (.slice (some ⟨gl, 0, none⟩) N cl)) := Lib.hid (fun W hW => by rw [← hN]; exact (hst3.box.upd hW (by simp)).cell 1)
      have HE0 : Hid (∀ W, Upd [] w3 W → W.cell? ⟨gl, k, none⟩ = some (.slice Ai n ci)) := Lib.hid (fun W hW => by rw [← hn]; exact own_cell (own_upd0 hst3.l hW) k _ hmi)
      have OI : Hid (Ow encPr 36 w3 B (.slice Ai n ci) (coll s k)) := Lib.hid (by rw [← hn]; exact hoi)
      have q1 : (0 : Int) ≤ (k : Int) := by omega
      have q2 : (k : Int) < (N : Int) := by omega
      rw [Int.toNat_natCast, hn]
      clear hcell hoi hN hn hst3 hgd hF3 hmi
      go_wp2_with fail
      refine (no_err EV2'.out).mono ?_; rintro e w4 ⟨rfl, rfl⟩
      go_wp2_with fail
      refine (no_err EV3.out).mono ?_; rintro e w4 ⟨rfl, rfl⟩
      go_wp2_with fail
      refine (pairs_ok wr.heap.size B (coll s k) (coll s k) v2 (.slice Ai n ci) w3 O3.out OI.out (by rw [HN.out]; omega) (by rw [HN.out]; omega)).mono ?_
      rintro e w5 ⟨rfl, u5⟩
      rw [decide_eq_true rfl]
      have U5 := Lib.hid (U3.out.trans u5)
      have c1' : w5.cell? ⟨rb, 1, none⟩ = some (.slice (some ⟨gl, 0, none⟩) N cl) := HC1.out w5 u5
      have e0' : w5.cell? ⟨gl, k, none⟩ = some (.slice Ai n ci) := HE0.out w5 u5
      have d1 : ((n : Int) != (n : Int)) = false := by simp
      clear u5
      go_wp2_with fail
      go_roundw
      case rel => exact ⟨k + 1, by go_num, by omega, U5⟩
      case measure => simp [intOf]; omega
    · obtain rfl : k = NK := by omega
      go_wp2_with fail
      go_ret
      exact ⟨rfl, UK.out⟩
end Go.Proofs.YtjlpogmoebmkdaaDoor

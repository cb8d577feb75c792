/-
  concordlaw08.Is: is a state the document's?
  concordlaw11.Both: a state, and the document's, behind some calls.
  Statements as trees; how they lie in memory.
  What transactions do, plainly: the state, the registers, what is told, and how they end. No program in sight.
  model.State: Copy.
-/
import Derived.Test.YtfbeaklplefojaaGreatDoorEvB12
import Derived.Test.YtfbeaklplefojaaGreatDoorEvB6
import Derived.Test.YtfbeaklplefojaaGreatDoorEvB0
import Derived.Test.YtfbeaklplefojaaGreatDoorProg
import Derived.Test.YtfbeaklplefojaaGreatDoorEvB1
set_option linter.unusedVariables false
namespace Go.Proofs.YtfbeaklplefojaaGreatDoor
open Go.RowKit Assoc MP
attribute [local go_sem] litStep_value

set_option maxRecDepth 100000 in
set_option maxHeartbeats 4000000 in
theorem mis_ok (B sb rb : Nat) (s : MS) (w : World) (h : MBoth B sb rb w s) :
    Calls Tryz.prog 19 #[.pointer (some ⟨sb, 0, none⟩), .pointer (some ⟨rb, 0, none⟩)] w fun e w' => e = .returned (.bool true) ∧ Upd [] w w' := by
  obtain ⟨F, G, hs, hd, hdj⟩ := h
  have HS0 := Lib.hid hs
  have HD0 := Lib.hid hd
  obtain ⟨hgd, vk, vl, ms, hF, hst⟩ := hd
  have HGD := Lib.hid hgd
  obtain ⟨Ak, ck, rfl, _, _⟩ := own_slice hst.k
  obtain ⟨NK, hNK⟩ : ∃ NK, s.K.length = NK := ⟨_, rfl⟩
  have HNK := Lib.hid hNK
  have HST := Lib.hid hst
  have hk8 : NK ≤ 8 := hNK ▸ hgd.k8
  rw [hNK] at HST
  have CK : Hid (∀ W, Upd [] w W → W.cell? ⟨rb, 0, none⟩ = some (.slice Ak NK ck) ∧ Ow encK 3 W B (.slice Ak NK ck) s.K) := Lib.hid (fun W hW => ⟨by rw [← hNK]; exact (hst.box.upd hW (by simp)).cell 0, by rw [← hNK]; exact hst.k.upd0 hW⟩)
  clear hs hdj hgd hst hF hNK
  go_enter Tryz.func19, Tryz.ntmps19
  have CS : Hid (∀ W, Upd [] w.drew W → W.cell? ⟨rb, 0, none⟩ = some (.slice Ak NK ck)) := Lib.hid (fun W hW => (CK.out W ((Upd.refl [] w).drew.trans hW)).1)
  go_wp2_with fail
  refine wp_invN [(4, .own w.heap.size 3 1 NK (flat encK s.K)), (9, .det (.bool true))] [] (by kernel_rfl) (by kernel_rfl) (by kernel_rfl) ⟨lasts_own _ _ _ _ _ (by unfold maxLen; omega), lasts_det _, trivial⟩ ?_
  with_reducible apply wpV_light
  · simp only [lightOp]
  · intro W hU hF
    have f0 := CS.out W hU
    clear hU hF
    go_simp
    exact rfl
  simp only [Act.put, List.setIfInBounds_toArray, List.set_cons_zero, List.set_cons_succ]
  with_reducible apply wpV_light
  · simp only [lightOp]
  · intro W hU hF
    have f0 := CS.out W hU
    clear hU hF
    go_simp
    exact rfl
  simp only [Act.put, List.setIfInBounds_toArray, List.set_cons_zero, List.set_cons_succ]
  with_reducible apply wpV_light
  · simp only [lightOp]
  · intro W hU hF
    have f0 := CS.out W hU
    clear hU hF
    go_simp
    exact rfl
  simp only [Act.put, List.setIfInBounds_toArray, List.set_cons_zero, List.set_cons_succ]
  with_reducible apply wpV_light
  · simp only [lightOp]
  · intro W hU hF
    have f0 := CS.out W hU
    clear hU hF
    go_simp
    exact rfl
  simp only [Act.put, List.setIfInBounds_toArray, List.set_cons_zero, List.set_cons_succ]
  refine wpV_heavy (by simp only [lightOp]) (by rfl) (fun W hU hk hF K hK => ?_) ?_
  · go_wp2_with fail
    have hs1 := HS0.out.upd0 ((Upd.refl [] w).drew.trans hU)
    refine (m_kinds B sb F s W hs1).mono ?_
    rintro e w2 ⟨v2, rfl, o2, u2⟩
    go_wp2_with fail
    refine hK.out _ _ (outV_new rfl ?_ ?_ u2)
    · have o3 : w2.ownsRow w.heap.size 3 1 v2 NK (flat encK s.K) := own_base (by have := o2; unfold Ow at this; rw [HNK.out] at this; exact this) hU.size
      exact o3
    · intro b hb
      have hb1 : b ∈ v2.ownBlock.toList := hb
      have hb2 : v2.ownBlock = some b := by simpa using hb1
      exact own_lt o2 hb2
  rintro _ ⟨A2, c2, rfl, _, _⟩
  simp only [Act.put, List.setIfInBounds_toArray, List.set_cons_zero, List.set_cons_succ]
  with_reducible apply wpV_light
  · simp only [lightOp]
  · intro W hU hF
    have f0 := CS.out W hU
    clear hU hF
    go_simp
    exact rfl
  simp only [Act.put, List.setIfInBounds_toArray, List.set_cons_zero, List.set_cons_succ]
  with_reducible apply wpV_light
  · simp only [lightOp]
  · intro W hU hF
    have f0 := CS.out W hU
    clear hU hF
    go_simp
    exact rfl
  simp only [Act.put, List.setIfInBounds_toArray, List.set_cons_zero, List.set_cons_succ]
  with_reducible apply wpV_light
  · simp only [lightOp]
  · intro W hU hF
    have f0 := CS.out W hU
    clear hU hF
    go_simp
    exact rfl
  simp only [Act.put, List.setIfInBounds_toArray, List.set_cons_zero, List.set_cons_succ]
  with_reducible apply wpV_light
  · simp only [lightOp]
  · intro W hU hF
    have f0 := CS.out W hU
    clear hU hF
    go_simp
    exact rfl
  simp only [Act.put, List.setIfInBounds_toArray, List.set_cons_zero, List.set_cons_succ]
  refine wpV_heavy (by simp only [lightOp]) (by rfl) (fun W hU hk hF K hK => ?_) ?_
  · go_wp2_with fail
    have o2 : W.ownsRow w.heap.size 3 1 (.slice A2 NK c2) NK (flat encK s.K) := hF.out.1 (by kernel_rfl)
    refine (ints_ok w.heap.size B s.K s.K (.slice A2 NK c2) (.slice Ak NK ck) W (by unfold Ow; rw [HNK.out]; exact o2) (CK.out W ((Upd.refl [] w).drew.trans hU)).2 (by rw [HNK.out]; omega) (by rw [HNK.out]; omega)).mono ?_
    rintro e w3 ⟨rfl, u3⟩
    rw [decide_eq_true rfl]
    go_wp2_with fail
    exact hK.out _ _ (outV_new rfl rfl (by intro b hb; cases hb) u3)
  rintro _ rfl
  simp only [Act.put, List.setIfInBounds_toArray, List.set_cons_zero, List.set_cons_succ]
  with_reducible apply wpV_light
  · simp only [lightOp]
  · intro W hU hF
    have f0 := CS.out W hU
    clear hU hF
    go_simp
    exact rfl
  simp only [Act.put, List.setIfInBounds_toArray, List.set_cons_zero, List.set_cons_succ]
  with_reducible apply wpV_light
  · simp only [lightOp]
  · intro W hU hF
    have f0 := CS.out W hU
    clear hU hF
    go_simp
    exact rfl
  simp only [Act.put, List.setIfInBounds_toArray, List.set_cons_zero, List.set_cons_succ]
  refine wpV_end (fun W hU _ _ => ?_)
  have U1 : Hid (Upd [] w W) := Lib.hid ((Upd.refl [] w).drew.trans hU)
  clear hU
  refine wpT_end ?_
  have c0 : W.cell? ⟨rb, 0, none⟩ = some (.slice Ak NK ck) := (CK.out W U1.out).1
  go_wp2_with fail
  go_loopw [27, 5, 6, 7, 8, 9] (fun v v5 v6 v7 v8 v9 wr => ∃ k : Nat, v = .int .i64 k ∧ k ≤ NK ∧ Hid (Upd [] w wr)) (fun v _ _ _ _ _ _ => NK - (intOf v).toNat)
  case atStart => exact ⟨0, rfl, by omega, U1⟩
  case round =>
    obtain ⟨k, rfl, hk, UK⟩ := hrel
    clear c0 CS U1
    rename World => wr
    by_cases hkn : k < NK
    · have hi : k < s.L.length := by rw [← HGD.out.kl, HNK.out]; exact hkn
      have HI := Lib.hid hi
      have HIC : Hid (isC s k = true) := Lib.hid (isC_nat hi)
      clear hi
      go_wp2_with fail
      refine (m_list B sb F s k wr (HS0.out.upd0 UK.out)).mono ?_
      rintro e w2 ⟨v2, e2, rfl, ev2, o2, u2⟩
      have EV2 : Hid (ErrV w2 e2 0 0) := Lib.hid (by rw [HIC.out] at ev2; exact ev2)
      have O2 : Hid (Ow encPr 56 w2 wr.heap.size v2 (coll s k)) := Lib.hid (by have := o2; unfold listC at this; rw [HIC.out, Int.toNat_natCast] at this; exact this)
      have U2 := Lib.hid (UK.out.trans u2)
      clear ev2 o2 u2
      go_wp2_with fail
      refine (m_size B sb F s k w2 (HS0.out.upd0 U2.out)).mono ?_
      rintro e w3 ⟨e3, rfl, ev3, u3⟩
      rw [HIC.out, if_pos rfl] at ev3 ⊢
      have EV3 : Hid (ErrV w3 e3 0 0) := Lib.hid ev3
      have EV2' : Hid (ErrV w3 e2 0 0) := Lib.hid (EV2.out.upd u3)
      have O3 : Hid (Ow encPr 56 w3 wr.heap.size v2 (coll s k)) := Lib.hid (O2.out.upd0 u3)
      have U3 := Lib.hid (U2.out.trans u3)
      clear ev3 u3 O2 EV2
      obtain ⟨hgd, vk3, vl3, ms3, hF3, hst3⟩ := HD0.out.upd0 U3.out
      obtain ⟨gl, cl, Ai, ci, rfl, hcell, hoi, hmi⟩ := hst3.at_ HI.out
      obtain ⟨N, hN⟩ : ∃ N, s.L.length = N := ⟨_, rfl⟩
      obtain ⟨n, hn⟩ : ∃ n, (coll s k).length = n := ⟨_, rfl⟩
      have hn1 : n ≤ 100 := hn ▸ hgd.len _ (coll_mem HI.out)
      have hi2 : k < N := hN ▸ HI.out
      have c1 : w3.cell? ⟨rb, 1, none⟩ = some (.slice (some ⟨gl, 0, none⟩) N cl) := by rw [← hN]; exact hst3.box.cell 1
      have e0 : w3.cell? ⟨gl, k, none⟩ = some (.slice Ai n ci) := by rw [← hn]; exact hcell
      have HN := Lib.hid hn
      have HC1 : Hid (∀ W, Upd [] w3 W → W.cell? ⟨rb, 1, none⟩ = some (.slice (some ⟨gl, 0, none⟩) N cl)) := Lib.hid (fun W hW => by rw [← hN]; exact (hst3.box.upd hW (by simp)).cell 1)
      have HE0 : Hid (∀ W, Upd [] w3 W → W.cell? ⟨gl, k, none⟩ = some (.slice Ai n ci)) := Lib.hid (fun W hW => by rw [← hn]; exact own_cell (own_upd0 hst3.l hW) k _ hmi)
      have OI : Hid (Ow encPr 56 w3 B (.slice Ai n ci) (coll s k)) := Lib.hid (by rw [← hn]; exact hoi)
      have q1 : (0 : Int) ≤ (k : Int) := by omega
      have q2 : (k : Int) < (N : Int) := by omega
      rw [Int.toNat_natCast, hn]
      clear hcell hoi hN hn hst3 hgd hF3 hmi
      go_wp2_with fail
      refine (no_err EV2'.out).mono ?_; rintro e w4 ⟨rfl, rfl⟩
      go_wp2_with fail
      refine (no_err EV3.out).mono ?_; rintro e w4 ⟨rfl, rfl⟩
      go_wp2_with fail
      refine (pairs_ok wr.heap.size B (coll s k) (coll s k) v2 (.slice Ai n ci) w3 O3.out OI.out (by rw [HN.out]; omega) (by rw [HN.out]; omega)).mono ?_
      rintro e w5 ⟨rfl, u5⟩
      rw [decide_eq_true rfl]
      have U5 := Lib.hid (U3.out.trans u5)
      have c1' : w5.cell? ⟨rb, 1, none⟩ = some (.slice (some ⟨gl, 0, none⟩) N cl) := HC1.out w5 u5
      have e0' : w5.cell? ⟨gl, k, none⟩ = some (.slice Ai n ci) := HE0.out w5 u5
      have d1 : ((n : Int) != (n : Int)) = false := by simp
      clear u5
      go_wp2_with fail
      go_roundw
      case rel => exact ⟨k + 1, by go_num, by omega, U5⟩
      case measure => simp [intOf]; omega
    · obtain rfl : k = NK := by omega
      go_wp2_with fail
      go_ret
      exact ⟨rfl, UK.out⟩
end Go.Proofs.YtfbeaklplefojaaGreatDoor

namespace Go.Proofs.YtfbeaklplefojaaGreatDoor
open Go.RowKit Assoc MP
attribute [local go_sem] litStep_value

def BothPost (ks : List Int) (L : List MAct) (w : World) (e : Ending) (w' : World) : Prop :=
  (e = .returned (.tuple #[.pointer none, .pointer none]) ∧ Upd [] w w') ∨
  ∃ sb F rb, e = .returned (.tuple #[.pointer (some ⟨sb, 0, none⟩), .pointer (some ⟨rb, 0, none⟩)]) ∧ Mdl w.heap.size sb F w' (runM ks L) ∧ badK ks = none ∧ ks.length ≤ 8 ∧ Upd [] w w'
/-- The document's state within a collection. -/
def PartJ (B rb : Nat) (s : MS) (c k : Nat) (G0 : List Nat) (w0 w : World) : Prop := ∃ r G, RMdl B rb G w r ∧ PartS r s c k ∧ Frm G0 G w0 w
/-- The document's state so far. -/
def PartW (B rb : Nat) (s : MS) (c k : Nat) (w : World) : Prop := ∃ r G, RMdl B rb G w r ∧ PartS r s c k
set_option maxRecDepth 100000 in
set_option maxHeartbeats 8000000 in
theorem both_ok (A A' : Option Addr) (m d n c : Nat) (ks : List Int) (L : List MAct) (w : World) (hK : Rd encK w (.slice A' m d) ks) (hm : ks.length = m) (hmm : m ≤ 9223372036854775807) (hA : Rd encA w (.slice A n c) L) (hn : L.length = n) (hkb : ∀ a ∈ L, kB a.2.2.1) (hg : Typed w) :
    Calls Tryz.prog 6 #[.slice A' m d, .slice A n c] w (BothPost ks L w) := by
  have HK := Lib.hid hK
  have HM := Lib.hid hm
  have HMM := Lib.hid hmm
  have HA := Lib.hid hA
  have HN := Lib.hid hn
  have HKB := Lib.hid hkb
  have HG := Lib.hid hg
  clear hK hm hA hn hkb hg
  go_enter Tryz.func6, Tryz.ntmps6
  go_wp2_with fail
  refine (mplay_ok A A' m d n c ks L w w HK.out HM.out HA.out HN.out HKB.out HG.out (.refl _ _)).mono ?_; rintro e w1 h
  have U1 : Hid (Upd [] w w1) := Lib.hid (by rcases h with ⟨_, u⟩ | ⟨_, _, _, _, _, _, u⟩ <;> exact u)
  have RN := Lib.hid (rm_new A' m d ks w1 (HK.out.upd0 U1.out) HM.out HMM.out)
  rcases h with ⟨rfl, -⟩ | ⟨hb, h8, sb, F, rfl, s1, -⟩
  · go_wp2_with fail
    refine RN.out.mono ?_
    rintro e w2 ⟨u2, hcase⟩
    have U2 := Lib.hid (U1.out.trans u2)
    clear u2
    rcases hcase with ⟨i', hb', rfl⟩ | ⟨hb', _, rfl⟩ | ⟨hb', h8', rb, F', rfl, hr⟩
    all_goals
      clear hb'
      go_wp2_with fail
      go_ret2
      exact .inl ⟨rfl, U2.out⟩
  · have HBK := Lib.hid hb
    have H8 := Lib.hid h8
    have S1 := Lib.hid s1
    clear hb s1
    go_wp2_with fail
    refine RN.out.mono ?_
    rintro e w2 ⟨u2, hcase⟩
    rcases hcase with ⟨i', hb', rfl⟩ | ⟨hb', h8', rfl⟩ | ⟨hb', h8', rb, F', rfl, hr⟩
    · exact absurd (hb'.symm.trans HBK.out) (by simp)
    · omega
    obtain ⟨s, hs⟩ : ∃ s, runM ks L = s := ⟨_, rfl⟩
    have HS := Lib.hid hs
    rw [hs] at S1
    have GS := Lib.hid S1.out.1
    have SK : Hid (s.K = ks) := Lib.hid (by rw [← hs]; exact runM_K ks L)
    have SL : Hid (s.L.length = m) := Lib.hid (by rw [← hs, ← HM.out]; exact runM_len ks L)
    have ST : Hid (Set1 s) := Lib.hid (by rw [← hs]; exact set1_run ks L)
    have P2 : Hid (PartW w1.heap.size rb s 0 0 w2) := Lib.hid ⟨_, F', hr, by rw [← SK.out]; exact part_new GS.out.kl⟩
    have V2 : Hid (Upd [] w1 w2) := Lib.hid u2
    have hm8 : m ≤ 8 := by rw [← HM.out]; exact h8
    clear u2 hr hs hb' h8' h8 RN
    go_wp2_with fail
    go_loopw [32, 10, 11, 12, 14] (fun v x10 x11 x12 x14 wr => ∃ k : Nat, v = .int .i64 k ∧ k ≤ m ∧ Hid (PartW w1.heap.size rb s k 0 wr) ∧ Hid (Upd [] w1 wr)) (fun v _ _ _ _ _ => m - (intOf v).toNat)
    case atStart => exact ⟨0, rfl, by omega, P2, V2⟩
    case round =>
      obtain ⟨k, rfl, hk, PK, UK⟩ := hrel
      rename World => wr
      by_cases hkm : k < m
      · have HI : Hid (k < s.L.length) := Lib.hid (by rw [SL.out]; exact hkm)
        have HIC : Hid (isC s k = true) := Lib.hid (isC_nat HI.out)
        go_wp2_with fail
        refine (m_list w.heap.size sb F s k wr (S1.out.upd0 UK.out)).mono ?_
        rintro e w5 ⟨v5, e5, rfl, ev5, o5, u5⟩
        unfold listC at o5
        simp only [HIC.out, ↓reduceIte, Int.toNat_natCast] at o5 ev5
        obtain rfl : e5 = .nilIface := by rcases ev5 with ⟨h, _⟩ | ⟨_, ⟨h, _⟩, _⟩ | ⟨_, _, _, h, _⟩ <;> first | exact h | omega
        obtain ⟨l, hl⟩ : ∃ l, coll s k = l := ⟨_, rfl⟩
        rw [hl] at o5
        have HL := Lib.hid hl
        have HBD : Hid (∀ p ∈ l, kB p.1) := Lib.hid (hl ▸ GS.out.kb _ (coll_mem HI.out))
        have hl1 : l.length ≤ 100 := hl ▸ GS.out.len _ (coll_mem HI.out)
        obtain ⟨N, hN⟩ : ∃ N, l.length = N := ⟨_, rfl⟩
        have HNN := Lib.hid hN
        obtain ⟨X, cx, rfl, _, _⟩ := own_slice o5
        rw [hN] at hl1
        have O5 : Hid (Ow encPr 56 w5 wr.heap.size (.slice X N cx) l) := Lib.hid (by rw [hN] at o5; exact o5)
        simp only [hN]
        have U5 : Hid (Upd [] w1 w5) := Lib.hid (UK.out.trans u5)
        obtain ⟨rr, G0, hr0, hp0⟩ := PK.out
        have P5 : Hid (PartJ w1.heap.size rb s k 0 G0 w5 w5) := Lib.hid ⟨rr, G0, hr0.upd0 u5, hp0, .refl _ _⟩
        have GL : Hid (∀ x ∈ G0, w1.heap.size ≤ x ∧ x < wr.heap.size) := Lib.hid hr0.lt
        clear hr0 hp0
        clear ev5 o5 u5 hN hl UK PK
        go_wp2_with fail
        have Z1 : Hid (w1.heap.size ≤ w5.heap.size) := Lib.hid U5.out.size
        go_loopw [43, 14] (fun v x14 wr => ∃ j : Nat, v = .int .i64 j ∧ j ≤ N ∧ Hid (PartJ w1.heap.size rb s k j G0 w5 wr) ∧ Hid (Upd [] w1 wr)) (fun v _ _ => N - (intOf v).toNat)
        case atStart => exact ⟨0, rfl, by omega, P5, U5⟩
        case round =>
          obtain ⟨j, rfl, hj, PJ, UJ⟩ := hrel
          rename World => w6
          by_cases hjN : j < N
          · obtain ⟨⟨qk, qv⟩, hq⟩ : ∃ q, l[j]? = some q := ⟨_, List.getElem?_eq_getElem (by rw [HNN.out]; omega)⟩
            obtain ⟨r, G, hr, hp, hf⟩ := PJ.out
            have O6 := O5.out.upd hf.upd (fun b hb hb' => by have h1 := (own_lt O5.out hb).1; have h2 := (GL.out b hb').2; omega)
            have HP := Lib.hid hp
            have HF := Lib.hid hf
            have HRR := Lib.hid hr
            clear hr hp hf
            obtain ⟨g, cg, cur, e1, -⟩ := own_form O6 (by rw [HNN.out]; omega)
            injection e1 with e1 en e1'
            subst e1 e1'
            clear en
            have e0 : w6.cell? ⟨g, j * 2, none⟩ = some (.int .i64 qk) := O6.at_ hq 0 _ rfl
            have e1 : w6.cell? ⟨g, j * 2 + 1, none⟩ = some (.int .i64 qv) := O6.at_ hq 1 _ rfl
            have HQ := Lib.hid hq
            have KQ : Hid (kB qk) := Lib.hid (HBD.out _ (List.mem_of_getElem? hq))
            have q1 : (0 : Int) ≤ (j : Int) := by omega
            have q2 : (j : Int) < (N : Int) := by omega
            clear hq O6
            go_wp2_with fail
            have UA : Hid (Upd [] w6 (w6.alloc (.cells #[.int .i64 qk, .int .i64 qv] 56))) := Lib.hid ((Upd.refl [] w6).alloc _)
            have UB : Hid (Upd [] w1 (w6.alloc (.cells #[.int .i64 qk, .int .i64 qv] 56))) := Lib.hid (UJ.out.trans UA.out)
            have hr2 := Lib.hid (HRR.out.upd0 UA.out)
            clear e0 e1
            generalize (w6.alloc (.cells #[.int .i64 qk, .int .i64 qv] 56)) = w7 at *
            refine (rm_put w1.heap.size rb G r k qk qv w7 hr2.out KQ.out UB.out.size).mono ?_
            rintro e w8 ⟨G', rfl, hr8, f8⟩
            have hcr : isC r (k : Int) = true := isC_nat (by rw [HP.out.len]; exact HI.out)
            rw [hcr, if_pos rfl, Int.toNat_natCast] at hr8
            rw [hcr]
            have P8 : Hid (PartJ w1.heap.size rb s k (j + 1) G0 w5 w8) := Lib.hid ⟨_, G', hr8, part_step HP.out GS.out ST.out HI.out (by rw [HL.out]; exact HQ.out), (HF.out.post UA.out).trans f8⟩
            have U8 : Hid (Upd [] w1 w8) := Lib.hid (f8.rest UB.out (fun x hx => (hr2.out.lt x hx).1))
            clear hcr hr8 f8
            go_wp2_with fail
            go_roundw
            case rel => exact ⟨j + 1, by go_num, by omega, P8, U8⟩
            case measure => simp [intOf]; omega
          · obtain rfl : j = N := by omega
            have PN : Hid (PartW w1.heap.size rb s (k + 1) 0 w6) := Lib.hid (by
              obtain ⟨r, G, hr, hp, _⟩ := PJ.out
              exact ⟨r, G, hr, part_next hp (by rw [HL.out, HNN.out]; exact Nat.le_refl _)⟩)
            go_wp2_with fail
            go_roundw
            case rel => exact ⟨k + 1, by go_num, by omega, PN, UJ⟩
            case measure => simp [intOf]; omega
      · obtain rfl : k = m := by omega
        have BB : Hid (MBoth w.heap.size sb rb wr s) := Lib.hid (by
          obtain ⟨r, G, hr, hp⟩ := PK.out
          obtain rfl := part_done hp (by rw [SL.out]; exact Nat.le_refl _)
          exact ⟨F, G, S1.out.upd0 UK.out, hr.base U1.out.size, fun x hx hx' => by have h1 := (S1.out.lt x hx).2; have h2 := (hr.lt x hx').1; omega⟩)
        go_wp2_with fail
        refine (mis_ok w.heap.size sb rb s wr BB.out).mono ?_
        rintro e w9 ⟨rfl, u9⟩
        have U9 := Lib.hid (U1.out.trans (UK.out.trans u9))
        have S9 := Lib.hid (S1.out.upd0 (UK.out.trans u9))
        clear u9
        go_wp2_with fail
        go_ret2
        exact .inr ⟨sb, F, rb, rfl, by rw [HS.out]; exact S9.out, HBK.out, H8.out, U9.out⟩
end Go.Proofs.YtfbeaklplefojaaGreatDoor

namespace Go.Proofs.YtfbeaklplefojaaGreatDoor
open Go.RowKit

/-- A statement: kind, collection, register, the two arguments, Body, Else. -/
inductive Stm where
  | mk (kind coll reg ar an br bn : Int) (body els : List Stm)
deriving Inhabited

/-- The cells of a statement, its Body and Else being these values. -/
def stmCells (kind coll reg ar an br bn : Int) (vb ve : Value) : List Value := [.int .i64 kind, .int .i64 coll, .int .i64 reg, .int .i64 ar, .int .i64 an, .int .i64 br, .int .i64 bn, vb, ve]

/-- A slice value that holds these statements, in blocks ahead of B. -/
inductive Stms (w : World) (B : Nat) : Value → List Stm → Prop
  | mk (A : Option Addr) (n c : Nat) (l : List Stm) (vb ve : Nat → Value) (hn : l.length = n) (hc : n ≤ c) (hm : c ≤ 9223372036854775807)
      (hcell : ∀ k kind coll reg ar an br bn body els, l[k]? = some (.mk kind coll reg ar an br bn body els) →
        ∃ ad : Addr, A = some ad ∧ ad.block < B ∧ ∀ j u, (stmCells kind coll reg ar an br bn (vb k) (ve k))[j]? = some u → w.cell? (ad.add (k * 9 + j)) = some u)
      (hb : ∀ k kind coll reg ar an br bn body els, l[k]? = some (.mk kind coll reg ar an br bn body els) → Stms w B (vb k) body)
      (he : ∀ k kind coll reg ar an br bn body els, l[k]? = some (.mk kind coll reg ar an br bn body els) → Stms w B (ve k) els) : Stms w B (.slice A n c) l

theorem Stms.keep {w w' : World} {B : Nat} {v : Value} {l : List Stm} (h : Stms w B v l) (hk : ∀ p : Addr, p.block < B → w'.cell? p = w.cell? p) : Stms w' B v l := by
  induction h with
  | mk A n c l vb ve hn hc hm hcell hb he ihb ihe =>
    refine .mk A n c l vb ve hn hc hm (fun k a1 a2 a3 a4 a5 a6 a7 a8 a9 h => ?_) (fun k a1 a2 a3 a4 a5 a6 a7 a8 a9 h => ihb k a1 a2 a3 a4 a5 a6 a7 a8 a9 h) (fun k a1 a2 a3 a4 a5 a6 a7 a8 a9 h => ihe k a1 a2 a3 a4 a5 a6 a7 a8 a9 h)
    obtain ⟨ad, e, hl, hcc⟩ := hcell k a1 a2 a3 a4 a5 a6 a7 a8 a9 h
    exact ⟨ad, e, hl, fun j u hu => (hk _ (by rw [block_add]; exact hl)).trans (hcc j u hu)⟩
theorem Stms.more {w : World} {B B' : Nat} {v : Value} {l : List Stm} (h : Stms w B v l) (hB : B ≤ B') : Stms w B' v l := by
  induction h with
  | mk A n c l vb ve hn hc hm hcell hb he ihb ihe =>
    refine .mk A n c l vb ve hn hc hm (fun k a1 a2 a3 a4 a5 a6 a7 a8 a9 h => ?_) (fun k a1 a2 a3 a4 a5 a6 a7 a8 a9 h => ihb k a1 a2 a3 a4 a5 a6 a7 a8 a9 h) (fun k a1 a2 a3 a4 a5 a6 a7 a8 a9 h => ihe k a1 a2 a3 a4 a5 a6 a7 a8 a9 h)
    obtain ⟨ad, e, hl, hcc⟩ := hcell k a1 a2 a3 a4 a5 a6 a7 a8 a9 h
    exact ⟨ad, e, by omega, hcc⟩
theorem Stms.slice {w : World} {B : Nat} {v : Value} {l : List Stm} (h : Stms w B v l) : ∃ A n c, v = .slice A n c := by
  cases h with
  | mk A n c => exact ⟨A, n, c, rfl⟩
theorem Stms.belowW {w w' : World} {B : Nat} {v : Value} {l : List Stm} (h : Stms w B v l) (hb : Below B w w') : Stms w' B v l := h.keep fun p hp => hb.cell hp

/-- How many statements there are, those in others counted. -/
def Stm.size : Stm → Nat
  | .mk _ _ _ _ _ _ _ body els => 1 + sizes body + sizes els
where sizes : List Stm → Nat
  | [] => 0
  | s :: l => s.size + sizes l

def Stm.body : Stm → List Stm
  | .mk _ _ _ _ _ _ _ b _ => b
def Stm.els : Stm → List Stm
  | .mk _ _ _ _ _ _ _ _ e => e
/-- The value of a statement. -/
def StmV (w : World) (B : Nat) : Stm → Value → Prop
  | .mk kind coll reg ar an br bn body els, v => ∃ vb ve, v = .agg (stmCells kind coll reg ar an br bn vb ve).toArray ∧ Stms w B vb body ∧ Stms w B ve els

/-- All statements of some, those in others behind the ones that they are in, and how deep each lies. -/
def Stm.lines (deep : Nat) : Stm → List (Stm × Nat)
  | .mk kind coll reg ar an br bn body els => (.mk kind coll reg ar an br bn body els, deep) :: (lines_ (deep + 1) body ++ lines_ (deep + 1) els)
where lines_ (deep : Nat) : List Stm → List (Stm × Nat)
  | [] => []
  | s :: l => s.lines deep ++ lines_ deep l
abbrev sizes := Stm.size.sizes
abbrev linesOf := Stm.lines.lines_
theorem sizes_nil : sizes [] = 0 := rfl
theorem sizes_cons (s : Stm) (l : List Stm) : sizes (s :: l) = s.size + sizes l := rfl
theorem size_mk (a1 a2 a3 a4 a5 a6 a7 : Int) (b e : List Stm) : (Stm.mk a1 a2 a3 a4 a5 a6 a7 b e).size = 1 + sizes b + sizes e := by simp [Stm.size, sizes]
theorem lines_nil (d : Nat) : linesOf d [] = [] := rfl
theorem lines_cons (d : Nat) (s : Stm) (l : List Stm) : linesOf d (s :: l) = s.lines d ++ linesOf d l := rfl
theorem line_mk (d : Nat) (a1 a2 a3 a4 a5 a6 a7 : Int) (b e : List Stm) : (Stm.mk a1 a2 a3 a4 a5 a6 a7 b e).lines d = (.mk a1 a2 a3 a4 a5 a6 a7 b e, d) :: (linesOf (d + 1) b ++ linesOf (d + 1) e) := by simp [Stm.lines, linesOf]
theorem sizes_append (l m : List Stm) : sizes (l ++ m) = sizes l + sizes m := by
  induction l with
  | nil => simp [sizes_nil]
  | cons s l ih => rw [List.cons_append, sizes_cons, sizes_cons, ih]; omega
theorem lines_append (d : Nat) (l m : List Stm) : linesOf d (l ++ m) = linesOf d l ++ linesOf d m := by
  induction l with
  | nil => rfl
  | cons s l ih => rw [List.cons_append, lines_cons, lines_cons, ih, List.append_assoc]
theorem sizes_get {l : List Stm} {k : Nat} {s : Stm} (h : l[k]? = some s) : s.size ≤ sizes l := by
  induction l generalizing k with
  | nil => simp at h
  | cons a l ih =>
    rw [sizes_cons]
    cases k with
    | zero => simp at h; subst h; omega
    | succ k => have := ih (by simpa using h); omega
theorem lines_take {l : List Stm} {k : Nat} {s : Stm} (d : Nat) (h : l[k]? = some s) : linesOf d (l.take (k + 1)) = linesOf d (l.take k) ++ s.lines d := by
  have : l.take (k + 1) = l.take k ++ [s] := by
    rw [List.take_add_one, h]; rfl
  rw [this, lines_append, lines_cons, lines_nil, List.append_nil]
theorem sizes_take {l : List Stm} {k : Nat} {s : Stm} (h : l[k]? = some s) : sizes (l.take (k + 1)) = sizes (l.take k) + s.size := by
  have : l.take (k + 1) = l.take k ++ [s] := by
    rw [List.take_add_one, h]; rfl
  rw [this, sizes_append, sizes_cons, sizes_nil]
  omega
theorem sizes_take_le (l : List Stm) (k : Nat) : sizes (l.take k) ≤ sizes l := by
  conv => rhs; rw [← List.take_append_drop k l, sizes_append]
  omega
end Go.Proofs.YtfbeaklplefojaaGreatDoor

namespace Go.Proofs.YtfbeaklplefojaaGreatDoor.Ev
open Assoc MP

/-- A transaction that is done. -/
structure RS where
  s : MS
  regs : List Int
  told : List Int
  steps : Nat
def modI (n m : Int) : Int := (n.tmod m + m).tmod m
def argV (r : RS) (a n : Int) : Int := if a = 0 then n else IntKind.i64.wrap (r.regs.getD a.toNat 0 + n)
def keyV (r : RS) (a n : Int) : Int := modI (argV r a n) 64
def valV (r : RS) (a n : Int) : Int := modI (argV r a n) 1000
def tell (r : RS) (reg v : Int) : RS := { r with regs := r.regs.set reg.toNat v, told := r.told ++ [v] }
def flatP (l : AL) : List Int := l.flatMap fun p => [p.1, p.2]
/-- How it ends: 0 it goes on, 2 aborted, 3 blocked, 4 too many steps, 5 no room. -/
def askR (k c reg ar an br bn : Int) (r : RS) : RS × Int :=
  if k = 1 then (tell r reg ((get (coll r.s c.toNat) (keyV r ar an)).getD (-1)), 0)
  else if k = 4 then (tell r reg (if (get (coll r.s c.toNat) (keyV r ar an)).isSome then 1 else 0), 0)
  else if k = 2 then (if putE (coll r.s c.toNat) (keyV r ar an) = 0 then ({ r with s := mPut r.s c.toNat (keyV r ar an) (valV r br bn) }, 0) else (r, 5))
  else if k = 3 then ({ r with s := mDel r.s c.toNat (keyV r ar an) }, 0)
  else if k = 5 then (tell r reg (coll r.s c.toNat).length, 0)
  else if k = 6 then (tell r reg ((ceilL (coll r.s c.toNat) (keyV r ar an)).getD (-1)), 0)
  else if k = 7 then (tell r reg (rangeL (coll r.s c.toNat) (keyV r ar an) (keyV r br bn)), 0)
  else ({ r with told := r.told ++ ((coll r.s c.toNat).length : Int) :: flatP (coll r.s c.toNat) }, 0)
/-- Some, so often. -/
def iterR (f : RS → RS × Int) : Nat → RS → RS × Int
  | 0, r => (r, 0)
  | n + 1, r => if (f r).2 = 0 then iterR f n (f r).1 else f r
def ev : Stm → RS → RS × Int
  | .mk k c reg ar an br bn b e => fun r =>
    if k = 9 then ({ r with regs := r.regs.set reg.toNat (valV r ar an) }, 0)
    else if k = 10 then ({ r with regs := r.regs.set reg.toNat (modI (IntKind.i64.wrap (argV r ar an + argV r br bn)) 1000) }, 0)
    else if k = 11 then (if valV r ar an < valV r br bn then evL b r else evL e r)
    else if k = 12 then iterR (evL b) an.toNat r
    else if k = 13 then (if (evL b r).2 = 2 then ({ (evL b r).1 with s := r.s }, 0) else evL b r)
    else if k = 14 then (if (evL b r).2 = 3 then evL e { r with steps := (evL b r).1.steps } else evL b r)
    else if k = 15 then (r, 3)
    else if k = 16 then (r, 2)
    else askR k c reg ar an br bn r
where evL : List Stm → RS → RS × Int
  | [] => fun r => (r, 0)
  | x :: l => fun r => if 1000 ≤ r.steps then (r, 4) else if (ev x { r with steps := r.steps + 1 }).2 = 0 then evL l (ev x { r with steps := r.steps + 1 }).1 else ev x { r with steps := r.steps + 1 }
abbrev evL := ev.evL
theorem evL_nil (r : RS) : evL [] r = (r, 0) := by unfold evL ev.evL; rfl
theorem evL_cons (x : Stm) (l : List Stm) (r : RS) : evL (x :: l) r = if 1000 ≤ r.steps then (r, 4) else if (ev x { r with steps := r.steps + 1 }).2 = 0 then evL l (ev x { r with steps := r.steps + 1 }).1 else ev x { r with steps := r.steps + 1 } := by
  conv => lhs; unfold evL ev.evL
theorem ev_mk (k c reg ar an br bn : Int) (b e : List Stm) (r : RS) : ev (.mk k c reg ar an br bn b e) r = if k = 9 then ({ r with regs := r.regs.set reg.toNat (valV r ar an) }, 0)
    else if k = 10 then ({ r with regs := r.regs.set reg.toNat (modI (IntKind.i64.wrap (argV r ar an + argV r br bn)) 1000) }, 0)
    else if k = 11 then (if valV r ar an < valV r br bn then evL b r else evL e r)
    else if k = 12 then iterR (evL b) an.toNat r
    else if k = 13 then (if (evL b r).2 = 2 then ({ (evL b r).1 with s := r.s }, 0) else evL b r)
    else if k = 14 then (if (evL b r).2 = 3 then evL e { r with steps := (evL b r).1.steps } else evL b r)
    else if k = 15 then (r, 3)
    else if k = 16 then (r, 2)
    else askR k c reg ar an br bn r := by
  conv => lhs; unfold ev
theorem evL_append (l m : List Stm) : ∀ r, evL (l ++ m) r = if (evL l r).2 = 0 then evL m (evL l r).1 else evL l r := by
  induction l with
  | nil => intro r; rw [List.nil_append, evL_nil]; simp
  | cons x l ih =>
    intro r
    rw [List.cons_append, evL_cons, evL_cons]
    by_cases h1 : 1000 ≤ r.steps
    · rw [if_pos h1, if_pos h1]; simp
    · rw [if_neg h1, if_neg h1]
      by_cases h2 : (ev x { r with steps := r.steps + 1 }).2 = 0
      · rw [if_pos h2, if_pos h2, ih]
      · rw [if_neg h2, if_neg h2, if_neg h2]

/-- With more steps done ahead: the same, if it comes to its end. -/
def up (r : RS) (d : Nat) : RS := { r with steps := r.steps + d }
def Shift (f : RS → RS × Int) : Prop := ∀ r d, (f (up r d)).2 ≠ 4 → f (up r d) = (up (f r).1 d, (f r).2)
theorem up_steps (r : RS) (d n : Nat) : ({ up r d with steps := (up r d).steps + n } : RS) = up { r with steps := r.steps + n } d := by
  unfold up
  simp only
  rw [show r.steps + d + n = r.steps + n + d by omega]
theorem shift_iter {f : RS → RS × Int} (h : Shift f) : ∀ n, Shift (iterR f n)
  | 0 => fun r d _ => rfl
  | n + 1 => fun r d hne => by
    unfold iterR at hne ⊢
    by_cases h4 : (f (up r d)).2 = 4
    · rw [if_neg (by omega)] at hne; exact absurd h4 hne
    · have e := h r d h4
      rw [e] at hne ⊢
      simp only at hne ⊢
      by_cases h0 : (f r).2 = 0
      · rw [if_pos h0] at hne ⊢
        rw [if_pos h0]
        exact shift_iter h n _ _ hne
      · rw [if_neg h0, if_neg h0]
theorem shift_ask (k c reg ar an br bn : Int) : Shift (askR k c reg ar an br bn) := fun r d _ => by
  unfold askR
  have e1 : ∀ a n, argV (up r d) a n = argV r a n := fun a n => rfl
  have e2 : ∀ a n, keyV (up r d) a n = keyV r a n := fun a n => rfl
  have e3 : ∀ a n, valV (up r d) a n = valV r a n := fun a n => rfl
  have e4 : (up r d).s = r.s := rfl
  simp only [e2, e3, e4]
  repeat' split
  all_goals rfl
mutual
theorem shift_ev : ∀ x : Stm, Shift (ev x)
  | .mk k c reg ar an br bn b e => fun r d hne => by
    have hb := shift_evL b
    have he := shift_evL e
    rw [ev_mk] at hne ⊢
    rw [ev_mk]
    have e3 : ∀ a n, valV (up r d) a n = valV r a n := fun a n => rfl
    have e1 : ∀ a n, argV (up r d) a n = argV r a n := fun a n => rfl
    by_cases h9 : k = 9
    · rw [if_pos h9, if_pos h9]; rfl
    rw [if_neg h9] at hne ⊢
    rw [if_neg h9]
    by_cases h10 : k = 10
    · rw [if_pos h10, if_pos h10]; rfl
    rw [if_neg h10] at hne ⊢
    rw [if_neg h10]
    by_cases h11 : k = 11
    · rw [if_pos h11] at hne ⊢
      rw [if_pos h11]
      rw [e3, e3] at hne ⊢
      by_cases hv : valV r ar an < valV r br bn
      · rw [if_pos hv] at hne ⊢
        rw [if_pos hv]
        exact hb r d hne
      · rw [if_neg hv] at hne ⊢
        rw [if_neg hv]
        exact he r d hne
    rw [if_neg h11] at hne ⊢
    rw [if_neg h11]
    by_cases h12 : k = 12
    · rw [if_pos h12] at hne ⊢
      rw [if_pos h12]
      exact shift_iter hb _ r d hne
    rw [if_neg h12] at hne ⊢
    rw [if_neg h12]
    by_cases h13 : k = 13
    · rw [if_pos h13] at hne ⊢
      rw [if_pos h13]
      by_cases h4 : (evL b (up r d)).2 = 4
      · rw [if_neg (by omega)] at hne; exact absurd h4 hne
      · have e := hb r d h4
        rw [e]
        simp only
        by_cases h2 : (evL b r).2 = 2
        · rw [if_pos h2, if_pos h2]; rfl
        · rw [if_neg h2, if_neg h2]
    rw [if_neg h13] at hne ⊢
    rw [if_neg h13]
    by_cases h14 : k = 14
    · rw [if_pos h14] at hne ⊢
      rw [if_pos h14]
      by_cases h4 : (evL b (up r d)).2 = 4
      · rw [if_neg (by omega)] at hne; exact absurd h4 hne
      · have e := hb r d h4
        rw [e] at hne ⊢
        simp only at hne ⊢
        by_cases h3 : (evL b r).2 = 3
        · rw [if_pos h3] at hne ⊢
          rw [if_pos h3]
          exact he { r with steps := (evL b r).1.steps } d hne
        · rw [if_neg h3, if_neg h3]
    rw [if_neg h14] at hne ⊢
    rw [if_neg h14]
    by_cases h15 : k = 15
    · rw [if_pos h15, if_pos h15]
    rw [if_neg h15] at hne ⊢
    rw [if_neg h15]
    by_cases h16 : k = 16
    · rw [if_pos h16, if_pos h16]
    rw [if_neg h16] at hne ⊢
    rw [if_neg h16]
    exact shift_ask k c reg ar an br bn r d hne
theorem shift_evL : ∀ l : List Stm, Shift (evL l)
  | [] => fun r d _ => by rw [evL_nil, evL_nil]
  | x :: l => fun r d hne => by
    have hx := shift_ev x
    have hl := shift_evL l
    rw [evL_cons] at hne ⊢
    by_cases hs : 1000 ≤ (up r d).steps
    · rw [if_pos hs] at hne; exact absurd rfl hne
    · have hs' : ¬ 1000 ≤ r.steps := fun h => hs (by show 1000 ≤ r.steps + d; omega)
      rw [if_neg hs, up_steps] at hne ⊢
      rw [evL_cons, if_neg hs']
      by_cases h4 : (ev x (up { r with steps := r.steps + 1 } d)).2 = 4
      · rw [if_neg (by omega)] at hne; exact absurd h4 hne
      · have e := hx _ d h4
        rw [e] at hne ⊢
        simp only at hne ⊢
        by_cases h0 : (ev x { r with steps := r.steps + 1 }).2 = 0
        · rw [if_pos h0] at hne ⊢
          rw [if_pos h0]
          exact hl _ d hne
        · rw [if_neg h0, if_neg h0]
end
end Go.Proofs.YtfbeaklplefojaaGreatDoor.Ev

namespace Go.Proofs.YtfbeaklplefojaaGreatDoor
open Go.RowKit Assoc MP
attribute [local go_sem] litStep_value

theorem take_snoc5 {α : Type} {L : List α} {k : Nat} {x : α} (h : L[k]? = some x) : L.take (k + 1) = L.take k ++ [x] := by
  obtain ⟨hk, rfl⟩ := List.getElem?_eq_some_iff.1 h
  exact List.take_succ_eq_append_getElem hk
/-- A new map, a new block that holds one: facts that last where nothing turns. -/
def mapSpec (H : Nat) (f : Int → Option Value) (n : Nat) : Spec := ⟨fun _ => [], fun v w => ∃ m, v = .map (some m) ∧ H ≤ m ∧ IMap w .i64 m f n, fun v => ∃ m, v = .map (some m)⟩
def litMap (H : Nat) (f : Int → Option Value) (n : Nat) : Spec := ⟨fun _ => [], fun v w => ∃ g m, v = .slice (some ⟨g, 0, none⟩) 1 1 ∧ Blk w g 77 #[.map (some m)] ∧ H ≤ m ∧ IMap w .i64 m f n, fun v => ∃ g, v = .slice (some ⟨g, 0, none⟩) 1 1⟩
theorem lasts_mapSpec (w0 : World) (H : Nat) (f : Int → Option Value) (n : Nat) : Lasts0 w0 (mapSpec H f n) :=
  ⟨fun v w w' _ ⟨m, h1, h2, h3⟩ hu => ⟨m, h1, h2, h3.upd hu (by simp)⟩, ⟨_, 0, rfl⟩, fun _ _ ⟨m, h, _⟩ => ⟨m, h⟩⟩
theorem lasts_litMap (w0 : World) (H : Nat) (f : Int → Option Value) (n : Nat) : Lasts0 w0 (litMap H f n) :=
  ⟨fun v w w' _ ⟨g, m, h1, h2, h3, h4⟩ hu => ⟨g, m, h1, h2.upd hu (by simp), h3, h4.upd hu (by simp)⟩, ⟨_, 0, rfl⟩, fun _ _ ⟨g, _, h, _⟩ => ⟨g, h⟩⟩
/-- The copy so far. -/
structure CopySt (sb1 : Nat) (s : MS) (vk : Value) (gc cc : Nat) (ms : List Nat) (k : Nat) (w0 w : World) : Prop where
  st : MdlSt w0.heap.size sb1 vk gc cc ms w { s with L := s.L.take k }
  u : Upd [] w0 w
def MCopyPost (s : MS) (w : World) (e : Ending) (w' : World) : Prop := ∃ sb F, e = .returned (.pointer (some ⟨sb, 0, none⟩)) ∧ Mdl w.heap.size sb F w' s ∧ Upd [] w w'
set_option maxRecDepth 100000 in
set_option maxHeartbeats 4000000 in
theorem m_copy (B sb : Nat) (F : List Nat) (s : MS) (w : World) (h : Mdl B sb F w s) :
    Calls Tryz.prog 22 #[.pointer (some ⟨sb, 0, none⟩)] w fun e w' => MCopyPost s w e w' := by
  have eq0 := @Lib.run_eql_slice_nil Tryz.prog
  obtain ⟨g, vk, gc, cc, ms, hF, h⟩ := h
  have HG := Lib.hid g
  have HS := Lib.hid h
  obtain ⟨n, hn⟩ : ∃ n, s.L.length = n := ⟨_, rfl⟩
  have HN := Lib.hid hn
  have hn8 : n ≤ 8 := by rw [← hn, ← g.kl]; exact g.k8
  have K8 := Lib.hid g.k8
  obtain ⟨Ak, ck, rfl, hnk, _⟩ := own_slice HS.out.k
  have HB : Hid (Blk w sb 75 #[.slice Ak s.K.length ck, .slice (some ⟨gc, 0, none⟩) n cc]) := Lib.hid (by rw [← hn]; exact h.box)
  have OC : Hid (w.ownsRow B 77 1 (.slice (some ⟨gc, 0, none⟩) n cc) n (mapsV ms)) := Lib.hid (by rw [← hn]; exact h.c)
  have c0 : w.cell? ⟨sb, 0, none⟩ = some (.slice Ak s.K.length ck) := HB.out.cell 0
  have c1 : w.cell? ⟨sb, 1, none⟩ = some (.slice (some ⟨gc, 0, none⟩) n cc) := HB.out.cell 1
  clear g h hF hn
  go_enter Tryz.func22, Tryz.ntmps22
  go_wp2_with fail
  refine (clone_ints Ak s.K.length ck s.K w HS.out.k.rd rfl (by have := K8.out; omega)).mono ?_
  rintro e w1 ⟨v, rfl, o1, u1⟩
  obtain ⟨A1, k1, rfl, _, _⟩ := own_slice o1
  have O1 := Lib.hid o1
  have U1 := Lib.hid u1
  clear o1 u1 c0 c1
  have UX : Hid (Upd [] w1 ((w1.alloc (.cells #[] 77)).alloc (.cells #[.slice A1 s.K.length k1, .slice (some ⟨w1.heap.size, 0, none⟩) 0 0] 75))) := Lib.hid (((Upd.refl [] w1).alloc _).alloc _)
  have cx : ((w1.alloc (.cells #[] 77)).alloc (.cells #[.slice A1 s.K.length k1, .slice (some ⟨w1.heap.size, 0, none⟩) 0 0] 75)).cell? ⟨sb, 1, none⟩ = some (.slice (some ⟨gc, 0, none⟩) n cc) := (HB.out.upd (U1.out.trans UX.out) (by simp)).cell 1
  have h2 : (w1.alloc (.cells #[] 77)).heap.size = w1.heap.size + 1 := by simp
  have C0 : Hid (MdlSt w.heap.size (w1.heap.size + 1) (.slice A1 s.K.length k1) w1.heap.size 0 [] ((w1.alloc (.cells #[] 77)).alloc (.cells #[.slice A1 s.K.length k1, .slice (some ⟨w1.heap.size, 0, none⟩) 0 0] 75)) { s with L := s.L.take 0 }) := Lib.hid ⟨Blk.newAt 75 _ h2, O1.out.upd0 UX.out, own_made 1 ((Blk.new w1 77 #[]).upd ((Upd.refl [] _).alloc _) (by simp)) U1.out.size, by simp, .nil, by have := U1.out.size; omega, by simp⟩
  go_wp2_with fail
  generalize ((w1.alloc (.cells #[] 77)).alloc (.cells #[.slice A1 s.K.length k1, .slice (some ⟨w1.heap.size, 0, none⟩) 0 0] 75)) = w2 at *
  have U2 := Lib.hid (U1.out.trans UX.out)
  obtain ⟨ob, hob⟩ : ∃ ob, w1.heap.size + 1 = ob := ⟨_, rfl⟩
  have hob2 : (w1.alloc (.cells #[] 77)).heap.size = ob := by rw [h2, hob]
  rw [hob] at C0
  try rw [h2]
  try rw [hob]
  clear h2 hob2 hob cx UX
  go_loopw [28] (fun v wr => ∃ k : Nat, v = .int .i64 k ∧ k ≤ n ∧ Hid ((∃ gc1 cc1 ms1, MdlSt w.heap.size ob (.slice A1 s.K.length k1) gc1 cc1 ms1 wr { s with L := s.L.take k }) ∧ Upd [] w wr)) (fun v _ => n - (intOf v).toNat)
  case atStart => exact ⟨0, rfl, by omega, Lib.hid ⟨⟨_, _, _, C0.out⟩, U2.out⟩⟩
  case round =>
    obtain ⟨k, rfl, hk, HK⟩ := hrel
    obtain ⟨⟨gc1, cc1, ms1, hst⟩, hu⟩ := HK.out
    rename World => wi
    have ST := Lib.hid hst
    have UI := Lib.hid hu
    have LK : Hid ((s.L.take k).length = k) := Lib.hid (by rw [List.length_take, HN.out]; omega)
    clear HK hst hu C0
    by_cases hkn : k < n
    · obtain ⟨m, hm, him⟩ := (HS.out.upd UI.out (by simp)).at_ (i := k) (by rw [HN.out]; exact hkn)
      have HIM := Lib.hid him
      have LT := Lib.hid (take_snoc5 (coll_get (s := s) (i := k) (by rw [HN.out]; exact hkn)))
      have e0 : wi.cell? ⟨gc, k, none⟩ = some (.map (some m)) := own_cell (own_upd0 OC.out UI.out) k _ (by unfold mapsV; rw [List.getElem?_map, hm]; rfl)
      have q1 : (0 : Int) ≤ (k : Int) := by omega
      have q2 : (k : Int) < (n : Int) := by omega
      have OB : Hid (Blk wi ob 75 #[.slice A1 s.K.length k1, .slice (some ⟨gc1, 0, none⟩) k cc1]) := Lib.hid (by have := ST.out.box; rw [show ({ s with L := s.L.take k } : MS).L.length = k from LK.out] at this; exact this)
      have ON : Hid (wi.ownsRow w.heap.size 77 1 (.slice (some ⟨gc1, 0, none⟩) k cc1) k (mapsV ms1)) := Lib.hid (by have := ST.out.c; rw [show ({ s with L := s.L.take k } : MS).L.length = k from LK.out] at this; exact this)
      clear hm him
      go_wp2_with fail
      have CS : Hid (∀ W, Upd [] wi.drew W → W.cell? ⟨ob, 1, none⟩ = some (.slice (some ⟨gc1, 0, none⟩) k cc1)) := Lib.hid (fun W hW => (OB.out.upd ((Upd.refl [] wi).drew.trans hW) (by simp)).cell 1)
      refine wp_invNT0 8 [(6, mapSpec wi.heap.size (mapI (coll s k)) (coll s k).length), (7, litMap wi.heap.size (mapI (coll s k)) (coll s k).length)] (by kernel_rfl) (by simp) (by kernel_rfl) (by kernel_rfl) ⟨lasts_mapSpec _ _ _ _, lasts_litMap _ _ _ _, trivial⟩ ?_
      simp only [List.take_succ_cons, List.take_zero, List.drop_succ_cons, List.drop_zero]
      with_reducible apply wpV_light
      · simp only [lightOp]
      · intro W hU hF
        have f0 := CS.out W hU
        clear hU hF
        go_simp
        exact rfl
      simp only [Act.put, List.setIfInBounds_toArray, List.set_cons_zero, List.set_cons_succ]
      with_reducible apply wpV_light
      · simp only [lightOp]
      · intro W hU hF
        have f0 := CS.out W hU
        clear hU hF
        go_simp
        exact rfl
      simp only [Act.put, List.setIfInBounds_toArray, List.set_cons_zero, List.set_cons_succ]
      with_reducible apply wpV_light
      · simp only [lightOp]
      · intro W hU hF
        have f0 := CS.out W hU
        clear hU hF
        go_simp
        exact rfl
      simp only [Act.put, List.setIfInBounds_toArray, List.set_cons_zero, List.set_cons_succ]
      with_reducible apply wpV_light
      · simp only [lightOp]
      · intro W hU hF
        have f0 := CS.out W hU
        clear hU hF
        go_simp
        exact rfl
      simp only [Act.put, List.setIfInBounds_toArray, List.set_cons_zero, List.set_cons_succ]
      with_reducible apply wpV_light
      · simp only [lightOp]
      · intro W hU hF
        have f0 := CS.out W hU
        clear hU hF
        go_simp
        exact rfl
      simp only [Act.put, List.setIfInBounds_toArray, List.set_cons_zero, List.set_cons_succ]
      with_reducible apply wpV_light
      · simp only [lightOp]
      · intro W hU hF
        have f0 := CS.out W hU
        clear hU hF
        go_simp
        exact rfl
      simp only [Act.put, List.setIfInBounds_toArray, List.set_cons_zero, List.set_cons_succ]
      refine wpV_heavy (by simp only [lightOp]) (by rfl) (fun W hU hk hF K hK => ?_) ?_
      · go_wp2_with fail
        refine (clone_map m _ _ _ (HIM.out.upd ((Upd.refl [] wi).drew.trans hU) (by simp))).mono ?_
        rintro e w5 ⟨rfl, im5, u5, -⟩
        go_wp2_with fail
        exact hK.out _ _ (outV_new rfl ⟨_, rfl, ((Upd.refl [] wi).drew.trans hU).size, im5⟩ (by intro b hb; cases hb) u5)
      rintro _ ⟨m6, rfl⟩
      simp only [Act.put, List.setIfInBounds_toArray, List.set_cons_zero, List.set_cons_succ]
      refine wpV_heavy (by simp only [lightOp]) (by rfl) (fun W hU hk hF K hK => ?_) ?_
      · have h6 := hF.out.1 (by kernel_rfl)
        go_wp2_with fail
        obtain ⟨m', e6, h6a, h6b⟩ := h6
        injection e6 with e6
        injection e6 with e6
        subst e6
        exact hK.out _ _ (outV_new rfl ⟨_, m6, rfl, Blk.new _ _ _, h6a, h6b.upd ((Upd.refl [] _).alloc _) (by simp)⟩ (by intro b hb; cases hb) ((Upd.refl [] _).alloc _))
      rintro _ ⟨g5, rfl⟩
      simp only [Act.put, List.setIfInBounds_toArray, List.set_cons_zero, List.set_cons_succ]
      refine wpV_end (fun W hU _ hF => ?_)
      have U6 : Hid (Upd [] wi W) := Lib.hid ((Upd.refl [] wi).drew.trans hU)
      obtain ⟨g5', m5, e5, hb5, hm5, him5⟩ := hF.out.2.1 (by kernel_rfl)
      injection e5 with e5 _ _
      injection e5 with e5
      injection e5 with e5
      subst e5
      have HB5 := Lib.hid hb5
      have HM5 := Lib.hid hm5
      have IM5 := Lib.hid him5
      clear hU hF hb5 hm5 him5
      have S5 : Hid (w.heap.size ≤ W.heap.size) := Lib.hid (UI.out.trans U6.out).size
      refine wpT_op (by rfl) (fun K hK => ?_)
      refine wp_app W (.tmp 36) (.tmp 39) _ (by rfl) elem_map (.slice (some ⟨gc1, 0, none⟩) k cc1) _ (by rfl) (by rfl) (own_upd0 ON.out U6.out) (.of_blk HB5.out (m := 1) 1 rfl) (by intro u hu; simp at hu; subst hu; rfl) (by simp only [maxLen]; omega) (by omega) S5.out ?_
      intro v7 w7 o7 u7 b7
      have O7N : Hid (w7.ownsRow w.heap.size 77 1 v7 (k + 1) (mapsV ms1 ++ [.map (some m5)])) := Lib.hid o7
      have U7 := Lib.hid u7
      obtain ⟨g7, c7, cur7, rfl, _⟩ := own_form O7N.out (by omega)
      refine hK.out _ _ ?_
      clear hK K
      simp only [Act.put, List.setIfInBounds_toArray, List.set_cons_zero, List.set_cons_succ]
      have OB7 := Lib.hid ((OB.out.upd U6.out (by simp)).upd u7 (by intro hm; exact own_type ON.out OB.out (by decide) (by simpa using hm)))
      clear o7 u7 b7
      have z3 : w7.cell? ⟨ob, 1, none⟩ = some (.slice (some ⟨gc1, 0, none⟩) k cc1) := OB7.out.cell 1
      have z4 : w7.frozen? ⟨ob, 1, none⟩ = false := OB7.out.frozen 1
      have z5 : ob < w7.heap.size := OB7.out.lt
      refine wpT_op (by rfl) (fun K hK => ?_)
      go_wp2_with fail
      refine hK.out _ _ ?_
      clear hK K
      try simp only [Act.put, List.setIfInBounds_toArray, List.set_cons_zero, List.set_cons_succ]
      refine wpT_op (by rfl) (fun K hK => ?_)
      go_wp2_with fail
      refine hK.out _ _ ?_
      clear hK K
      try simp only [Act.put, List.setIfInBounds_toArray, List.set_cons_zero, List.set_cons_succ]
      refine wpT_op (by rfl) (fun K hK => ?_)
      go_wp2_with fail
      refine hK.out _ _ ?_
      clear hK K
      try simp only [Act.put, List.setIfInBounds_toArray, List.set_cons_zero, List.set_cons_succ]
      refine wpT_end ?_
      have U8 : Hid (Upd [ob] w7 (w7.setCell ⟨ob, 1, none⟩ (.slice (some ⟨g7, 0, none⟩) (k + 1) c7))) := Lib.hid ((Upd.refl [ob] w7).setCell (.inl (by simp)) _)
      have ST8 : Hid (∃ gc1 cc1 ms1, MdlSt w.heap.size ob (.slice A1 s.K.length k1) gc1 cc1 ms1 (w7.setCell ⟨ob, 1, none⟩ (.slice (some ⟨g7, 0, none⟩) (k + 1) c7)) { s with L := s.L.take (k + 1) }) := Lib.hid (by
        have UT : Upd [ob, gc1] wi (w7.setCell ⟨ob, 1, none⟩ (.slice (some ⟨g7, 0, none⟩) (k + 1) c7)) := ((U6.out.mono (by simp)).trans (U7.out.mono (by intro y hy; simp [Value.ownBlock] at hy; subst hy; exact .inl (by simp)))).trans (U8.out.mono (by simp))
        have IMX : IMap (w7.setCell ⟨ob, 1, none⟩ (.slice (some ⟨g7, 0, none⟩) (k + 1) c7)) .i64 m5 (mapI (coll s k)) (coll s k).length := by
          have im7 := IM5.out.upd U7.out (by simp [Value.ownBlock]; intro e; have := (own_lt ON.out (b := gc1) rfl).2; have := HM5.out; omega)
          exact im7.upd U8.out (by simp; intro e; have := OB.out.lt; have := HM5.out; omega)
        have hp := ST.out.push (m := m5) (l := coll s k) (gc' := g7) (cc' := c7) UT (by rw [show ({ s with L := s.L.take k } : MS).L.length = k from LK.out]; exact OB7.out.set_eq rfl) (by rw [show ({ s with L := s.L.take k } : MS).L.length = k from LK.out]; exact own_upd O7N.out U8.out (by intro b hb; simp; rintro rfl; exact own_type O7N.out OB7.out (by decide) hb)) IMX HM5.out (Nat.le_trans UI.out.size HM5.out)
        rw [LT.out]
        exact ⟨_, _, _, hp⟩)
      have UI8 : Hid (Upd [] w (w7.setCell ⟨ob, 1, none⟩ (.slice (some ⟨g7, 0, none⟩) (k + 1) c7))) := Lib.hid (by
        have h1 := (UI.out.trans U6.out).trans' U7.out (fun x hx => .inr (own_lt ON.out (by simpa using hx)).1)
        exact h1.trans' U8.out (fun x hx => by simp at hx; subst hx; exact .inr ST.out.bs))
      go_wp2_with fail
      go_roundw
      case rel => exact ⟨k + 1, by go_num, by omega, Lib.hid ⟨ST8.out, UI8.out⟩⟩
      case measure => simp [intOf]; omega
    · obtain rfl : k = n := by omega
      go_wp2_with fail
      go_ret
      unfold MCopyPost
      have hst := ST.out
      rw [show ({ s with L := s.L.take k } : MS) = s by rw [List.take_of_length_le (by rw [HN.out]; exact Nat.le_refl _)]] at hst
      exact ⟨ob, _, rfl, ⟨HG.out, _, _, _, _, rfl, hst⟩, UI.out⟩
end Go.Proofs.YtfbeaklplefojaaGreatDoor

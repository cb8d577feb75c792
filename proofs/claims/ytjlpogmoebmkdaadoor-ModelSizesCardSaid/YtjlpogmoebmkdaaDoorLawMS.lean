/-
  ModelSizes, the walk.
-/
import Derived.Test.YtjlpogmoebmkdaaDoorMRun
import Derived.Test.YtjlpogmoebmkdaaDoorMdl4
import Derived.Test.YtjlpogmoebmkdaaDoorMdl5
import Derived.Test.YtjlpogmoebmkdaaDoorMAlive
set_option linter.unusedVariables false
namespace Go.Proofs.YtjlpogmoebmkdaaDoor
open Go.RowKit Assoc MP
attribute [local go_sem] litStep_value

theorem rd_int {w : World} {A : Option Addr} {n c k : Nat} {L : List Int} {a : Int} (h : Rd encK w (.slice A n c) L) (hk : L[k]? = some a) : ∃ ad : Addr, A = some ad ∧ ad.block < w.heap.size ∧ w.cell? (ad.add k) = some (.int .i64 a) := by
  obtain ⟨ad, h1, h2, hc⟩ := h.at_ hk
  exact ⟨ad, h1, h2, by have := hc 0 _ rfl; rwa [show k * encK.s + 0 = k by simp [encI]] at this⟩
theorem getD_some {l : List Int} {i : Nat} {q : Int} (h : l[i]? = some q) : l.getD i 0 = q := by rw [List.getD_eq_getElem?_getD, h]; rfl
set_option maxRecDepth 100000 in
set_option maxHeartbeats 8000000 in
theorem law_msizes (A' : Option Addr) (m d : Nat) (ks : List Int) (A : Option Addr) (n c : Nat) (L : List MAct) (x : Int) (w : World) (hK : Rd encK w (.slice A' m d) ks) (hm : ks.length = m) (hA : Rd encA w (.slice A n c) L) (hn : L.length = n) (hkb : ∀ a ∈ L, kB a.2.2.1) (hg : Typed w) :
    Calls Tryd.prog 3 #[.slice A' m d, .slice A n c, .int .i64 x] w fun e w' => e = .returned (.bool true) ∧ Upd [] w w' := by
  have HG := Lib.hid hg
  have HA := Lib.hid hA
  have HK := Lib.hid hK
  have HN := Lib.hid hn
  have HM := Lib.hid hm
  have HKB := Lib.hid hkb
  clear hg hA hn hK hm hkb
  go_enter Tryd.func3, Tryd.ntmps3
  go_wp2_with fail
  refine (mplay_ok A A' m d n c ks L w w HK.out HM.out HA.out HN.out HKB.out HG.out (.refl _ _)).mono ?_; rintro e w1 h
  rcases h with ⟨rfl, u1⟩ | ⟨hb, h8, sb, F, rfl, s1, u1⟩
  · have U1 := Lib.hid u1
    clear u1
    go_wp2_with fail
    refine (m_alive w1).mono ?_; rintro e w9 ⟨rfl, u9⟩
    have U9 := Lib.hid (U1.out.trans u9)
    clear u9
    go_wp2_with fail
    go_ret
    exact ⟨rfl, U9.out⟩
  · have U1 := Lib.hid u1
    by_cases hm0 : m = 0
    · subst hm0
      clear u1 s1 hb h8
      go_wp2_with fail
      refine (m_alive w1).mono ?_; rintro e w9 ⟨rfl, u9⟩
      have U9 := Lib.hid (U1.out.trans u9)
      clear u9
      go_wp2_with fail
      go_ret
      exact ⟨rfl, U9.out⟩
    have dm : ((m : Int) == (0 : Int)) = false := by simpa using hm0
    have hm8 : m ≤ 8 := by rw [← HM.out]; exact h8
    obtain ⟨i, him, hix⟩ := turn_ix8 x m (by omega) hm8
    obtain ⟨s, hs⟩ : ∃ s, runM ks L = s := ⟨_, rfl⟩
    have SK : Hid (s.K = ks) := Lib.hid (by rw [← hs]; exact runM_K ks L)
    have SL : Hid (s.L.length = m) := Lib.hid (by rw [← hs, ← HM.out]; exact runM_len ks L)
    rw [hs] at s1
    have S1 := Lib.hid s1
    have GS := Lib.hid s1.1
    have HI : Hid (i < s.L.length) := Lib.hid (by rw [SL.out]; exact him)
    have HIC : Hid (isC s i = true) := Lib.hid (isC_nat HI.out)
    have hi0 : (0 : Int) ≤ (i : Int) := by omega
    have hi1 : (i : Int) < (m : Int) := by omega
    clear u1 s1 hb h8 hs
    have hmz : ¬ (m : Int) = 0 := by omega
    go_wp2_with fail
    refine (m_list w.heap.size sb F s i w1 S1.out).mono ?_
    rintro e w2 ⟨v2, e2, rfl, ev2, o2, u2⟩
    simp only [HIC.out, ↓reduceIte] at ev2
    obtain rfl := ev2.nils
    obtain ⟨l, hl⟩ : ∃ l, coll s i = l := ⟨_, rfl⟩
    have O2 : Hid (Ow encPr 36 w2 w1.heap.size v2 l) := Lib.hid (by have := o2; unfold listC at this; rw [HIC.out, Int.toNat_natCast, hl] at this; exact this)
    have HSR : Hid (Srt l) := Lib.hid (hl ▸ GS.out.srt _ (coll_mem HI.out))
    have HL8 : Hid (l.length ≤ 100) := Lib.hid (hl ▸ GS.out.len _ (coll_mem HI.out))
    have HBD : Hid (∀ p ∈ l, kB p.1) := Lib.hid (hl ▸ GS.out.kb _ (coll_mem HI.out))
    have HL := Lib.hid hl
    have U2 := Lib.hid (U1.out.trans u2)
    have S2 := Lib.hid (S1.out.upd0 u2)
    obtain ⟨N, hN⟩ : ∃ N, l.length = N := ⟨_, rfl⟩
    have HNN := Lib.hid hN
    have hN8 : N ≤ 100 := hN ▸ HL8.out
    obtain ⟨X, cx, rfl, _, _⟩ := own_slice O2.out
    rw [hN] at O2
    simp only [hN]
    clear ev2 o2 u2 U1 S1 hN hl
    go_wp2_with fail
    refine (m_size w.heap.size sb F s i w2 S2.out).mono ?_
    rintro e w3 ⟨e3, rfl, ev3, u3⟩
    simp only [HIC.out, ↓reduceIte, Int.toNat_natCast, HL.out, HNN.out] at ev3 ⊢
    obtain rfl := ev3.nils
    have O3 := Lib.hid (O2.out.upd0 u3)
    have U3 := Lib.hid (U2.out.trans u3)
    have S3 := Lib.hid (S2.out.upd0 u3)
    have d1 : ((N : Int) != (N : Int)) = false := by simp
    clear ev3 u3 O2 U2 S2
    go_wp2_with fail
    refine (no_nil w3).mono ?_; rintro e w' ⟨rfl, rfl⟩
    go_wp2_with fail
    refine (no_nil _).mono ?_; rintro e w' ⟨rfl, rfl⟩
    go_wp2_with fail
    go_loopw [70, 12] (fun v vx wr => ∃ k : Nat, v = .int .i64 k ∧ k ≤ N ∧ Hid (Upd [] w3 wr)) (fun v _ _ => N - (intOf v).toNat)
    case atStart => exact ⟨0, rfl, by omega, Lib.hid (.refl _ _)⟩
    case round =>
      obtain ⟨k, rfl, hk, UK⟩ := hrel
      rename World => wr
      by_cases hkN : k < N
      · obtain ⟨q, hq⟩ : ∃ q, l[k]? = some q := ⟨_, List.getElem?_eq_getElem (by rw [HNN.out]; omega)⟩
        obtain ⟨g, cg, cur, e1, -⟩ := own_form O3.out (by rw [HNN.out]; omega)
        injection e1 with e1 en e1'
        subst e1 e1'
        clear en
        obtain ⟨qk, qv⟩ := q
        have HQ := Lib.hid hq
        have q1 : (0 : Int) ≤ (k : Int) := by omega
        have q2 : (k : Int) < (N : Int) := by omega
        clear hq
        by_cases hk0 : k = 0
        · subst hk0
          have CS : Hid (∀ V, Upd [] wr.drew V → V.cell? ⟨g, 0, none⟩ = some (.int .i64 qk)) := Lib.hid (fun V hV => by
            have ho := O3.out.upd0 (UK.out.trans ((Upd.refl [] wr).drew.trans hV))
            exact ho.at_ HQ.out 0 _ rfl)
          go_wp2_with fail
          refine wp_invN [] [] (by kernel_rfl) (by kernel_rfl) (by kernel_rfl) trivial ?_
          with_reducible apply wpV_light
          · simp only [lightOp]
          · intro W hU hF
            have f0 := CS.out W hU
            clear hU hF
            go_simp
            exact rfl
          simp only [Act.put, List.setIfInBounds_toArray, List.set_cons_zero, List.set_cons_succ]
          with_reducible apply wpV_light
          · simp only [lightOp]
          · intro W hU hF
            have f0 := CS.out W hU
            clear hU hF
            go_simp
            exact rfl
          simp only [Act.put, List.setIfInBounds_toArray, List.set_cons_zero, List.set_cons_succ]
          with_reducible apply wpV_light
          · simp only [lightOp]
          · intro W hU hF
            have f0 := CS.out W hU
            clear hU hF
            go_simp
            exact rfl
          simp only [Act.put, List.setIfInBounds_toArray, List.set_cons_zero, List.set_cons_succ]
          refine wpV_skip (by rfl) (by simp only [lightOp]) ?_
          simp only [Act.put, List.setIfInBounds_toArray, List.set_cons_zero, List.set_cons_succ]
          refine wpV_skip (by rfl) (by simp only [lightOp]) ?_
          simp only [Act.put, List.setIfInBounds_toArray, List.set_cons_zero, List.set_cons_succ]
          refine wpV_skip (by rfl) (by simp only [lightOp]) ?_
          simp only [Act.put, List.setIfInBounds_toArray, List.set_cons_zero, List.set_cons_succ]
          refine wpV_skip (by rfl) (by simp only [lightOp]) ?_
          simp only [Act.put, List.setIfInBounds_toArray, List.set_cons_zero, List.set_cons_succ]
          refine wpV_skip (by rfl) (by simp only [lightOp]) ?_
          simp only [Act.put, List.setIfInBounds_toArray, List.set_cons_zero, List.set_cons_succ]
          refine wpV_skip (by rfl) (by simp only [lightOp]) ?_
          simp only [Act.put, List.setIfInBounds_toArray, List.set_cons_zero, List.set_cons_succ]
          refine wpV_skip (by rfl) (by simp only [lightOp]) ?_
          simp only [Act.put, List.setIfInBounds_toArray, List.set_cons_zero, List.set_cons_succ]
          refine wpV_skip (by rfl) (by simp only [lightOp]) ?_
          simp only [Act.put, List.setIfInBounds_toArray, List.set_cons_zero, List.set_cons_succ]
          refine wpV_skip (by rfl) (by simp only [lightOp]) ?_
          simp only [Act.put, List.setIfInBounds_toArray, List.set_cons_zero, List.set_cons_succ]
          refine wpV_skip (by rfl) (by simp only [lightOp]) ?_
          simp only [Act.put, List.setIfInBounds_toArray, List.set_cons_zero, List.set_cons_succ]
          refine wpV_skip (by rfl) (by simp only [lightOp]) ?_
          simp only [Act.put, List.setIfInBounds_toArray, List.set_cons_zero, List.set_cons_succ]
          refine wpV_skip (by rfl) (by simp only [lightOp]) ?_
          simp only [Act.put, List.setIfInBounds_toArray, List.set_cons_zero, List.set_cons_succ]
          with_reducible apply wpV_light
          · simp only [lightOp]
          · intro W hU hF
            have f0 := CS.out W hU
            clear hU hF
            go_simp
            exact rfl
          simp only [Act.put, List.setIfInBounds_toArray, List.set_cons_zero, List.set_cons_succ]
          refine wpV_end (fun W hU _ _ => ?_)
          have U9 : Hid (Upd [] w3 W) := Lib.hid (UK.out.trans ((Upd.refl [] wr).drew.trans hU))
          clear hU
          refine wpT_end ?_
          go_wp2_with fail
          go_roundw
          case rel => exact ⟨0 + 1, by go_num, by omega, U9⟩
          case measure => simp [intOf]; omega
        · obtain ⟨j, hj⟩ : ∃ j, j + 1 = k := ⟨k - 1, by omega⟩
          obtain ⟨⟨pk, pv⟩, hp⟩ : ∃ p, l[j]? = some p := ⟨_, List.getElem?_eq_getElem (by rw [HNN.out]; omega)⟩
          have hpq : pk < qk := srt_lt HSR.out hp HQ.out (by omega)
          have d3 : decide (qk ≤ pk) = false := by simp; omega
          have q5 : (k : Int) - 1 = (j : Int) := by omega
          have q6 : (0 : Int) ≤ (j : Int) := by omega
          have q5w : IntKind.i64.wrap (j : Int) = (j : Int) := by rw [IntKind.wrap_i64]; omega
          have q7 : (j : Int) < (N : Int) := by omega
          have q8 : (0 : Int) < (k : Int) := by omega
          have q9 : 0 < k := by omega
          have CS : Hid (∀ V, Upd [] wr.drew V → V.cell? ⟨g, k * 2, none⟩ = some (.int .i64 qk) ∧ V.cell? ⟨g, j * 2, none⟩ = some (.int .i64 pk)) := Lib.hid (fun V hV => by
            have ho := O3.out.upd0 (UK.out.trans ((Upd.refl [] wr).drew.trans hV))
            exact ⟨ho.at_ HQ.out 0 _ rfl, ho.at_ hp 0 _ rfl⟩)
          clear hp
          go_wp2_with fail
          refine wp_invN [] [] (by kernel_rfl) (by kernel_rfl) (by kernel_rfl) trivial ?_
          with_reducible apply wpV_light
          · simp only [lightOp]
          · intro W hU hF
            have f0 := CS.out W hU
            clear hU hF
            go_simp
            exact rfl
          simp only [Act.put, List.setIfInBounds_toArray, List.set_cons_zero, List.set_cons_succ]
          with_reducible apply wpV_light
          · simp only [lightOp]
          · intro W hU hF
            have f0 := CS.out W hU
            clear hU hF
            go_simp
            exact rfl
          simp only [Act.put, List.setIfInBounds_toArray, List.set_cons_zero, List.set_cons_succ]
          with_reducible apply wpV_light
          · simp only [lightOp]
          · intro W hU hF
            have f0 := CS.out W hU
            clear hU hF
            go_simp
            exact rfl
          simp only [Act.put, List.setIfInBounds_toArray, List.set_cons_zero, List.set_cons_succ]
          with_reducible apply wpV_light
          · simp only [lightOp]
          · intro W hU hF
            have f0 := CS.out W hU
            clear hU hF
            go_simp
            exact rfl
          simp only [Act.put, List.setIfInBounds_toArray, List.set_cons_zero, List.set_cons_succ]
          with_reducible apply wpV_light
          · simp only [lightOp]
          · intro W hU hF
            have f0 := CS.out W hU
            clear hU hF
            go_simp
            exact rfl
          simp only [Act.put, List.setIfInBounds_toArray, List.set_cons_zero, List.set_cons_succ]
          with_reducible apply wpV_light
          · simp only [lightOp]
          · intro W hU hF
            have f0 := CS.out W hU
            clear hU hF
            go_simp
            exact rfl
          simp only [Act.put, List.setIfInBounds_toArray, List.set_cons_zero, List.set_cons_succ]
          with_reducible apply wpV_light
          · simp only [lightOp]
          · intro W hU hF
            have f0 := CS.out W hU
            clear hU hF
            go_simp
            exact rfl
          simp only [Act.put, List.setIfInBounds_toArray, List.set_cons_zero, List.set_cons_succ]
          with_reducible apply wpV_light
          · simp only [lightOp]
          · intro W hU hF
            have f0 := CS.out W hU
            clear hU hF
            go_simp
            exact rfl
          simp only [Act.put, List.setIfInBounds_toArray, List.set_cons_zero, List.set_cons_succ]
          with_reducible apply wpV_light
          · simp only [lightOp]
          · intro W hU hF
            have f0 := CS.out W hU
            clear hU hF
            go_simp
            exact rfl
          simp only [Act.put, List.setIfInBounds_toArray, List.set_cons_zero, List.set_cons_succ]
          with_reducible apply wpV_light
          · simp only [lightOp]
          · intro W hU hF
            have f0 := CS.out W hU
            clear hU hF
            go_simp
            exact rfl
          simp only [Act.put, List.setIfInBounds_toArray, List.set_cons_zero, List.set_cons_succ]
          with_reducible apply wpV_light
          · simp only [lightOp]
          · intro W hU hF
            have f0 := CS.out W hU
            clear hU hF
            go_simp
            exact rfl
          simp only [Act.put, List.setIfInBounds_toArray, List.set_cons_zero, List.set_cons_succ]
          with_reducible apply wpV_light
          · simp only [lightOp]
          · intro W hU hF
            have f0 := CS.out W hU
            clear hU hF
            go_simp
            exact rfl
          simp only [Act.put, List.setIfInBounds_toArray, List.set_cons_zero, List.set_cons_succ]
          with_reducible apply wpV_light
          · simp only [lightOp]
          · intro W hU hF
            have f0 := CS.out W hU
            clear hU hF
            go_simp
            exact rfl
          simp only [Act.put, List.setIfInBounds_toArray, List.set_cons_zero, List.set_cons_succ]
          with_reducible apply wpV_light
          · simp only [lightOp]
          · intro W hU hF
            have f0 := CS.out W hU
            clear hU hF
            go_simp
            exact rfl
          simp only [Act.put, List.setIfInBounds_toArray, List.set_cons_zero, List.set_cons_succ]
          with_reducible apply wpV_light
          · simp only [lightOp]
          · intro W hU hF
            have f0 := CS.out W hU
            clear hU hF
            go_simp
            exact rfl
          simp only [Act.put, List.setIfInBounds_toArray, List.set_cons_zero, List.set_cons_succ]
          with_reducible apply wpV_light
          · simp only [lightOp]
          · intro W hU hF
            have f0 := CS.out W hU
            clear hU hF
            go_simp
            exact rfl
          simp only [Act.put, List.setIfInBounds_toArray, List.set_cons_zero, List.set_cons_succ]
          refine wpV_end (fun W hU _ _ => ?_)
          have U9 : Hid (Upd [] w3 W) := Lib.hid (UK.out.trans ((Upd.refl [] wr).drew.trans hU))
          clear hU
          refine wpT_end ?_
          go_wp2_with fail
          go_roundw
          case rel => exact ⟨k + 1, by go_num, by omega, U9⟩
          case measure => simp [intOf]; omega
      · obtain rfl : k = N := by omega
        have U4 := Lib.hid (U3.out.trans UK.out)
        have S4 := Lib.hid (S3.out.upd0 UK.out)
        have O4 := Lib.hid (O3.out.upd0 UK.out)
        clear U3 S3 O3 UK
        obtain ⟨q, hq⟩ : ∃ q, ks[i]? = some q := ⟨_, List.getElem?_eq_getElem (by rw [HM.out]; exact him)⟩
        obtain ⟨ad, rfl, hlt, e0⟩ := rd_int (HK.out.upd0 U4.out) hq
        have HQ : Hid (s.K.getD i 0 = q) := Lib.hid (by rw [SK.out]; exact getD_some hq)
        clear hq
        by_cases hq3 : q = 3
        · have d3 : (q != 3) = false := by simpa using hq3
          subst hq3
          have OE : Hid (oErr s i = 0) := Lib.hid (by unfold oErr; rw [HIC.out, if_pos rfl, Int.toNat_natCast, HQ.out]; rfl)
          have CE : Hid (∀ a, ceilC s i a = ceilL l a) := Lib.hid (fun a => by unfold ceilC; rw [OE.out, if_pos rfl, Int.toNat_natCast, HL.out])
          by_cases hk0 : k = 0
          · have d4 : ((k : Int) == 0) = true := by simpa using hk0
            subst hk0
            have hln : l = [] := List.eq_nil_of_length_eq_zero HNN.out
            go_wp2_with fail
            refine (m_ceil w.heap.size sb F s i 0 wr S4.out).mono ?_
            rintro e w5 ⟨e5, rfl, ev5, u5⟩
            rw [CE.out, hln, lceil_nil]
            have U5 := Lib.hid (U4.out.trans u5)
            clear ev5 u5 U4 S4 O4 e0
            go_wp2_with fail
            refine (m_alive w5).mono ?_; rintro e w9 ⟨rfl, u9⟩
            have U9 := Lib.hid (U5.out.trans u9)
            clear u9
            go_wp2_with fail
            go_ret
            exact ⟨rfl, U9.out⟩
          · have d4 : ((k : Int) == 0) = false := by simpa using hk0
            obtain ⟨k', hk'⟩ : ∃ k', k' + 1 = k := ⟨k - 1, by omega⟩
            obtain ⟨⟨pk, pv⟩, hp⟩ : ∃ p, l[0]? = some p := ⟨_, List.getElem?_eq_getElem (by rw [HNN.out]; omega)⟩
            obtain ⟨⟨zk, zv⟩, hz⟩ : ∃ p, l[k']? = some p := ⟨_, List.getElem?_eq_getElem (by rw [HNN.out]; omega)⟩
            have HP := Lib.hid hp
            have HZ := Lib.hid hz
            obtain ⟨g, cg, cur, e1, -⟩ := own_form O4.out (by rw [HNN.out]; omega)
            injection e1 with e1 en e1'
            subst e1 e1'
            have RA : Hid (rangeC s i pk zk = k) := Lib.hid (by
              unfold rangeC
              rw [OE.out, if_pos rfl, Int.toNat_natCast, HL.out]
              exact (lrange_all (p := (pk, pv)) (q := (zk, zv)) HSR.out HP.out (by rw [HNN.out]; rw [show k - 1 = k' by omega]; exact HZ.out)).trans HNN.out)
            have q5 : (k : Int) - 1 = (k' : Int) := by omega
            have q6 : (0 : Int) ≤ (k' : Int) := by omega
            have q5w : IntKind.i64.wrap (k' : Int) = (k' : Int) := by rw [IntKind.wrap_i64]; omega
            have q7 : (k' : Int) < (k : Int) := by omega
            have q8 : (0 : Int) < (k : Int) := by omega
            have q9 : 0 < k := by omega
            have CS : Hid (∀ V, Upd [] wr.drew V → V.cell? ⟨g, 0, none⟩ = some (.int .i64 pk) ∧ V.cell? ⟨g, k' * 2, none⟩ = some (.int .i64 zk)) := Lib.hid (fun V hV => by
              have ho := O4.out.upd0 ((Upd.refl [] wr).drew.trans hV)
              exact ⟨ho.at_ HP.out 0 _ rfl, ho.at_ HZ.out 0 _ rfl⟩)
            clear hp hz en
            go_wp2_with fail
            clear e0
            refine wp_invN [(12, .det (.tuple #[.int .i64 k, .nilIface]))] [] (by kernel_rfl) (by kernel_rfl) (by kernel_rfl) ⟨lasts_det _, trivial⟩ ?_
            with_reducible apply wpV_light
            · simp only [lightOp]
            · intro W hU hF
              have f0 := CS.out W hU
              clear hU hF
              go_simp
              exact rfl
            simp only [Act.put, List.setIfInBounds_toArray, List.set_cons_zero, List.set_cons_succ]
            with_reducible apply wpV_light
            · simp only [lightOp]
            · intro W hU hF
              have f0 := CS.out W hU
              clear hU hF
              go_simp
              exact rfl
            simp only [Act.put, List.setIfInBounds_toArray, List.set_cons_zero, List.set_cons_succ]
            with_reducible apply wpV_light
            · simp only [lightOp]
            · intro W hU hF
              have f0 := CS.out W hU
              clear hU hF
              go_simp
              exact rfl
            simp only [Act.put, List.setIfInBounds_toArray, List.set_cons_zero, List.set_cons_succ]
            with_reducible apply wpV_light
            · simp only [lightOp]
            · intro W hU hF
              have f0 := CS.out W hU
              clear hU hF
              go_simp
              exact rfl
            simp only [Act.put, List.setIfInBounds_toArray, List.set_cons_zero, List.set_cons_succ]
            with_reducible apply wpV_light
            · simp only [lightOp]
            · intro W hU hF
              have f0 := CS.out W hU
              clear hU hF
              go_simp
              exact rfl
            simp only [Act.put, List.setIfInBounds_toArray, List.set_cons_zero, List.set_cons_succ]
            with_reducible apply wpV_light
            · simp only [lightOp]
            · intro W hU hF
              have f0 := CS.out W hU
              clear hU hF
              go_simp
              exact rfl
            simp only [Act.put, List.setIfInBounds_toArray, List.set_cons_zero, List.set_cons_succ]
            with_reducible apply wpV_light
            · simp only [lightOp]
            · intro W hU hF
              have f0 := CS.out W hU
              clear hU hF
              go_simp
              exact rfl
            simp only [Act.put, List.setIfInBounds_toArray, List.set_cons_zero, List.set_cons_succ]
            with_reducible apply wpV_light
            · simp only [lightOp]
            · intro W hU hF
              have f0 := CS.out W hU
              clear hU hF
              go_simp
              exact rfl
            simp only [Act.put, List.setIfInBounds_toArray, List.set_cons_zero, List.set_cons_succ]
            with_reducible apply wpV_light
            · simp only [lightOp]
            · intro W hU hF
              have f0 := CS.out W hU
              clear hU hF
              go_simp
              exact rfl
            simp only [Act.put, List.setIfInBounds_toArray, List.set_cons_zero, List.set_cons_succ]
            with_reducible apply wpV_light
            · simp only [lightOp]
            · intro W hU hF
              have f0 := CS.out W hU
              clear hU hF
              go_simp
              exact rfl
            simp only [Act.put, List.setIfInBounds_toArray, List.set_cons_zero, List.set_cons_succ]
            with_reducible apply wpV_light
            · simp only [lightOp]
            · intro W hU hF
              have f0 := CS.out W hU
              clear hU hF
              go_simp
              exact rfl
            simp only [Act.put, List.setIfInBounds_toArray, List.set_cons_zero, List.set_cons_succ]
            with_reducible apply wpV_light
            · simp only [lightOp]
            · intro W hU hF
              have f0 := CS.out W hU
              clear hU hF
              go_simp
              exact rfl
            simp only [Act.put, List.setIfInBounds_toArray, List.set_cons_zero, List.set_cons_succ]
            refine wpV_heavy (by simp only [lightOp]) (by rfl) (fun W hU hk hF K hK => ?_) ?_
            · go_wp2_with fail
              have hs4 := S4.out.upd0 ((Upd.refl [] wr).drew.trans hU)
              refine (m_range w.heap.size sb F s i pk zk W hs4).mono ?_
              rintro e w5 ⟨e5, rfl, ev5, u5⟩
              rw [OE.out] at ev5
              simp only [HIC.out, ↓reduceIte] at ev5
              obtain rfl := ev5.nils
              rw [RA.out]
              go_wp2_with fail
              exact hK.out _ _ (outV_new rfl rfl (by intro b hb; cases hb) u5)
            rintro _ rfl
            simp only [Act.put, List.setIfInBounds_toArray, List.set_cons_zero, List.set_cons_succ]
            with_reducible apply wpV_light
            · simp only [lightOp]
            · intro W hU hF
              have f0 := CS.out W hU
              clear hU hF
              go_simp
              exact rfl
            simp only [Act.put, List.setIfInBounds_toArray, List.set_cons_zero, List.set_cons_succ]
            with_reducible apply wpV_light
            · simp only [lightOp]
            · intro W hU hF
              have f0 := CS.out W hU
              clear hU hF
              go_simp
              exact rfl
            simp only [Act.put, List.setIfInBounds_toArray, List.set_cons_zero, List.set_cons_succ]
            with_reducible apply wpV_light
            · simp only [lightOp]
            · intro W hU hF
              have f0 := CS.out W hU
              clear hU hF
              go_simp
              exact rfl
            simp only [Act.put, List.setIfInBounds_toArray, List.set_cons_zero, List.set_cons_succ]
            with_reducible apply wpV_light
            · simp only [lightOp]
            · intro W hU hF
              have f0 := CS.out W hU
              clear hU hF
              go_simp
              exact rfl
            simp only [Act.put, List.setIfInBounds_toArray, List.set_cons_zero, List.set_cons_succ]
            with_reducible apply wpV_light
            · simp only [lightOp]
            · intro W hU hF
              have f0 := CS.out W hU
              clear hU hF
              go_simp
              exact rfl
            simp only [Act.put, List.setIfInBounds_toArray, List.set_cons_zero, List.set_cons_succ]
            refine wpV_end (fun W hU _ _ => ?_)
            have U5 : Hid (Upd [] wr W) := Lib.hid ((Upd.refl [] wr).drew.trans hU)
            clear hU CS
            refine wpT_end ?_
            have S5 := Lib.hid (S4.out.upd0 U5.out)
            have O5 := Lib.hid (O4.out.upd0 U5.out)
            have U6 := Lib.hid (U4.out.trans U5.out)
            have c0 : W.cell? ⟨g, 0, none⟩ = some (.int .i64 pk) := O5.out.at_ HP.out 0 _ rfl
            have d5 : ((k : Int) != (k : Int)) = false := by simp
            clear U4 S4 O4 U5
            go_wp2_with fail
            refine (no_nil W).mono ?_; rintro e w' ⟨rfl, rfl⟩
            go_wp2_with fail
            go_loopw [141, 18, 19, 20, 21, 22] (fun v va v19 v20 v21 v22 wr => ∃ (j : Nat) (a : Int), v = .int .i64 j ∧ va = .int .i64 a ∧ j ≤ k ∧ Hid (∀ p, l[j]? = some p → ceilL l a = some p.1) ∧ Hid (Upd [] W wr)) (fun v _ _ _ _ _ _ => k - (intOf v).toNat)
            case atStart => exact ⟨0, pk, rfl, rfl, by omega, Lib.hid (fun p hp => by rw [HP.out] at hp; injection hp with hp; subst hp; exact lceil_first HP.out), Lib.hid (.refl _ _)⟩
            case round =>
              obtain ⟨j, a, rfl, rfl, hj, HCA, UJ⟩ := hrel
              rename World => wj
              by_cases hjk : j < k
              · obtain ⟨⟨qk, qv⟩, hq⟩ : ∃ p, l[j]? = some p := ⟨_, List.getElem?_eq_getElem (by rw [HNN.out]; omega)⟩
                have HQ := Lib.hid hq
                have HA1 : Hid (ceilL l a = some qk) := Lib.hid (HCA.out _ hq)
                have q1 : (0 : Int) ≤ (j : Int) := by omega
                have q2 : (j : Int) < (k : Int) := by omega
                clear hq
                go_wp2_with fail
                refine (m_ceil w.heap.size sb F s i a wj (S5.out.upd0 UJ.out)).mono ?_
                rintro e w6 ⟨e6, rfl, ev6, u6⟩
                rw [CE.out, HA1.out]
                simp only [Option.getD_some, Option.isSome_some]
                have U7 := Lib.hid (UJ.out.trans u6)
                have c1 : w6.cell? ⟨g, j * 2, none⟩ = some (.int .i64 qk) := (O5.out.upd0 U7.out).at_ HQ.out 0 _ rfl
                have d6 : ((qk : Int) != qk) = false := by simp
                clear ev6 u6
                by_cases hl : j = k'
                · subst hl
                  have d7 : ((j : Int) == (j : Int)) = true := by simp
                  go_wp2_with fail
                  refine (m_alive w6).mono ?_; rintro e w9 ⟨rfl, u9⟩
                  have U9 := Lib.hid ((U6.out.trans U7.out).trans u9)
                  clear u9
                  go_wp2_with fail
                  go_ret
                  exact ⟨rfl, U9.out⟩
                · have d7 : ((j : Int) == (k' : Int)) = false := by simp; omega
                  obtain ⟨⟨yk, yv⟩, hy⟩ : ∃ p, l[j + 1]? = some p := ⟨_, List.getElem?_eq_getElem (by rw [HNN.out]; omega)⟩
                  have lt : qk < yk := srt_lt HSR.out HQ.out hy (by omega)
                  have hy2 : yk ≤ 9223372036854775807 := (HBD.out _ (List.mem_of_getElem? hy)).2
                  have hq2 : -9223372036854775808 ≤ qk := (HBD.out _ (List.mem_of_getElem? HQ.out)).1
                  have hw : wrap64 (qk + 1) = qk + 1 := by unfold wrap64; omega
                  have HW := Lib.hid hw
                  have HNX : Hid (∀ p, l[j + 1]? = some p → ceilL l (qk + 1) = some p.1) := Lib.hid (fun p hp => lceil_next HSR.out HQ.out hp)
                  clear hy lt hy2 hq2 hw
                  go_wp2_with fail
                  go_roundw
                  case rel => exact ⟨j + 1, qk + 1, by go_num, by rw [HW.out], by omega, HNX, U7⟩
                  case measure => simp [intOf]; omega
              · obtain rfl : j = k := by omega
                have U7 := Lib.hid (U6.out.trans UJ.out)
                go_wp2_with fail
                refine (m_alive wj).mono ?_; rintro e w9 ⟨rfl, u9⟩
                have U9 := Lib.hid (U7.out.trans u9)
                clear u9
                go_wp2_with fail
                go_ret
                exact ⟨rfl, U9.out⟩
        · have d3 : (q != 3) = true := by simpa using hq3
          go_wp2_with fail
          refine (m_alive wr).mono ?_; rintro e w9 ⟨rfl, u9⟩
          have U9 := Lib.hid (U4.out.trans u9)
          clear u9
          go_wp2_with fail
          go_ret
          exact ⟨rfl, U9.out⟩
end Go.Proofs.YtjlpogmoebmkdaaDoor

/-
  ModelKeys, the walk.
-/
import Derived.Test.YtjlpogmoebmkdaaDoorMRun
import Derived.Test.YtjlpogmoebmkdaaDoorMIs
import Derived.Test.YtjlpogmoebmkdaaDoorMdl6
import Derived.Test.YtjlpogmoebmkdaaDoorMAlive
set_option linter.unusedVariables false
namespace Go.Proofs.YtjlpogmoebmkdaaDoor
open Go.RowKit Assoc MP
attribute [local go_sem] litStep_value

theorem rd_int {w : World} {A : Option Addr} {n c k : Nat} {L : List Int} {a : Int} (h : Rd encK w (.slice A n c) L) (hk : L[k]? = some a) : ∃ ad : Addr, A = some ad ∧ ad.block < w.heap.size ∧ w.cell? (ad.add k) = some (.int .i64 a) := by
  obtain ⟨ad, h1, h2, hc⟩ := h.at_ hk
  exact ⟨ad, h1, h2, by have := hc 0 _ rfl; rwa [show k * encK.s + 0 = k by simp [encI]] at this⟩
theorem getD_some {l : List Int} {i : Nat} {q : Int} (h : l[i]? = some q) : l.getD i 0 = q := by rw [List.getD_eq_getElem?_getD, h]; rfl
set_option maxRecDepth 100000 in
set_option maxHeartbeats 8000000 in
theorem law_mkeys (A' : Option Addr) (m d : Nat) (ks : List Int) (A : Option Addr) (n c : Nat) (L : List MAct) (x key value other : Int) (w : World) (hK : Rd encK w (.slice A' m d) ks) (hm : ks.length = m) (hA : Rd encA w (.slice A n c) L) (hn : L.length = n) (hkb : ∀ a ∈ L, kB a.2.2.1) (hkey : kB key) (hg : Typed w) :
    Calls Tryd.prog 5 #[.slice A' m d, .slice A n c, .int .i64 x, .int .i64 key, .int .i64 value, .int .i64 other] w fun e w' => e = .returned (.bool true) ∧ Upd [] w w' := by
  have HG := Lib.hid hg
  have HA := Lib.hid hA
  have HK := Lib.hid hK
  have HN := Lib.hid hn
  have HM := Lib.hid hm
  have HKB := Lib.hid hkb
  have HKY := Lib.hid hkey
  clear hg hA hn hK hm hkb hkey
  go_enter Tryd.func5, Tryd.ntmps5
  go_wp2_with fail
  refine (mplay_ok A A' m d n c ks L w w HK.out HM.out HA.out HN.out HKB.out HG.out (.refl _ _)).mono ?_; rintro e w1 h
  rcases h with ⟨rfl, u1⟩ | ⟨hb, h8, sb, F, rfl, s1, u1⟩
  · have U1 := Lib.hid u1
    clear u1
    go_wp2_with fail
    refine (m_alive w1).mono ?_; rintro e w9 ⟨rfl, u9⟩
    have U9 := Lib.hid (U1.out.trans u9)
    clear u9
    go_wp2_with fail
    go_ret
    exact ⟨rfl, U9.out⟩
  · have U1 := Lib.hid u1
    by_cases hm0 : m = 0
    · subst hm0
      clear u1 s1 hb h8
      go_wp2_with fail
      refine (m_alive w1).mono ?_; rintro e w9 ⟨rfl, u9⟩
      have U9 := Lib.hid (U1.out.trans u9)
      clear u9
      go_wp2_with fail
      go_ret
      exact ⟨rfl, U9.out⟩
    have dm : ((m : Int) == (0 : Int)) = false := by simpa using hm0
    have hm8 : m ≤ 8 := by rw [← HM.out]; exact h8
    obtain ⟨i, him, hix⟩ := turn_ix8 x m (by omega) hm8
    obtain ⟨s, hs⟩ : ∃ s, runM ks L = s := ⟨_, rfl⟩
    have SK : Hid (s.K = ks) := Lib.hid (by rw [← hs]; exact runM_K ks L)
    have SL : Hid (s.L.length = m) := Lib.hid (by rw [← hs, ← HM.out]; exact runM_len ks L)
    rw [hs] at s1
    have S1 := Lib.hid s1
    have GS := Lib.hid s1.1
    have HI : Hid (i < s.L.length) := Lib.hid (by rw [SL.out]; exact him)
    have HIC : Hid (isC s i = true) := Lib.hid (isC_nat HI.out)
    have hi0 : (0 : Int) ≤ (i : Int) := by omega
    have hi1 : (i : Int) < (m : Int) := by omega
    clear u1 s1 hb h8 hs
    have hmz : ¬ (m : Int) = 0 := by omega
    go_wp2_with fail
    refine (m_copy w.heap.size sb F s w1 S1.out).mono ?_; rintro e w2 ⟨tb, G, rfl, t2, u2⟩
    have U2 := Lib.hid (U1.out.trans u2)
    have S2 := Lib.hid (S1.out.upd0 u2)
    have T2 := Lib.hid t2
    have DJ : Hid (Disj G F) := Lib.hid (fun k hk' hk => by have h1 := (S1.out.lt k hk).2; have h2 := (t2.lt k hk').1; omega)
    clear u2 t2 U1 S1
    go_wp2_with fail
    refine (m_get w.heap.size sb F s i other w2 S2.out).mono ?_; rintro e w3 ⟨e3, rfl, ev3, u3⟩
    simp only [HIC.out, ↓reduceIte, Int.toNat_natCast] at ev3 ⊢
    obtain ⟨l, hl⟩ : ∃ l, coll s i = l := ⟨_, rfl⟩
    have HL := Lib.hid hl
    rw [hl]
    obtain ⟨g0, hg0⟩ : ∃ g0, get l other = g0 := ⟨_, rfl⟩
    have HG0 := Lib.hid hg0
    rw [hg0]
    have U3 := Lib.hid (U2.out.trans u3)
    have S3 := Lib.hid (S2.out.upd0 u3)
    have T3 := Lib.hid (T2.out.upd0 u3)
    clear ev3 u3 hl hg0 U2 S2 T2
    go_wp2_with fail
    refine (m_put w.heap.size sb F s i key value w3 S3.out HKY.out).mono ?_; rintro e w4 ⟨e4, rfl, ev4, s4, u4⟩
    simp only [HIC.out, ↓reduceIte, Int.toNat_natCast] at ev4 s4
    rw [HL.out] at ev4
    have U4 : Hid (Upd [] w w4) := Lib.hid ((frm_same u4).rest U3.out (fun k hk => (S3.out.lt k hk).1))
    have T4 := Lib.hid (T3.out.upd u4 DJ.out)
    have S4 := Lib.hid s4
    have EV4 := Lib.hid ev4
    clear s4 u4 U3 S3 T3 ev4
    go_wp2_with fail
    refine (no_err EV4.out).mono ?_; rintro e w' ⟨rfl, rfl⟩
    by_cases hpe : putE l key = 0
    · rw [hpe]
      have HPE := Lib.hid (show putE (coll s i) key = 0 by rw [HL.out]; exact hpe)
      have MC := Lib.hid (fun j => mput_ok (v := value) HPE.out HI.out j)
      have MI : Hid (coll (mPut s i key value) i = put l key (putV s i value)) := Lib.hid (by rw [MC.out, if_pos rfl, HL.out])
      have HI2 : Hid (i < (mPut s i key value).L.length) := Lib.hid (by rw [mput_len]; exact HI.out)
      have HIC2 : Hid (isC (mPut s i key value) i = true) := Lib.hid (isC_nat HI2.out)
      have SL2 : Hid ((mPut s i key value).L.length = m) := Lib.hid (by rw [mput_len]; exact SL.out)
      have SR : Hid (Srt l) := Lib.hid (HL.out ▸ GS.out.srt _ (coll_mem HI.out))
      obtain ⟨q, hq⟩ : ∃ q, ks[i]? = some q := ⟨_, List.getElem?_eq_getElem (by rw [HM.out]; exact him)⟩
      obtain ⟨ad, rfl, hlt, e0⟩ := rd_int (HK.out.upd0 U4.out) hq
      have HQ : Hid (s.K.getD i 0 = q) := Lib.hid (by rw [SK.out]; exact getD_some hq)
      obtain ⟨want, hwant⟩ : ∃ x, putV s i value = x := ⟨_, rfl⟩
      have HW := Lib.hid hwant
      clear hq hpe hwant EV4
      by_cases hq2 : q = 2
      · have d2 : (q == 2) = true := by simpa using hq2
        have hw1 : want = 1 := by rw [← HW.out]; unfold putV; rw [HQ.out, if_pos hq2]
        have d8 : (want != 1) = false := by simpa using hw1
        clear hw1
        go_wp2_with fail
        refine (m_get w.heap.size sb F (mPut s i key value) i key w4 S4.out).mono ?_; rintro e w5 ⟨e5, rfl, ev5, u5⟩
        simp only [HIC2.out, ↓reduceIte, Int.toNat_natCast, MI.out, HW.out, get_put SR.out, Option.getD_some, Option.isSome_some] at ev5 ⊢
        have U5 := Lib.hid (U4.out.trans u5)
        have S5 := Lib.hid (S4.out.upd0 u5)
        have T5 := Lib.hid (T4.out.upd0 u5)
        clear ev5 u5 e0 U4 S4 T4
        go_wp2_with fail
        refine (m_get w.heap.size sb F (mPut s i key value) i other w5 S5.out).mono ?_; rintro e w6 ⟨e6, rfl, ev6, u6⟩
        simp only [HIC2.out, ↓reduceIte, Int.toNat_natCast, MI.out, HW.out, get_put SR.out] at ev6 ⊢
        have U6 := Lib.hid (U5.out.trans u6)
        have S6 := Lib.hid (S5.out.upd0 u6)
        have T6 := Lib.hid (T5.out.upd0 u6)
        clear ev6 u6 U5 S5 T5
        by_cases hok : other = key
        · have d9 : (other != key) = false := by simpa using hok
          go_wp2_with fail
          go_loopw [131, 26, 27, 28, 29, 30] (fun v v1 v2 v3 v4 v5 wr => ∃ k : Nat, v = .int .i64 k ∧ k ≤ m ∧ Hid (Upd [] w6 wr)) (fun v _ _ _ _ _ _ => m - (intOf v).toNat)
          case atStart => exact ⟨0, rfl, by omega, Lib.hid (.refl _ _)⟩
          case round =>
            obtain ⟨k, rfl, hk, UK⟩ := hrel
            rename World => wr
            by_cases hkm : k < m
            · have HK1 : Hid (isC (mPut s i key value) k = true) := Lib.hid (isC_nat (by rw [SL2.out]; exact hkm))
              have HK2 : Hid (isC s k = true) := Lib.hid (isC_nat (by rw [SL.out]; exact hkm))
              have HLK : Hid ((coll s k).length ≤ 100) := Lib.hid (GS.out.len _ (coll_mem (by rw [SL.out]; exact hkm)))
              go_wp2_with fail
              refine (m_list w.heap.size sb F (mPut s i key value) k wr (S6.out.upd0 UK.out)).mono ?_
              rintro e w7 ⟨va, ea, rfl, eva, oa, u7⟩
              unfold listC at oa
              simp only [HK1.out, ↓reduceIte, Int.toNat_natCast] at oa
              have U7 := Lib.hid (UK.out.trans u7)
              have OA := Lib.hid oa
              clear eva oa u7
              go_wp2_with fail
              refine (m_list _ tb G s k w7 (T6.out.upd0 U7.out)).mono ?_
              rintro e w8 ⟨vb, eb, rfl, evb, ob, u8⟩
              unfold listC at ob
              simp only [HK2.out, ↓reduceIte, Int.toNat_natCast] at ob
              have U8 := Lib.hid (U7.out.trans u8)
              have OA8 := Lib.hid (OA.out.upd0 u8)
              have OB := Lib.hid ob
              clear evb ob u8 OA
              by_cases hki : k = i
              · have d9 : ((k : Int) != (i : Int)) = false := by simp; omega
                go_wp2_with fail
                go_roundw
                case rel => exact ⟨k + 1, by go_num, by omega, U8⟩
                case measure => simp [intOf]; omega
              · have d9 : ((k : Int) != (i : Int)) = true := by simp; omega
                have HSM : Hid (coll (mPut s i key value) k = coll s k) := Lib.hid (by rw [MC.out, if_neg hki])
                rw [HSM.out] at OA8
                go_wp2_with fail
                refine (pairs_ok _ _ _ _ va vb w8 OA8.out OB.out (by have := HLK.out; omega) (by have := HLK.out; omega)).mono ?_
                rintro e w9 ⟨rfl, u9⟩
                rw [decide_eq_true rfl]
                have U9 := Lib.hid (U8.out.trans u9)
                clear u9
                go_wp2_with fail
                go_roundw
                case rel => exact ⟨k + 1, by go_num, by omega, U9⟩
                case measure => simp [intOf]; omega
            · obtain rfl : k = m := by omega
              have U7 := Lib.hid (U6.out.trans UK.out)
              have S7 := Lib.hid (S6.out.upd0 UK.out)
              clear U6 S6 T6 UK
              go_wp2_with fail
              refine (m_del w.heap.size sb F (mPut s i key value) i key wr S7.out).mono ?_
              rintro e w8 ⟨e8, rfl, ev8, s8, u8⟩
              simp only [HIC2.out, ↓reduceIte, Int.toNat_natCast] at ev8 s8
              obtain rfl := ev8.nils
              have U8 : Hid (Upd [] w w8) := Lib.hid ((frm_same u8).rest U7.out (fun k hk => (S7.out.lt k hk).1))
              have S8 := Lib.hid s8
              have MD : Hid (Assoc.get (coll (mDel (mPut s i key value) i key) i) key = none) := Lib.hid (by rw [mdel_coll HI2.out, if_pos rfl, get_del, if_pos rfl])
              have HIC3 : Hid (isC (mDel (mPut s i key value) i key) i = true) := Lib.hid (isC_nat (by simp only [mDel, setC, List.length_set]; exact HI2.out))
              clear ev8 u8 s8 S7 U7
              go_wp2_with fail
              refine (m_get w.heap.size sb F (mDel (mPut s i key value) i key) i key w8 S8.out).mono ?_; rintro e w9 ⟨e9, rfl, ev9, u9⟩
              simp only [HIC3.out, ↓reduceIte, Int.toNat_natCast, MD.out, Option.isSome_none] at ev9 ⊢
              have U9 := Lib.hid (U8.out.trans u9)
              clear ev9 u9 U8 S8
              go_wp2_with fail
              refine (no_nil w9).mono ?_; rintro e w' ⟨rfl, rfl⟩
              go_wp2_with fail
              refine (m_alive w9).mono ?_; rintro e w10 ⟨rfl, u10⟩
              have U10 := Lib.hid (U9.out.trans u10)
              clear u10
              go_wp2_with fail
              go_ret
              exact ⟨rfl, U10.out⟩
        · have d9 : (other != key) = true := by simpa using hok
          rw [if_neg hok, HG0.out]
          have d10 : ((g0.getD 0) != (g0.getD 0)) = false := by simp
          have d11 : (g0.isSome != g0.isSome) = false := by simp
          go_wp2_with fail
          go_loopw [131, 26, 27, 28, 29, 30] (fun v v1 v2 v3 v4 v5 wr => ∃ k : Nat, v = .int .i64 k ∧ k ≤ m ∧ Hid (Upd [] w6 wr)) (fun v _ _ _ _ _ _ => m - (intOf v).toNat)
          case atStart => exact ⟨0, rfl, by omega, Lib.hid (.refl _ _)⟩
          case round =>
            obtain ⟨k, rfl, hk, UK⟩ := hrel
            rename World => wr
            by_cases hkm : k < m
            · have HK1 : Hid (isC (mPut s i key value) k = true) := Lib.hid (isC_nat (by rw [SL2.out]; exact hkm))
              have HK2 : Hid (isC s k = true) := Lib.hid (isC_nat (by rw [SL.out]; exact hkm))
              have HLK : Hid ((coll s k).length ≤ 100) := Lib.hid (GS.out.len _ (coll_mem (by rw [SL.out]; exact hkm)))
              go_wp2_with fail
              refine (m_list w.heap.size sb F (mPut s i key value) k wr (S6.out.upd0 UK.out)).mono ?_
              rintro e w7 ⟨va, ea, rfl, eva, oa, u7⟩
              unfold listC at oa
              simp only [HK1.out, ↓reduceIte, Int.toNat_natCast] at oa
              have U7 := Lib.hid (UK.out.trans u7)
              have OA := Lib.hid oa
              clear eva oa u7
              go_wp2_with fail
              refine (m_list _ tb G s k w7 (T6.out.upd0 U7.out)).mono ?_
              rintro e w8 ⟨vb, eb, rfl, evb, ob, u8⟩
              unfold listC at ob
              simp only [HK2.out, ↓reduceIte, Int.toNat_natCast] at ob
              have U8 := Lib.hid (U7.out.trans u8)
              have OA8 := Lib.hid (OA.out.upd0 u8)
              have OB := Lib.hid ob
              clear evb ob u8 OA
              by_cases hki : k = i
              · have d9 : ((k : Int) != (i : Int)) = false := by simp; omega
                go_wp2_with fail
                go_roundw
                case rel => exact ⟨k + 1, by go_num, by omega, U8⟩
                case measure => simp [intOf]; omega
              · have d9 : ((k : Int) != (i : Int)) = true := by simp; omega
                have HSM : Hid (coll (mPut s i key value) k = coll s k) := Lib.hid (by rw [MC.out, if_neg hki])
                rw [HSM.out] at OA8
                go_wp2_with fail
                refine (pairs_ok _ _ _ _ va vb w8 OA8.out OB.out (by have := HLK.out; omega) (by have := HLK.out; omega)).mono ?_
                rintro e w9 ⟨rfl, u9⟩
                rw [decide_eq_true rfl]
                have U9 := Lib.hid (U8.out.trans u9)
                clear u9
                go_wp2_with fail
                go_roundw
                case rel => exact ⟨k + 1, by go_num, by omega, U9⟩
                case measure => simp [intOf]; omega
            · obtain rfl : k = m := by omega
              have U7 := Lib.hid (U6.out.trans UK.out)
              have S7 := Lib.hid (S6.out.upd0 UK.out)
              clear U6 S6 T6 UK
              go_wp2_with fail
              refine (m_del w.heap.size sb F (mPut s i key value) i key wr S7.out).mono ?_
              rintro e w8 ⟨e8, rfl, ev8, s8, u8⟩
              simp only [HIC2.out, ↓reduceIte, Int.toNat_natCast] at ev8 s8
              obtain rfl := ev8.nils
              have U8 : Hid (Upd [] w w8) := Lib.hid ((frm_same u8).rest U7.out (fun k hk => (S7.out.lt k hk).1))
              have S8 := Lib.hid s8
              have MD : Hid (Assoc.get (coll (mDel (mPut s i key value) i key) i) key = none) := Lib.hid (by rw [mdel_coll HI2.out, if_pos rfl, get_del, if_pos rfl])
              have HIC3 : Hid (isC (mDel (mPut s i key value) i key) i = true) := Lib.hid (isC_nat (by simp only [mDel, setC, List.length_set]; exact HI2.out))
              clear ev8 u8 s8 S7 U7
              go_wp2_with fail
              refine (m_get w.heap.size sb F (mDel (mPut s i key value) i key) i key w8 S8.out).mono ?_; rintro e w9 ⟨e9, rfl, ev9, u9⟩
              simp only [HIC3.out, ↓reduceIte, Int.toNat_natCast, MD.out, Option.isSome_none] at ev9 ⊢
              have U9 := Lib.hid (U8.out.trans u9)
              clear ev9 u9 U8 S8
              go_wp2_with fail
              refine (no_nil w9).mono ?_; rintro e w' ⟨rfl, rfl⟩
              go_wp2_with fail
              refine (m_alive w9).mono ?_; rintro e w10 ⟨rfl, u10⟩
              have U10 := Lib.hid (U9.out.trans u10)
              clear u10
              go_wp2_with fail
              go_ret
              exact ⟨rfl, U10.out⟩
      · have d2 : (q == 2) = false := by simpa using hq2
        have hw1 : want = value := by rw [← HW.out]; unfold putV; rw [HQ.out, if_neg hq2]
        have d8 : (want != value) = false := by simpa using hw1
        clear hw1
        go_wp2_with fail
        refine (m_get w.heap.size sb F (mPut s i key value) i key w4 S4.out).mono ?_; rintro e w5 ⟨e5, rfl, ev5, u5⟩
        simp only [HIC2.out, ↓reduceIte, Int.toNat_natCast, MI.out, HW.out, get_put SR.out, Option.getD_some, Option.isSome_some] at ev5 ⊢
        have U5 := Lib.hid (U4.out.trans u5)
        have S5 := Lib.hid (S4.out.upd0 u5)
        have T5 := Lib.hid (T4.out.upd0 u5)
        clear ev5 u5 e0 U4 S4 T4
        go_wp2_with fail
        refine (m_get w.heap.size sb F (mPut s i key value) i other w5 S5.out).mono ?_; rintro e w6 ⟨e6, rfl, ev6, u6⟩
        simp only [HIC2.out, ↓reduceIte, Int.toNat_natCast, MI.out, HW.out, get_put SR.out] at ev6 ⊢
        have U6 := Lib.hid (U5.out.trans u6)
        have S6 := Lib.hid (S5.out.upd0 u6)
        have T6 := Lib.hid (T5.out.upd0 u6)
        clear ev6 u6 U5 S5 T5
        by_cases hok : other = key
        · have d9 : (other != key) = false := by simpa using hok
          go_wp2_with fail
          go_loopw [131, 26, 27, 28, 29, 30] (fun v v1 v2 v3 v4 v5 wr => ∃ k : Nat, v = .int .i64 k ∧ k ≤ m ∧ Hid (Upd [] w6 wr)) (fun v _ _ _ _ _ _ => m - (intOf v).toNat)
          case atStart => exact ⟨0, rfl, by omega, Lib.hid (.refl _ _)⟩
          case round =>
            obtain ⟨k, rfl, hk, UK⟩ := hrel
            rename World => wr
            by_cases hkm : k < m
            · have HK1 : Hid (isC (mPut s i key value) k = true) := Lib.hid (isC_nat (by rw [SL2.out]; exact hkm))
              have HK2 : Hid (isC s k = true) := Lib.hid (isC_nat (by rw [SL.out]; exact hkm))
              have HLK : Hid ((coll s k).length ≤ 100) := Lib.hid (GS.out.len _ (coll_mem (by rw [SL.out]; exact hkm)))
              go_wp2_with fail
              refine (m_list w.heap.size sb F (mPut s i key value) k wr (S6.out.upd0 UK.out)).mono ?_
              rintro e w7 ⟨va, ea, rfl, eva, oa, u7⟩
              unfold listC at oa
              simp only [HK1.out, ↓reduceIte, Int.toNat_natCast] at oa
              have U7 := Lib.hid (UK.out.trans u7)
              have OA := Lib.hid oa
              clear eva oa u7
              go_wp2_with fail
              refine (m_list _ tb G s k w7 (T6.out.upd0 U7.out)).mono ?_
              rintro e w8 ⟨vb, eb, rfl, evb, ob, u8⟩
              unfold listC at ob
              simp only [HK2.out, ↓reduceIte, Int.toNat_natCast] at ob
              have U8 := Lib.hid (U7.out.trans u8)
              have OA8 := Lib.hid (OA.out.upd0 u8)
              have OB := Lib.hid ob
              clear evb ob u8 OA
              by_cases hki : k = i
              · have d9 : ((k : Int) != (i : Int)) = false := by simp; omega
                go_wp2_with fail
                go_roundw
                case rel => exact ⟨k + 1, by go_num, by omega, U8⟩
                case measure => simp [intOf]; omega
              · have d9 : ((k : Int) != (i : Int)) = true := by simp; omega
                have HSM : Hid (coll (mPut s i key value) k = coll s k) := Lib.hid (by rw [MC.out, if_neg hki])
                rw [HSM.out] at OA8
                go_wp2_with fail
                refine (pairs_ok _ _ _ _ va vb w8 OA8.out OB.out (by have := HLK.out; omega) (by have := HLK.out; omega)).mono ?_
                rintro e w9 ⟨rfl, u9⟩
                rw [decide_eq_true rfl]
                have U9 := Lib.hid (U8.out.trans u9)
                clear u9
                go_wp2_with fail
                go_roundw
                case rel => exact ⟨k + 1, by go_num, by omega, U9⟩
                case measure => simp [intOf]; omega
            · obtain rfl : k = m := by omega
              have U7 := Lib.hid (U6.out.trans UK.out)
              have S7 := Lib.hid (S6.out.upd0 UK.out)
              clear U6 S6 T6 UK
              go_wp2_with fail
              refine (m_del w.heap.size sb F (mPut s i key value) i key wr S7.out).mono ?_
              rintro e w8 ⟨e8, rfl, ev8, s8, u8⟩
              simp only [HIC2.out, ↓reduceIte, Int.toNat_natCast] at ev8 s8
              obtain rfl := ev8.nils
              have U8 : Hid (Upd [] w w8) := Lib.hid ((frm_same u8).rest U7.out (fun k hk => (S7.out.lt k hk).1))
              have S8 := Lib.hid s8
              have MD : Hid (Assoc.get (coll (mDel (mPut s i key value) i key) i) key = none) := Lib.hid (by rw [mdel_coll HI2.out, if_pos rfl, get_del, if_pos rfl])
              have HIC3 : Hid (isC (mDel (mPut s i key value) i key) i = true) := Lib.hid (isC_nat (by simp only [mDel, setC, List.length_set]; exact HI2.out))
              clear ev8 u8 s8 S7 U7
              go_wp2_with fail
              refine (m_get w.heap.size sb F (mDel (mPut s i key value) i key) i key w8 S8.out).mono ?_; rintro e w9 ⟨e9, rfl, ev9, u9⟩
              simp only [HIC3.out, ↓reduceIte, Int.toNat_natCast, MD.out, Option.isSome_none] at ev9 ⊢
              have U9 := Lib.hid (U8.out.trans u9)
              clear ev9 u9 U8 S8
              go_wp2_with fail
              refine (no_nil w9).mono ?_; rintro e w' ⟨rfl, rfl⟩
              go_wp2_with fail
              refine (m_alive w9).mono ?_; rintro e w10 ⟨rfl, u10⟩
              have U10 := Lib.hid (U9.out.trans u10)
              clear u10
              go_wp2_with fail
              go_ret
              exact ⟨rfl, U10.out⟩
        · have d9 : (other != key) = true := by simpa using hok
          rw [if_neg hok, HG0.out]
          have d10 : ((g0.getD 0) != (g0.getD 0)) = false := by simp
          have d11 : (g0.isSome != g0.isSome) = false := by simp
          go_wp2_with fail
          go_loopw [131, 26, 27, 28, 29, 30] (fun v v1 v2 v3 v4 v5 wr => ∃ k : Nat, v = .int .i64 k ∧ k ≤ m ∧ Hid (Upd [] w6 wr)) (fun v _ _ _ _ _ _ => m - (intOf v).toNat)
          case atStart => exact ⟨0, rfl, by omega, Lib.hid (.refl _ _)⟩
          case round =>
            obtain ⟨k, rfl, hk, UK⟩ := hrel
            rename World => wr
            by_cases hkm : k < m
            · have HK1 : Hid (isC (mPut s i key value) k = true) := Lib.hid (isC_nat (by rw [SL2.out]; exact hkm))
              have HK2 : Hid (isC s k = true) := Lib.hid (isC_nat (by rw [SL.out]; exact hkm))
              have HLK : Hid ((coll s k).length ≤ 100) := Lib.hid (GS.out.len _ (coll_mem (by rw [SL.out]; exact hkm)))
              go_wp2_with fail
              refine (m_list w.heap.size sb F (mPut s i key value) k wr (S6.out.upd0 UK.out)).mono ?_
              rintro e w7 ⟨va, ea, rfl, eva, oa, u7⟩
              unfold listC at oa
              simp only [HK1.out, ↓reduceIte, Int.toNat_natCast] at oa
              have U7 := Lib.hid (UK.out.trans u7)
              have OA := Lib.hid oa
              clear eva oa u7
              go_wp2_with fail
              refine (m_list _ tb G s k w7 (T6.out.upd0 U7.out)).mono ?_
              rintro e w8 ⟨vb, eb, rfl, evb, ob, u8⟩
              unfold listC at ob
              simp only [HK2.out, ↓reduceIte, Int.toNat_natCast] at ob
              have U8 := Lib.hid (U7.out.trans u8)
              have OA8 := Lib.hid (OA.out.upd0 u8)
              have OB := Lib.hid ob
              clear evb ob u8 OA
              by_cases hki : k = i
              · have d9 : ((k : Int) != (i : Int)) = false := by simp; omega
                go_wp2_with fail
                go_roundw
                case rel => exact ⟨k + 1, by go_num, by omega, U8⟩
                case measure => simp [intOf]; omega
              · have d9 : ((k : Int) != (i : Int)) = true := by simp; omega
                have HSM : Hid (coll (mPut s i key value) k = coll s k) := Lib.hid (by rw [MC.out, if_neg hki])
                rw [HSM.out] at OA8
                go_wp2_with fail
                refine (pairs_ok _ _ _ _ va vb w8 OA8.out OB.out (by have := HLK.out; omega) (by have := HLK.out; omega)).mono ?_
                rintro e w9 ⟨rfl, u9⟩
                rw [decide_eq_true rfl]
                have U9 := Lib.hid (U8.out.trans u9)
                clear u9
                go_wp2_with fail
                go_roundw
                case rel => exact ⟨k + 1, by go_num, by omega, U9⟩
                case measure => simp [intOf]; omega
            · obtain rfl : k = m := by omega
              have U7 := Lib.hid (U6.out.trans UK.out)
              have S7 := Lib.hid (S6.out.upd0 UK.out)
              clear U6 S6 T6 UK
              go_wp2_with fail
              refine (m_del w.heap.size sb F (mPut s i key value) i key wr S7.out).mono ?_
              rintro e w8 ⟨e8, rfl, ev8, s8, u8⟩
              simp only [HIC2.out, ↓reduceIte, Int.toNat_natCast] at ev8 s8
              obtain rfl := ev8.nils
              have U8 : Hid (Upd [] w w8) := Lib.hid ((frm_same u8).rest U7.out (fun k hk => (S7.out.lt k hk).1))
              have S8 := Lib.hid s8
              have MD : Hid (Assoc.get (coll (mDel (mPut s i key value) i key) i) key = none) := Lib.hid (by rw [mdel_coll HI2.out, if_pos rfl, get_del, if_pos rfl])
              have HIC3 : Hid (isC (mDel (mPut s i key value) i key) i = true) := Lib.hid (isC_nat (by simp only [mDel, setC, List.length_set]; exact HI2.out))
              clear ev8 u8 s8 S7 U7
              go_wp2_with fail
              refine (m_get w.heap.size sb F (mDel (mPut s i key value) i key) i key w8 S8.out).mono ?_; rintro e w9 ⟨e9, rfl, ev9, u9⟩
              simp only [HIC3.out, ↓reduceIte, Int.toNat_natCast, MD.out, Option.isSome_none] at ev9 ⊢
              have U9 := Lib.hid (U8.out.trans u9)
              clear ev9 u9 U8 S8
              go_wp2_with fail
              refine (no_nil w9).mono ?_; rintro e w' ⟨rfl, rfl⟩
              go_wp2_with fail
              refine (m_alive w9).mono ?_; rintro e w10 ⟨rfl, u10⟩
              have U10 := Lib.hid (U9.out.trans u10)
              clear u10
              go_wp2_with fail
              go_ret
              exact ⟨rfl, U10.out⟩
    · obtain ⟨h8, hsame⟩ := mput_err (v := value) (show putE (coll s i) key ≠ 0 by rw [HL.out]; exact hpe)
      rw [HL.out] at h8
      rw [h8] at EV4 ⊢
      rw [hsame] at S4
      go_wp2_with fail
      refine (no_err EV4.out).mono ?_; rintro e w' ⟨rfl, rfl⟩
      go_wp2_with fail
      refine (m_same _ _ sb tb F G s s w4 S4.out T4.out).mono ?_; rintro e w5 ⟨b, rfl, hb, u5⟩
      obtain rfl : b = true := hb.2 rfl
      have U5 := Lib.hid (U4.out.trans u5)
      clear hb u5
      go_wp2_with fail
      refine (m_alive w5).mono ?_; rintro e w9 ⟨rfl, u9⟩
      have U9 := Lib.hid (U5.out.trans u9)
      clear u9
      go_wp2_with fail
      go_ret
      exact ⟨rfl, U9.out⟩
end Go.Proofs.YtjlpogmoebmkdaaDoor

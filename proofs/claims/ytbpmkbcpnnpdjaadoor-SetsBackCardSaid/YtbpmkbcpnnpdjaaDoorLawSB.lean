/-
  SetsBack, the walk.
-/
import Derived.Test.YtbpmkbcpnnpdjaaDoorPlayS
import Derived.Test.YtbpmkbcpnnpdjaaDoorSDoT
import Derived.Test.YtbpmkbcpnnpdjaaDoorBackP
import Derived.Test.YtbpmkbcpnnpdjaaDoorSameWr
import Derived.Test.YtbpmkbcpnnpdjaaDoorSameRd
import Derived.Test.YtbpmkbcpnnpdjaaDoorSAlive
set_option linter.unusedVariables false
namespace Go.Proofs.YtbpmkbcpnnpdjaaDoor
open Go.RowKit Assoc SP
attribute [local go_sem] litStep_value

/-- Behind some more calls. -/
def MoreSt (B sb am wm rb m : Nat) (P : List AL) (T : List Nat) (wS : World) (k : Nat) (w0 wr : World) : Prop := ∃ s d, BothT B sb am wm rb T wS wr s d ∧ Behind m P s ∧ s.log.length ≤ 100 + k ∧ Upd [] w0 wr
theorem own_same {w w' : World} {B s n : Nat} {e : TypeId} {v : Value} {xs : List Value} (h : w.ownsRow B e s v n xs) (hk : ∀ b, v.ownBlock = some b → w'.heap[b]? = w.heap[b]?) : w'.ownsRow B e s v n xs := by
  obtain ⟨h1, h2⟩ := h
  refine ⟨h1, ?_⟩
  rcases h2 with h2 | ⟨g, cap, cur, rfl, h2, h3, h4, h5, h6, h7⟩
  · exact .inl h2
  · exact .inr ⟨g, cap, cur, rfl, h2, (hk g rfl).trans h3, h4, h5, h6, h7⟩
theorem no_two {R : List (Int × Int)} (h : (R.map (·.1)).Nodup) {i k : Nat} {x y : Int × Int} (hx : R[i]? = some x) (hy : R[k]? = some y) (hne : k < i) : x.1 ≠ y.1 := by
  obtain ⟨hi, rfl⟩ := List.getElem?_eq_some_iff.1 hx
  obtain ⟨hk, rfl⟩ := List.getElem?_eq_some_iff.1 hy
  have := List.pairwise_iff_getElem.1 h k i (by simpa using hk) (by simpa using hi) hne
  simp only [List.getElem_map] at this
  exact fun e => this e.symm
set_option maxRecDepth 100000 in
set_option maxHeartbeats 8000000 in
theorem law_sback (A : Option Addr) (n c : Nat) (L : List SAct) (A' : Option Addr) (n' c' : Nat) (L' : List SAct) (w : World) (hA : Rd encA w (.slice A n c) L) (hn : L.length = n) (hA' : Rd encA w (.slice A' n' c') L') (hn' : L'.length = n') (hg : Typed w) :
    Calls Tryd.prog 3 #[.slice A n c, .slice A' n' c'] w fun e w' => e = .returned (.bool true) ∧ Upd [] w w' := by
  have HG := Lib.hid hg
  have HA := Lib.hid hA
  have HN := Lib.hid hn
  have HA' := Lib.hid hA'
  have HN' := Lib.hid hn'
  clear hg hA hn hA' hn'
  go_enter Tryd.func3, Tryd.ntmps3
  go_wp2_with fail
  refine (play_ok A n c L w w HA.out HN.out HG.out (.refl _ _)).mono ?_; rintro e w1 h
  rcases h with ⟨rfl, -, u1⟩ | ⟨h80, sb, am, wm, F, rfl, s1, u1⟩
  · have U1 := Lib.hid u1
    clear u1
    go_wp2_with fail
    refine (s_alive w1).mono ?_; rintro e w9 ⟨rfl, u9⟩
    have U9 := Lib.hid (U1.out.trans u9)
    clear u9
    go_wp2_with fail
    go_ret
    exact ⟨rfl, U9.out⟩
  · have U1 := Lib.hid u1
    have S1 := Lib.hid s1
    clear u1 s1
    by_cases h8 : 80 < n'
    · have d : decide ((80 : Int) < (n' : Int)) = true := by simp; omega
      go_wp2_with fail
      refine (s_alive w1).mono ?_; rintro e w9 ⟨rfl, u9⟩
      have U9 := Lib.hid (U1.out.trans u9)
      clear u9
      go_wp2_with fail
      go_ret
      exact ⟨rfl, U9.out⟩
    · have d : decide ((80 : Int) < (n' : Int)) = false := by simp; omega
      have hn8 : n' ≤ 80 := by omega
      obtain ⟨s, hs⟩ : ∃ s, runS L = s := ⟨_, rfl⟩
      have HLG : Hid (s.log.length ≤ 80) := Lib.hid (by rw [← hs]; have := log_run L; omega)
      rw [hs] at S1
      have GS := Lib.hid S1.out.1
      clear hs h8
      go_wp2_with fail
      refine (s_writes w.heap.size sb am wm F s w1 S1.out).mono ?_; rintro e w2 ⟨vw, rfl, o2, u2⟩
      have S2 := Lib.hid (S1.out.upd0 u2)
      have U2 := Lib.hid (U1.out.trans u2)
      have OW := Lib.hid o2
      obtain ⟨Aw, cw, rfl, _, _⟩ := own_slice o2
      have HWL : Hid (s.W.length ≤ 500) := Lib.hid GS.out.wl
      have OWB : Hid (∀ k, (Value.slice Aw s.W.length cw).ownBlock = some k → k < w2.heap.size) := Lib.hid (fun k hk => (own_lt OW.out hk).2)
      clear o2 u2
      go_wp2_with fail
      refine (s_mark w.heap.size sb am wm F s w2 S2.out U2.out.size).mono ?_
      rintro e w3 ⟨vb, F3, rfl, eb, h3, f3⟩
      obtain ⟨M, hM⟩ : ∃ M, s.marks.length = M := ⟨_, rfl⟩
      rw [hM] at eb ⊢
      have HM := Lib.hid hM
      have S3 := Lib.hid h3
      have U3 := Lib.hid (S2.out.rest U2.out f3)
      clear hM h3
      by_cases h20 : 20 ≤ M
      · rw [if_pos h20] at eb ⊢
        have EB := Lib.hid eb
        clear eb f3
        go_wp2_with fail
        refine (no_err EB.out).mono ?_; rintro e w' ⟨rfl, rfl⟩
        go_wp2_with fail
        refine (no_err EB.out).mono ?_; rintro e w' ⟨rfl, rfl⟩
        go_wp2_with fail
        refine (s_alive w3).mono ?_; rintro e w9 ⟨rfl, u9⟩
        have U9 := Lib.hid (U3.out.trans u9)
        clear u9
        go_wp2_with fail
        go_ret
        exact ⟨rfl, U9.out⟩
      · rw [if_neg h20] at eb ⊢
        obtain rfl := eb.nils
        have OW3 : Hid (Ow encW 55 w3 w1.heap.size (.slice Aw s.W.length cw) s.W) := Lib.hid (OW.out.upd f3.upd (fun b hb hbF => by
          have h1 := (S1.out.lt b hbF).2
          have h2 := (own_lt OW.out hb).1
          omega))
        have NF : Hid (∀ k, (Value.slice Aw s.W.length cw).ownBlock = some k → k ∉ F3) := Lib.hid (fun k hk hF => by
          have h1 := own_lt OW.out hk
          rcases f3.sub k hF with h2 | h2
          · have := (S1.out.lt k h2).2
            omega
          · omega)
        clear eb f3
        have MB := Lib.hid (mark_behind GS.out (by rw [HM.out]; omega))
        rw [HM.out] at MB
        obtain ⟨s3, hs3⟩ : ∃ s3, sMark s = s3 := ⟨_, rfl⟩
        rw [hs3] at S3 MB
        have HLG3 : Hid (s3.log.length ≤ 80) := Lib.hid (by rw [MB.out.2.2.2.2]; exact HLG.out)
        clear hs3
        obtain ⟨mi, hmi⟩ : ∃ mi, ((M + 1 : Nat) : Int) = mi := ⟨_, rfl⟩
        have HMI : Hid (mi = (M : Int) + 1) := Lib.hid (by omega)
        rw [hmi]
        clear hmi
        go_wp2_with fail
        refine (no_nil _).mono ?_; rintro e w' ⟨rfl, rfl⟩
        go_wp2_with fail
        have U4 : Hid (Upd [] w3 (w3.alloc (.cells #[.slice none 0 0, .slice none 0 0, .slice none 0 0] 37))) := Lib.hid ((Upd.refl [] w3).alloc _)
        have R4 := Lib.hid (refS_new w3 w.heap.size U3.out.size)
        have LT := Lib.hid S3.out.lt
        have OW4 := Lib.hid (OW3.out.upd0 U4.out)
        have RBN : Hid (∀ k, (Value.slice Aw s.W.length cw).ownBlock = some k → k ≠ w3.heap.size) := Lib.hid (fun k hk => by have := (own_lt OW3.out hk).2; omega)
        obtain ⟨rb, hrb⟩ : ∃ rb, w3.heap.size = rb := ⟨_, rfl⟩
        rw [hrb] at R4 LT RBN ⊢
        clear hrb
        generalize (w3.alloc (.cells #[.slice none 0 0, .slice none 0 0, .slice none 0 0] 37)) = w4 at *
        have TF : Hid (∀ k ∈ (Value.slice Aw s.W.length cw).ownBlock.toList, k ∉ F3 ∧ k ∉ [rb] ∧ k < w4.heap.size) := Lib.hid (fun k hk => by
          have h1 := NF.out k (by simpa using hk)
          have h2 := RBN.out k (by simpa using hk)
          have h3 := (own_lt OW4.out (b := k) (by simpa using hk)).2
          exact ⟨h1, by simpa using h2, h3⟩)
        have M4 : Hid (MoreSt w.heap.size sb am wm rb (M + 1) (atM s ++ [s.W]) (Value.slice Aw s.W.length cw).ownBlock.toList w4 0 w w4) := Lib.hid ⟨s3, ⟨[], [], []⟩, ⟨F3, [rb], S3.out.upd0 U4.out, R4.out, fun k hk => by have := (LT.out k hk).2; simp; omega, ⟨TF.out, fun _ _ => rfl⟩⟩, MB.out.1, by have := HLG3.out; omega, U3.out.trans U4.out⟩
        clear S3 U4 R4 LT OW3 U3 S2 U2 S1 U1 HLG3 NF RBN TF
        go_loopw [46] (fun v wr => ∃ k : Nat, v = .int .i64 k ∧ k ≤ n' ∧ Hid (MoreSt w.heap.size sb am wm rb (M + 1) (atM s ++ [s.W]) (Value.slice Aw s.W.length cw).ownBlock.toList w4 k w wr)) (fun v _ => n' - (intOf v).toNat)
        case atStart => exact ⟨0, rfl, by omega, M4⟩
        case round =>
          obtain ⟨k, rfl, hk, HK⟩ := hrel
          obtain ⟨sk, dk, hb, hbh, hlk, huk⟩ := HK.out
          have BK := Lib.hid hb
          have HBH := Lib.hid hbh
          have HLK := Lib.hid hlk
          have UK := Lib.hid huk
          clear HK hb hbh hlk huk
          by_cases hkn : k < n'
          · obtain ⟨⟨ak, ac, ax, an⟩, hx⟩ : ∃ x, L'[k]? = some x := ⟨_, List.getElem?_eq_getElem (by rw [HN'.out]; exact hkn)⟩
            obtain ⟨ad, rfl, hlt, e0, e1, e2, e3⟩ := act_cells (HA'.out.upd0 UK.out) hx
            have q1 : (0 : Int) ≤ (k : Int) := by omega
            have q2 : (k : Int) < (n' : Int) := by omega
            clear hx
            obtain ⟨w5, hw5⟩ : ∃ w5, w5 = wr.alloc (.cells #[.int .i64 ak, .int .u64 ac, .int .u64 ax, .int .i64 an] 40) := ⟨_, rfl⟩
            have UA : Hid (Upd [] wr w5) := Lib.hid (by rw [hw5]; exact (Upd.refl [] wr).alloc _)
            have HW5 := Lib.hid hw5
            have BK5 := Lib.hid (BK.out.upd0 UA.out)
            have UK5 := Lib.hid (UK.out.trans UA.out)
            clear hw5
            by_cases h4 : ak = 4
            · have d4 : (ak == 4) = true := by simpa using h4
              by_cases hm : an ≤ mi
              · have dm : decide (an ≤ mi) = true := by simpa using hm
                clear h4 hm
                go_wp2_with fail
                go_roundw
                case rel => rw [← HW5.out]; exact ⟨k + 1, by go_num, by omega, Lib.hid ⟨sk, dk, BK5.out, HBH.out, by have := HLK.out; omega, UK5.out⟩⟩
                case measure => simp [intOf]; omega
              · have dm : decide (an ≤ mi) = false := by simpa using hm
                have HP := Lib.hid (show ¬ ((ak = 4 ∨ ak = 5) ∧ an ≤ ((M + 1 : Nat) : Int)) by rintro ⟨_, h⟩; have := HMI.out; omega)
                clear h4 hm
                have HST : Hid (Behind (M + 1) (atM s ++ [s.W]) (stepS sk (ak, ac, ax, an))) := Lib.hid (HBH.out.step _ HP.out)
                go_wp2_with fail
                rw [← HW5.out]
                refine (doT_ok w.heap.size sb am wm rb (Value.slice Aw s.W.length cw).ownBlock.toList w4 sk dk ak ac ax an w w5 BK5.out (by have := HLK.out; omega) HG.out (Nat.le_refl _) UK5.out UK5.out.size).mono ?_
                rintro e w6 ⟨b, rfl, -, b6, u6, -⟩
                have M6 : Hid (MoreSt w.heap.size sb am wm rb (M + 1) (atM s ++ [s.W]) (Value.slice Aw s.W.length cw).ownBlock.toList w4 (k + 1) w w6) := Lib.hid ⟨_, _, b6, HST.out, by have := log_step sk (ak, ac, ax, an); have := HLK.out; omega, u6⟩
                clear b6 u6 e0 e1 e2 e3
                go_wp2_with fail
                go_roundw
                case rel => exact ⟨k + 1, by go_num, by omega, M6⟩
                case measure => simp [intOf]; omega
            · have d4 : (ak == 4) = false := by simpa using h4
              by_cases h5 : ak = 5
              · have d5 : (ak == 5) = true := by simpa using h5
                by_cases hm : an ≤ mi
                · have dm : decide (an ≤ mi) = true := by simpa using hm
                  clear h4 h5 hm
                  go_wp2_with fail
                  go_roundw
                  case rel => rw [← HW5.out]; exact ⟨k + 1, by go_num, by omega, Lib.hid ⟨sk, dk, BK5.out, HBH.out, by have := HLK.out; omega, UK5.out⟩⟩
                  case measure => simp [intOf]; omega
                · have dm : decide (an ≤ mi) = false := by simpa using hm
                  have HP := Lib.hid (show ¬ ((ak = 4 ∨ ak = 5) ∧ an ≤ ((M + 1 : Nat) : Int)) by rintro ⟨_, h⟩; have := HMI.out; omega)
                  clear h4 h5 hm
                  have HST : Hid (Behind (M + 1) (atM s ++ [s.W]) (stepS sk (ak, ac, ax, an))) := Lib.hid (HBH.out.step _ HP.out)
                  go_wp2_with fail
                  rw [← HW5.out]
                  refine (doT_ok w.heap.size sb am wm rb (Value.slice Aw s.W.length cw).ownBlock.toList w4 sk dk ak ac ax an w w5 BK5.out (by have := HLK.out; omega) HG.out (Nat.le_refl _) UK5.out UK5.out.size).mono ?_
                  rintro e w6 ⟨b, rfl, -, b6, u6, -⟩
                  have M6 : Hid (MoreSt w.heap.size sb am wm rb (M + 1) (atM s ++ [s.W]) (Value.slice Aw s.W.length cw).ownBlock.toList w4 (k + 1) w w6) := Lib.hid ⟨_, _, b6, HST.out, by have := log_step sk (ak, ac, ax, an); have := HLK.out; omega, u6⟩
                  clear b6 u6 e0 e1 e2 e3
                  go_wp2_with fail
                  go_roundw
                  case rel => exact ⟨k + 1, by go_num, by omega, M6⟩
                  case measure => simp [intOf]; omega
              · have d5 : (ak == 5) = false := by simpa using h5
                have HP := Lib.hid (show ¬ ((ak = 4 ∨ ak = 5) ∧ an ≤ ((M + 1 : Nat) : Int)) by rintro ⟨h | h, _⟩ <;> omega)
                clear h4 h5
                have HST : Hid (Behind (M + 1) (atM s ++ [s.W]) (stepS sk (ak, ac, ax, an))) := Lib.hid (HBH.out.step _ HP.out)
                go_wp2_with fail
                rw [← HW5.out]
                refine (doT_ok w.heap.size sb am wm rb (Value.slice Aw s.W.length cw).ownBlock.toList w4 sk dk ak ac ax an w w5 BK5.out (by have := HLK.out; omega) HG.out (Nat.le_refl _) UK5.out UK5.out.size).mono ?_
                rintro e w6 ⟨b, rfl, -, b6, u6, -⟩
                have M6 : Hid (MoreSt w.heap.size sb am wm rb (M + 1) (atM s ++ [s.W]) (Value.slice Aw s.W.length cw).ownBlock.toList w4 (k + 1) w w6) := Lib.hid ⟨_, _, b6, HST.out, by have := log_step sk (ak, ac, ax, an); have := HLK.out; omega, u6⟩
                clear b6 u6 e0 e1 e2 e3
                go_wp2_with fail
                go_roundw
                case rel => exact ⟨k + 1, by go_num, by omega, M6⟩
                case measure => simp [intOf]; omega
          · obtain rfl : k = n' := by omega
            obtain ⟨Fk, Gk, hs, -, -, htk⟩ := BK.out
            have SK := Lib.hid hs
            have TKK := Lib.hid htk
            have OWK : Hid (Ow encW 55 wr w1.heap.size (.slice Aw s.W.length cw) s.W) := Lib.hid (own_same OW4.out (fun b hb => TKK.out.keep b (by simp [hb])))
            have NFK : Hid (∀ b, (Value.slice Aw s.W.length cw).ownBlock = some b → b ∉ Fk) := Lib.hid (fun b hb => (TKK.out.ap b (by simp [hb])).1)
            have BE := Lib.hid (HBH.out.back (by rw [atM_len, HM.out]))
            have IMN : Hid (isM (sBack sk M) ((M + 1 : Nat) : Int) = false) := Lib.hid (isM_no BE.out.2.2.1)
            clear hs htk TKK BK
            go_wp2_with fail
            refine (s_reads w.heap.size sb am wm Fk sk wr SK.out).mono ?_; rintro e w5 ⟨vr, rfl, o5, u5⟩
            obtain ⟨Ar, cr, rfl, hcr, _⟩ := own_slice o5
            obtain ⟨q, hq⟩ : ∃ q, sk.R.length = q := ⟨_, rfl⟩
            have HQ := Lib.hid hq
            have hq5 : q ≤ 500 := hq ▸ SK.out.1.rl
            rw [hq] at o5 hcr ⊢
            have O5 := Lib.hid o5
            clear hq
            have S5 := Lib.hid (SK.out.upd0 u5)
            have U5 := Lib.hid (UK.out.trans u5)
            have OW5 := Lib.hid (OWK.out.upd0 u5)
            have NFR : Hid (∀ b, (Value.slice Ar q cr).ownBlock = some b → b ∉ Fk) := Lib.hid (fun b hb hF => by
              have h1 := (SK.out.lt b hF).2
              have h2 := (own_lt O5.out hb).1
              omega)
            have ND : Hid ((sk.R.map (·.1)).Nodup) := Lib.hid SK.out.1.nd
            clear o5 u5
            go_wp2_with fail
            refine (s_back w.heap.size sb am wm Fk sk mi w5 S5.out (by have := HLK.out; omega)).mono ?_
            rintro e w6 ⟨vf, F6, rfl, ef, h6, f6⟩
            have him : isM sk mi = true := by rw [HMI.out]; exact BE.out.2.2.2
            rw [him] at ef h6
            rw [if_pos rfl] at ef h6
            obtain rfl := ef.nils
            have S6 : Hid (Sets w.heap.size sb am wm F6 w6 (sBack sk M)) := Lib.hid (by have := h6; rwa [show (mi - 1).toNat = M by have := HMI.out; omega] at this)
            have U6 := Lib.hid (S5.out.rest U5.out f6)
            have OW6 : Hid (Ow encW 55 w6 w1.heap.size (.slice Aw s.W.length cw) s.W) := Lib.hid (OW5.out.upd f6.upd NFK.out)
            have O6 : Hid (Ow encR 47 w6 wr.heap.size (.slice Ar q cr) sk.R) := Lib.hid (O5.out.upd f6.upd NFR.out)
            clear ef h6 f6 him
            go_wp2_with fail
            refine (no_nil _).mono ?_; rintro e w' ⟨rfl, rfl⟩
            go_wp2_with fail
            refine (s_writes w.heap.size sb am wm F6 (sBack sk M) w6 S6.out).mono ?_; rintro e w7 ⟨vx, rfl, o7, u7⟩
            rw [BE.out.1] at o7
            have O7 := Lib.hid o7
            have S7 := Lib.hid (S6.out.upd0 u7)
            have U7 := Lib.hid (U6.out.trans u7)
            have OW7 := Lib.hid (OW6.out.upd0 u7)
            have OR7 := Lib.hid (O6.out.upd0 u7)
            clear o7 u7
            go_wp2_with fail
            refine (sameW_ok _ _ s.W s.W vx (.slice Aw s.W.length cw) w7 O7.out OW7.out (by have := HWL.out; omega) (by have := HWL.out; omega)).mono ?_; rintro e w8 ⟨rfl, u8⟩
            rw [decide_eq_true rfl]
            have S8 := Lib.hid (S7.out.upd0 u8)
            have U8 := Lib.hid (U7.out.trans u8)
            have OR8 := Lib.hid (OR7.out.upd0 u8)
            clear u8
            go_wp2_with fail
            refine (s_reads w.heap.size sb am wm F6 (sBack sk M) w8 S8.out).mono ?_; rintro e w9 ⟨vy, rfl, o9, u9⟩
            rw [BE.out.2.1] at o9
            have O9 := Lib.hid o9
            have S9 := Lib.hid (S8.out.upd0 u9)
            have U9 := Lib.hid (U8.out.trans u9)
            have OR9 := Lib.hid (OR8.out.upd0 u9)
            clear o9 u9
            go_wp2_with fail
            refine (sameR_ok _ _ sk.R sk.R vy (.slice Ar q cr) w9 O9.out OR9.out (by rw [HQ.out]; omega) (by rw [HQ.out]; omega)).mono ?_; rintro e wa ⟨rfl, ua⟩
            rw [decide_eq_true rfl]
            have SA := Lib.hid (S9.out.upd0 ua)
            have UA := Lib.hid (U9.out.trans ua)
            have ORA := Lib.hid (OR9.out.upd0 ua)
            have ORN : Hid (wa.ownsRow wr.heap.size 47 2 (.slice Ar q cr) q (flat encR sk.R)) := Lib.hid (by have := ORA.out; unfold Ow at this; rw [HQ.out] at this; exact this)
            clear ua
            go_wp2_with fail
            go_loopw [93] (fun v wr => ∃ i : Nat, v = .int .i64 i ∧ i ≤ q ∧ Hid (Upd [] wa wr)) (fun v _ => q - (intOf v).toNat)
            case atStart => exact ⟨0, rfl, by omega, Lib.hid (.refl _ _)⟩
            case round =>
              obtain ⟨i, rfl, hi, UI⟩ := hrel
              rename World => wi
              by_cases hiq : i < q
              · have q1 : (0 : Int) ≤ (i : Int) := by omega
                have q2 : (i : Int) ≤ (cr : Int) := by omega
                have q3 : i ≤ cr := by omega
                have q4 : (i : Int) < (q : Int) := by omega
                go_wp2_with fail
                go_loopw [100] (fun v wr => ∃ j : Nat, v = .int .i64 j ∧ j ≤ i ∧ Hid (Upd [] wa wr)) (fun v _ => i - (intOf v).toNat)
                case atStart => exact ⟨0, rfl, by omega, UI⟩
                case round =>
                  obtain ⟨j, rfl, hj, UJ⟩ := hrel
                  rename World => wj
                  by_cases hji : j < i
                  · obtain ⟨⟨xc, xv⟩, hx⟩ : ∃ x, sk.R[i]? = some x := ⟨_, List.getElem?_eq_getElem (by rw [HQ.out]; exact hiq)⟩
                    obtain ⟨⟨yc, yv⟩, hy⟩ : ∃ x, sk.R[j]? = some x := ⟨_, List.getElem?_eq_getElem (by rw [HQ.out]; omega)⟩
                    have hne : (xc == yc) = false := by simpa using no_two ND.out hx hy hji
                    obtain ⟨gr, cg, cur, e1, _⟩ := own_form ORN.out (by omega)
                    injection e1 with e1 _ e1'
                    subst e1 e1'
                    have CS : Hid (∀ V, Upd [] wj.drew V → V.cell? ⟨gr, i * 2, none⟩ = some (.int .u64 xc) ∧ V.cell? ⟨gr, j * 2, none⟩ = some (.int .u64 yc)) := Lib.hid (fun V hV => by
                      have ho := ORA.out.upd0 (UJ.out.trans ((Upd.refl [] wj).drew.trans hV))
                      exact ⟨ho.at_ hx 0 _ rfl, ho.at_ hy 0 _ rfl⟩)
                    have q5 : (0 : Int) ≤ (j : Int) := by omega
                    have q6 : (j : Int) < (q : Int) := by omega
                    have q7 : (j : Int) < (i : Int) := by omega
                    clear hx hy
                    go_wp2_with fail
                    refine wp_invN [] [] (by kernel_rfl) (by kernel_rfl) (by kernel_rfl) trivial ?_
                    with_reducible apply wpV_light
                    · simp only [lightOp]
                    · intro W hU hF
                      have f0 := CS.out W hU
                      clear hU hF
                      go_simp
                      exact rfl
                    simp only [Act.put, List.setIfInBounds_toArray, List.set_cons_zero, List.set_cons_succ]
                    with_reducible apply wpV_light
                    · simp only [lightOp]
                    · intro W hU hF
                      have f0 := CS.out W hU
                      clear hU hF
                      go_simp
                      exact rfl
                    simp only [Act.put, List.setIfInBounds_toArray, List.set_cons_zero, List.set_cons_succ]
                    with_reducible apply wpV_light
                    · simp only [lightOp]
                    · intro W hU hF
                      have f0 := CS.out W hU
                      clear hU hF
                      go_simp
                      exact rfl
                    simp only [Act.put, List.setIfInBounds_toArray, List.set_cons_zero, List.set_cons_succ]
                    with_reducible apply wpV_light
                    · simp only [lightOp]
                    · intro W hU hF
                      have f0 := CS.out W hU
                      clear hU hF
                      go_simp
                      exact rfl
                    simp only [Act.put, List.setIfInBounds_toArray, List.set_cons_zero, List.set_cons_succ]
                    with_reducible apply wpV_light
                    · simp only [lightOp]
                    · intro W hU hF
                      have f0 := CS.out W hU
                      clear hU hF
                      go_simp
                      exact rfl
                    simp only [Act.put, List.setIfInBounds_toArray, List.set_cons_zero, List.set_cons_succ]
                    with_reducible apply wpV_light
                    · simp only [lightOp]
                    · intro W hU hF
                      have f0 := CS.out W hU
                      clear hU hF
                      go_simp
                      exact rfl
                    simp only [Act.put, List.setIfInBounds_toArray, List.set_cons_zero, List.set_cons_succ]
                    with_reducible apply wpV_light
                    · simp only [lightOp]
                    · intro W hU hF
                      have f0 := CS.out W hU
                      clear hU hF
                      go_simp
                      exact rfl
                    simp only [Act.put, List.setIfInBounds_toArray, List.set_cons_zero, List.set_cons_succ]
                    with_reducible apply wpV_light
                    · simp only [lightOp]
                    · intro W hU hF
                      have f0 := CS.out W hU
                      clear hU hF
                      go_simp
                      exact rfl
                    simp only [Act.put, List.setIfInBounds_toArray, List.set_cons_zero, List.set_cons_succ]
                    with_reducible apply wpV_light
                    · simp only [lightOp]
                    · intro W hU hF
                      have f0 := CS.out W hU
                      clear hU hF
                      go_simp
                      exact rfl
                    simp only [Act.put, List.setIfInBounds_toArray, List.set_cons_zero, List.set_cons_succ]
                    with_reducible apply wpV_light
                    · simp only [lightOp]
                    · intro W hU hF
                      have f0 := CS.out W hU
                      clear hU hF
                      go_simp
                      exact rfl
                    simp only [Act.put, List.setIfInBounds_toArray, List.set_cons_zero, List.set_cons_succ]
                    with_reducible apply wpV_light
                    · simp only [lightOp]
                    · intro W hU hF
                      have f0 := CS.out W hU
                      clear hU hF
                      go_simp
                      exact rfl
                    simp only [Act.put, List.setIfInBounds_toArray, List.set_cons_zero, List.set_cons_succ]
                    refine wpV_end (fun V hU _ _ => ?_)
                    have UE : Hid (Upd [] wa V) := Lib.hid (UJ.out.trans ((Upd.refl [] wj).drew.trans hU))
                    clear hU
                    refine wpT_end ?_
                    go_wp2_with fail
                    go_roundw
                    case rel => exact ⟨j + 1, by go_num, by omega, UE⟩
                    case measure => simp [intOf]; omega
                  · go_wp2_with fail
                    go_roundw
                    case rel => exact ⟨i + 1, by go_num, by omega, UJ⟩
                    case measure => simp [intOf]; omega
              · go_wp2_with fail
                refine (s_back w.heap.size sb am wm F6 (sBack sk M) mi wi (SA.out.upd0 UI.out) (by have := HLK.out; show (sk.log.take _).length ≤ 1000; rw [List.length_take]; omega)).mono ?_
                rintro e wb ⟨vg, F7, rfl, eg, h7, f7⟩
                have him : isM (sBack sk M) mi = false := by rw [HMI.out]; exact IMN.out
                rw [him] at eg
                rw [if_neg (by simp)] at eg
                have EG := Lib.hid eg
                have UB := Lib.hid ((SA.out.upd0 UI.out).rest (UA.out.trans UI.out) f7)
                clear eg h7 f7 him
                go_wp2_with fail
                refine (no_err EG.out).mono ?_; rintro e w' ⟨rfl, rfl⟩
                go_wp2_with fail
                refine (s_alive wb).mono ?_; rintro e w9 ⟨rfl, u9⟩
                have U9 := Lib.hid (UB.out.trans u9)
                clear u9
                go_wp2_with fail
                go_ret
                exact ⟨rfl, U9.out⟩
end Go.Proofs.YtbpmkbcpnnpdjaaDoor

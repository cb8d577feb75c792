/-
  SetsKeep, the walk.
-/
import Derived.Test.YtbpmkbcpnnpdjaaDoorPlayS
import Derived.Test.YtbpmkbcpnnpdjaaDoorBackP
import Derived.Test.YtbpmkbcpnnpdjaaDoorSBoth
import Derived.Test.YtbpmkbcpnnpdjaaDoorSameWr
import Derived.Test.YtbpmkbcpnnpdjaaDoorSameRd
import Derived.Test.YtbpmkbcpnnpdjaaDoorSAlive
set_option linter.unusedVariables false
namespace Go.Proofs.YtbpmkbcpnnpdjaaDoor
open Go.RowKit Assoc SP
attribute [local go_sem] litStep_value

/-- Rows that lie apart from the sets. -/
structure Apart {α : Type} (E : Enc α) (e : TypeId) (F : List Nat) (w : World) (v : Value) (l : List α) : Prop where
  own : Ow E e w 0 v l
  off : ∀ b, v.ownBlock = some b → b ∉ F
theorem Apart.frm {α : Type} {E : Enc α} {e : TypeId} {F F' : List Nat} {w w' : World} {v : Value} {l : List α} (h : Apart E e F w v l) (f : Frm F F' w w') : Apart E e F' w' v l :=
  ⟨h.own.upd f.upd h.off, fun b hb hf => (f.sub b hf).elim (h.off b hb) (fun h2 => by have := (own_lt h.own hb).2; omega)⟩
theorem Apart.u {α : Type} {E : Enc α} {e : TypeId} {F : List Nat} {w w' : World} {v : Value} {l : List α} (h : Apart E e F w v l) (u : Upd [] w w') : Apart E e F w' v l := h.frm (.of0 u)
theorem Apart.new {α : Type} {E : Enc α} {e : TypeId} {F : List Nat} {w w' : World} {v : Value} {l : List α} {B sb am wm : Nat} {s : SS} (h : Sets B sb am wm F w s) (o : Ow E e w' w.heap.size v l) : Apart E e F w' v l :=
  ⟨own_base o (Nat.zero_le _), fun b hb hf => by have := (h.lt b hf).2; have := (own_lt o hb).1; omega⟩
def KeepF (w w' : World) : Prop := ∀ g cs, Blk w g 83 cs → Blk w' g 83 cs
theorem ErrV.keepF {w w' : World} {v : Value} {n a : Int} (h : ErrV w v n a) (k : KeepF w w') : ErrV w' v n a := by
  rcases h with h | h | ⟨g, h1, h2, h3⟩
  · exact .inl h
  · exact .inr (.inl h)
  · exact .inr (.inr ⟨g, h1, k _ _ h2, h3⟩)
theorem keepF_s {B sb am wm : Nat} {F F' : List Nat} {w w' : World} {s : SS} (h : Sets B sb am wm F w s) (f : Frm F F' w w') : KeepF w w' := fun g cs hb => hb.upd f.upd (h.off hb (by decide) (by decide) (by decide) (by decide))
theorem SP.Behind.wrs {m k : Nat} {P : List AL} {s0 s : SS} (h : Behind m P s0) (h' : Wrs s0 s k) : Behind m P s := ⟨h'.good, by rw [h'.m]; exact h.le, by rw [h'.at_]; exact h.at_⟩
theorem SP.Behind.mark {m : Nat} {P : List AL} {s : SS} (h : Behind m P s) : Behind m P (sMark s) := h.step (3, 0, 0, 0) (by simp)
theorem SP.Behind.keep {m : Nat} {P : List AL} {s : SS} {n : Int} (h : Behind m P s) (hn : (m : Int) < n) (hi : isM s n = true) : Behind m P (sKeep s (n - 1).toNat) := by
  have := h.step (4, 0, 0, n) (by rintro ⟨_, h⟩; simp only at h; omega)
  unfold stepS at this
  simpa [hi] using this
/-- Behind some writes; rows of W0 lie apart. -/
def WrSt7 (B sb am wm : Nat) (s0 : SS) (W0 : AL) (vw : Value) (wS : World) (k : Nat) (w0 wr : World) : Prop := ∃ F s, Sets B sb am wm F wr s ∧ Wrs s0 s k ∧ Apart encW 55 F wr vw W0 ∧ KeepF wS wr ∧ Upd [] w0 wr
set_option maxRecDepth 100000 in
set_option maxHeartbeats 8000000 in
theorem law_skeep (A : Option Addr) (n c : Nat) (L : List SAct) (A1 : Option Addr) (n1 c1 : Nat) (L1 : List SAct) (A2 : Option Addr) (n2 c2 : Nat) (L2 : List SAct) (w : World) (hA : Rd encA w (.slice A n c) L) (hn : L.length = n) (hA1 : Rd encA w (.slice A1 n1 c1) L1) (hn1 : L1.length = n1) (hA2 : Rd encA w (.slice A2 n2 c2) L2) (hn2 : L2.length = n2) (hg : Typed w) :
    Calls Tryd.prog 4 #[.slice A n c, .slice A1 n1 c1, .slice A2 n2 c2] w fun e w' => e = .returned (.bool true) ∧ Upd [] w w' := by
  have HG := Lib.hid hg
  have HA := Lib.hid hA
  have HN := Lib.hid hn
  have HA1 := Lib.hid hA1
  have HN1 := Lib.hid hn1
  have HA2 := Lib.hid hA2
  have HN2 := Lib.hid hn2
  clear hg hA hn hA1 hn1 hA2 hn2
  go_enter Tryd.func4, Tryd.ntmps4
  go_wp2_with fail
  refine (play_ok A n c L w w HA.out HN.out HG.out (.refl _ _)).mono ?_; rintro e w1 h
  rcases h with ⟨rfl, -, u1⟩ | ⟨h80, sb, am, wm, F, rfl, s1, u1⟩
  · have U1 := Lib.hid u1
    clear u1
    go_wp2_with fail
    refine (s_alive w1).mono ?_; rintro e w9 ⟨rfl, u9⟩
    have U9 := Lib.hid (U1.out.trans u9)
    clear u9
    go_wp2_with fail
    go_ret
    exact ⟨rfl, U9.out⟩
  · have U1 := Lib.hid u1
    have S1 := Lib.hid s1
    clear u1 s1
    by_cases h1 : 20 < n1
    · have d : decide ((20 : Int) < (n1 : Int)) = true := by simp; omega
      go_wp2_with fail
      refine (s_alive w1).mono ?_; rintro e w9 ⟨rfl, u9⟩
      have U9 := Lib.hid (U1.out.trans u9)
      clear u9
      go_wp2_with fail
      go_ret
      exact ⟨rfl, U9.out⟩
    have d1 : decide ((20 : Int) < (n1 : Int)) = false := by simp; omega
    by_cases h2 : 20 < n2
    · have d : decide ((20 : Int) < (n2 : Int)) = true := by simp; omega
      go_wp2_with fail
      refine (s_alive w1).mono ?_; rintro e w9 ⟨rfl, u9⟩
      have U9 := Lib.hid (U1.out.trans u9)
      clear u9
      go_wp2_with fail
      go_ret
      exact ⟨rfl, U9.out⟩
    have d2 : decide ((20 : Int) < (n2 : Int)) = false := by simp; omega
    have hn1 : n1 ≤ 20 := by omega
    have hn2 : n2 ≤ 20 := by omega
    obtain ⟨s, hs⟩ : ∃ s, runS L = s := ⟨_, rfl⟩
    have HLG : Hid (s.log.length ≤ 80) := Lib.hid (by rw [← hs]; have := log_run L; omega)
    rw [hs] at S1
    have GS := Lib.hid S1.out.1
    clear hs h1 h2
    go_wp2_with fail
    refine (s_writes w.heap.size sb am wm F s w1 S1.out).mono ?_; rintro e w2 ⟨vw, rfl, o2, u2⟩
    have S2 := Lib.hid (S1.out.upd0 u2)
    have U2 := Lib.hid (U1.out.trans u2)
    have A2' := Lib.hid (Apart.new S1.out o2)
    obtain ⟨Aw, cw, rfl, _, _⟩ := own_slice o2
    have HWL : Hid (s.W.length ≤ 500) := Lib.hid GS.out.wl
    clear o2 u2
    go_wp2_with fail
    refine (s_mark w.heap.size sb am wm F s w2 S2.out U2.out.size).mono ?_
    rintro e w3 ⟨vb, F3, rfl, eb, h3, f3⟩
    obtain ⟨M, hM⟩ : ∃ M, s.marks.length = M := ⟨_, rfl⟩
    rw [hM] at eb ⊢
    have HM := Lib.hid hM
    have A3 := Lib.hid (A2'.out.frm f3)
    have U3 := Lib.hid (S2.out.rest U2.out f3)
    clear hM f3
    by_cases h20 : 20 ≤ M
    · rw [if_pos h20] at eb ⊢
      have S3 : Hid (Sets w.heap.size sb am wm F3 w3 s) := Lib.hid (by have := h3; unfold sMark at this; rwa [if_pos (by rw [HM.out]; exact h20)] at this)
      have EB := Lib.hid eb
      have W0 : Hid (WrSt7 w.heap.size sb am wm s s.W (.slice Aw s.W.length cw) w3 0 w w3) := Lib.hid ⟨F3, s, S3.out, .nil S3.out.1, A3.out, fun _ _ h => h, U3.out⟩
      clear eb h3 h20
      go_wp2_with fail
      go_loopw [43] (fun v wr => ∃ k : Nat, v = .int .i64 k ∧ k ≤ n1 ∧ Hid (WrSt7 w.heap.size sb am wm s s.W (.slice Aw s.W.length cw) w3 k w wr)) (fun v _ => n1 - (intOf v).toNat)
      case atStart => exact ⟨0, rfl, by omega, W0⟩
      case round =>
        obtain ⟨k, rfl, hk, HK⟩ := hrel
        rename World => wi
        obtain ⟨Fk, sk, hb, hbh, hap, hkf, huk⟩ := HK.out
        have SK := Lib.hid hb
        have WK := Lib.hid hbh
        have AK := Lib.hid hap
        have KK := Lib.hid hkf
        have UK := Lib.hid huk
        clear HK hb hbh hap hkf huk
        by_cases hkn : k < n1
        · obtain ⟨⟨ak, ac, ax, an⟩, hx⟩ : ∃ x, L1[k]? = some x := ⟨_, List.getElem?_eq_getElem (by rw [HN1.out]; exact hkn)⟩
          obtain ⟨ad, rfl, hlt, e0, e1, e2, e3⟩ := act_cells (HA1.out.upd0 UK.out) hx
          have q1 : (0 : Int) ≤ (k : Int) := by omega
          have q2 : (k : Int) < (n1 : Int) := by omega
          clear hx
          obtain ⟨w5, hw5⟩ : ∃ w5, w5 = wi.alloc (.cells #[.int .i64 ak, .int .u64 ac, .int .u64 ax, .int .i64 an] 40) := ⟨_, rfl⟩
          have UA : Hid (Upd [] wi w5) := Lib.hid (by rw [hw5]; exact (Upd.refl [] wi).alloc _)
          have HW5 := Lib.hid hw5
          clear hw5
          go_wp2_with fail
          rw [← HW5.out]
          refine (s_write w.heap.size sb am wm Fk sk ac ax w5 (SK.out.upd0 UA.out) (UK.out.trans UA.out).size (by have := WK.out.l; have := HLG.out; omega)).mono ?_
          rintro e w6 ⟨va, F6, rfl, -, h6, f6⟩
          have M6 : Hid (WrSt7 w.heap.size sb am wm s s.W (.slice Aw s.W.length cw) w3 (k + 1) w w6) := Lib.hid ⟨F6, _, h6, WK.out.snoc ac ax, (AK.out.u UA.out).frm f6, fun g cs hb => keepF_s (SK.out.upd0 UA.out) f6 g cs ((KK.out g cs hb).upd UA.out (by simp)), (SK.out.upd0 UA.out).rest (UK.out.trans UA.out) f6⟩
          clear h6 f6 e0 e1 e2 e3
          go_wp2_with fail
          go_roundw
          case rel => exact ⟨k + 1, by go_num, by omega, M6⟩
          case measure => simp [intOf]; omega
        · go_wp2_with fail
          refine (s_mark w.heap.size sb am wm Fk sk wi SK.out UK.out.size).mono ?_
          rintro e w4 ⟨vc, F4, rfl, ec, h4, f4⟩
          obtain ⟨ni, hni⟩ : ∃ mi, ((if 20 ≤ sk.marks.length then 0 else (sk.marks.length + 1 : Nat)) : Int) = mi := ⟨_, rfl⟩
          have U4 := Lib.hid (SK.out.rest UK.out f4)
          have EB4 := Lib.hid ((EB.out.keepF KK.out).keepF (keepF_s SK.out f4))
          rw [hni]
          clear ec h4 f4 hni
          go_wp2_with fail
          refine (no_err EB4.out).mono ?_; rintro e w' ⟨rfl, rfl⟩
          go_wp2_with fail
          refine (s_alive w4).mono ?_; rintro e w9 ⟨rfl, u9⟩
          have U9 := Lib.hid (U4.out.trans u9)
          clear u9
          go_wp2_with fail
          go_ret
          exact ⟨rfl, U9.out⟩
    · rw [if_neg h20] at eb ⊢
      obtain rfl := eb.nils
      have MB := Lib.hid (mark_behind GS.out (by rw [HM.out]; omega))
      rw [HM.out] at MB
      have S3 := Lib.hid h3
      obtain ⟨s3, hs3⟩ : ∃ s3, sMark s = s3 := ⟨_, rfl⟩
      rw [hs3] at S3 MB
      have GL3 : Hid (s3.log.length ≤ 80) := Lib.hid (by rw [MB.out.2.2.2.2]; exact HLG.out)
      have W0 : Hid (WrSt7 w.heap.size sb am wm s3 s.W (.slice Aw s.W.length cw) w3 0 w w3) := Lib.hid ⟨F3, s3, S3.out, .nil S3.out.1, A3.out, fun _ _ h => h, U3.out⟩
      obtain ⟨mi, hmi⟩ : ∃ mi, ((M + 1 : Nat) : Int) = mi := ⟨_, rfl⟩
      have HMI : Hid (mi = (M : Int) + 1) := Lib.hid (by omega)
      have qm1 : 0 ≤ mi := by omega
      have qm2 : mi ≤ 20 := by omega
      rw [hmi]
      have h20n := Lib.hid h20
      clear eb h3 hs3 hmi h20
      go_wp2_with fail
      go_loopw [43] (fun v wr => ∃ k : Nat, v = .int .i64 k ∧ k ≤ n1 ∧ Hid (WrSt7 w.heap.size sb am wm s3 s.W (.slice Aw s.W.length cw) w3 k w wr)) (fun v _ => n1 - (intOf v).toNat)
      case atStart => exact ⟨0, rfl, by omega, W0⟩
      case round =>
        obtain ⟨k, rfl, hk, HK⟩ := hrel
        rename World => wi
        obtain ⟨Fk, sk, hb, hbh, hap, hkf, huk⟩ := HK.out
        have SK := Lib.hid hb
        have WK := Lib.hid hbh
        have AK := Lib.hid hap
        have KK := Lib.hid hkf
        have UK := Lib.hid huk
        clear HK hb hbh hap hkf huk
        by_cases hkn : k < n1
        · obtain ⟨⟨ak, ac, ax, an⟩, hx⟩ : ∃ x, L1[k]? = some x := ⟨_, List.getElem?_eq_getElem (by rw [HN1.out]; exact hkn)⟩
          obtain ⟨ad, rfl, hlt, e0, e1, e2, e3⟩ := act_cells (HA1.out.upd0 UK.out) hx
          have q1 : (0 : Int) ≤ (k : Int) := by omega
          have q2 : (k : Int) < (n1 : Int) := by omega
          clear hx
          obtain ⟨w5, hw5⟩ : ∃ w5, w5 = wi.alloc (.cells #[.int .i64 ak, .int .u64 ac, .int .u64 ax, .int .i64 an] 40) := ⟨_, rfl⟩
          have UA : Hid (Upd [] wi w5) := Lib.hid (by rw [hw5]; exact (Upd.refl [] wi).alloc _)
          have HW5 := Lib.hid hw5
          clear hw5
          go_wp2_with fail
          rw [← HW5.out]
          refine (s_write w.heap.size sb am wm Fk sk ac ax w5 (SK.out.upd0 UA.out) (UK.out.trans UA.out).size (by have := WK.out.l; have := GL3.out; omega)).mono ?_
          rintro e w6 ⟨va, F6, rfl, -, h6, f6⟩
          have M6 : Hid (WrSt7 w.heap.size sb am wm s3 s.W (.slice Aw s.W.length cw) w3 (k + 1) w w6) := Lib.hid ⟨F6, _, h6, WK.out.snoc ac ax, (AK.out.u UA.out).frm f6, fun g cs hb => keepF_s (SK.out.upd0 UA.out) f6 g cs ((KK.out g cs hb).upd UA.out (by simp)), (SK.out.upd0 UA.out).rest (UK.out.trans UA.out) f6⟩
          clear h6 f6 e0 e1 e2 e3
          go_wp2_with fail
          go_roundw
          case rel => exact ⟨k + 1, by go_num, by omega, M6⟩
          case measure => simp [intOf]; omega
        · go_wp2_with fail
          refine (s_mark w.heap.size sb am wm Fk sk wi SK.out UK.out.size).mono ?_
          rintro e w4 ⟨vc, F4, rfl, ec, h4, f4⟩
          have ML : sk.marks.length = M + 1 := by rw [WK.out.m]; exact MB.out.2.1
          rw [ML] at ec ⊢
          have U4 := Lib.hid (SK.out.rest UK.out f4)
          have A4 := Lib.hid (AK.out.frm f4)
          by_cases h19 : 20 ≤ M + 1
          · rw [if_pos h19] at ec ⊢
            have EC := Lib.hid ec
            clear ec h4 f4 h19
            go_wp2_with fail
            refine (no_nil _).mono ?_; rintro e w' ⟨rfl, rfl⟩
            go_wp2_with fail
            refine (no_err EC.out).mono ?_; rintro e w' ⟨rfl, rfl⟩
            go_wp2_with fail
            refine (s_alive w4).mono ?_; rintro e w9 ⟨rfl, u9⟩
            have U9 := Lib.hid (U4.out.trans u9)
            clear u9
            go_wp2_with fail
            go_ret
            exact ⟨rfl, U9.out⟩
          · rw [if_neg h19] at ec ⊢
            obtain rfl := ec.nils
            have S4 := Lib.hid h4
            have MB2 := Lib.hid (mark_behind SK.out.1 (by rw [ML]; omega))
            rw [ML] at MB2
            have BH4 := Lib.hid ((MB.out.1.wrs WK.out).mark)
            obtain ⟨s4, hs4⟩ : ∃ s4, sMark sk = s4 := ⟨_, rfl⟩
            rw [hs4] at S4 MB2 BH4
            have GL4 : Hid (s4.log.length ≤ 100) := Lib.hid (by rw [MB2.out.2.2.2.2]; have := WK.out.l; have := GL3.out; omega)
            have W4 : Hid (WrSt7 w.heap.size sb am wm s4 s.W (.slice Aw s.W.length cw) w4 0 w w4) := Lib.hid ⟨F4, s4, S4.out, .nil S4.out.1, A4.out, fun _ _ h => h, U4.out⟩
            obtain ⟨ni, hni⟩ : ∃ ni, ((M + 1 + 1 : Nat) : Int) = ni := ⟨_, rfl⟩
            have HNI : Hid (ni = (M : Int) + 2) := Lib.hid (by omega)
            have dni : (ni != mi + 1) = false := by have := HMI.out; simp; omega
            rw [hni]
            clear ec h4 f4 hs4 hni h19 ML SK WK AK KK UK
            go_wp2_with fail
            refine (no_nil _).mono ?_; rintro e w' ⟨rfl, rfl⟩
            go_wp2_with fail
            refine (no_nil _).mono ?_; rintro e w' ⟨rfl, rfl⟩
            go_wp2_with fail
            go_loopw [70] (fun v wr => ∃ k : Nat, v = .int .i64 k ∧ k ≤ n2 ∧ Hid (WrSt7 w.heap.size sb am wm s4 s.W (.slice Aw s.W.length cw) w4 k w wr)) (fun v _ => n2 - (intOf v).toNat)
            case atStart => exact ⟨0, rfl, by omega, W4⟩
            case round =>
              obtain ⟨k, rfl, hk, HK⟩ := hrel
              rename World => wj
              obtain ⟨Fj, sj, hb, hbh, hap, hkf, huk⟩ := HK.out
              have SK := Lib.hid hb
              have WK := Lib.hid hbh
              have AK := Lib.hid hap
              have KK := Lib.hid hkf
              have UK := Lib.hid huk
              clear HK hb hbh hap hkf huk
              by_cases hkn : k < n2
              · obtain ⟨⟨ak, ac, ax, an⟩, hx⟩ : ∃ x, L2[k]? = some x := ⟨_, List.getElem?_eq_getElem (by rw [HN2.out]; exact hkn)⟩
                obtain ⟨ad, rfl, hlt, e0, e1, e2, e3⟩ := act_cells (HA2.out.upd0 UK.out) hx
                have q1 : (0 : Int) ≤ (k : Int) := by omega
                have q2 : (k : Int) < (n2 : Int) := by omega
                clear hx
                obtain ⟨w5, hw5⟩ : ∃ w5, w5 = wj.alloc (.cells #[.int .i64 ak, .int .u64 ac, .int .u64 ax, .int .i64 an] 40) := ⟨_, rfl⟩
                have UA : Hid (Upd [] wj w5) := Lib.hid (by rw [hw5]; exact (Upd.refl [] wj).alloc _)
                have HW5 := Lib.hid hw5
                clear hw5
                go_wp2_with fail
                rw [← HW5.out]
                refine (s_write w.heap.size sb am wm Fj sj ac ax w5 (SK.out.upd0 UA.out) (UK.out.trans UA.out).size (by have := WK.out.l; have := GL4.out; omega)).mono ?_
                rintro e w6 ⟨va, F6, rfl, -, h6, f6⟩
                have M6 : Hid (WrSt7 w.heap.size sb am wm s4 s.W (.slice Aw s.W.length cw) w4 (k + 1) w w6) := Lib.hid ⟨F6, _, h6, WK.out.snoc ac ax, (AK.out.u UA.out).frm f6, fun g cs hb => keepF_s (SK.out.upd0 UA.out) f6 g cs ((KK.out g cs hb).upd UA.out (by simp)), (SK.out.upd0 UA.out).rest (UK.out.trans UA.out) f6⟩
                clear h6 f6 e0 e1 e2 e3
                go_wp2_with fail
                go_roundw
                case rel => exact ⟨k + 1, by go_num, by omega, M6⟩
                case measure => simp [intOf]; omega
              · have BHJ := Lib.hid (BH4.out.wrs WK.out)
                have IM : Hid (isM sj ni = true) := Lib.hid (by unfold isM; rw [decide_eq_true_iff, WK.out.m, MB2.out.2.1, HNI.out]; omega)
                have BHK := Lib.hid (BHJ.out.keep (n := ni) (by rw [HNI.out]; omega) IM.out)
                have NT : Hid ((ni - 1).toNat = M + 1) := Lib.hid (by have := HNI.out; omega)
                rw [NT.out] at BHK
                have KL : Hid ((sKeep sj (M + 1)).marks.length = M + 1) := Lib.hid (by show (sj.marks.take _).length = _; rw [List.length_take, WK.out.m, MB2.out.2.1]; omega)
                have IMN : Hid (isM (sKeep sj (M + 1)) ni = false) := Lib.hid (by have := isM_no KL.out; rwa [show ((M + 1 + 1 : Nat) : Int) = ni by have := HNI.out; omega] at this)
                have BE := Lib.hid (BHK.out.back (by rw [atM_len, HM.out]))
                have IMM : Hid (isM (sKeep sj (M + 1)) mi = true) := Lib.hid (by rw [HMI.out]; exact BE.out.2.2.2)
                have LGJ : Hid ((sKeep sj (M + 1)).log.length ≤ 1000) := Lib.hid (by rw [keep_log sj (by omega)]; have := WK.out.l; have := GL4.out; omega)
                have JL : Hid (sj.W.length ≤ 500 ∧ sj.R.length ≤ 500) := Lib.hid ⟨SK.out.1.wl, SK.out.1.rl⟩
                go_wp2_with fail
                refine (s_writes w.heap.size sb am wm Fj sj wj SK.out).mono ?_; rintro e w5 ⟨vx, rfl, o5, u5⟩
                obtain ⟨Ax, cx, rfl, _, _⟩ := own_slice o5
                have S5 := Lib.hid (SK.out.upd0 u5)
                have U5 := Lib.hid (UK.out.trans u5)
                have AX := Lib.hid (Apart.new SK.out o5)
                have AW5 := Lib.hid (AK.out.u u5)
                clear o5 u5
                go_wp2_with fail
                refine (s_reads w.heap.size sb am wm Fj sj w5 S5.out).mono ?_; rintro e w6 ⟨vy, rfl, o6, u6⟩
                obtain ⟨Ay, cy, rfl, _, _⟩ := own_slice o6
                have S6 := Lib.hid (S5.out.upd0 u6)
                have U6 := Lib.hid (U5.out.trans u6)
                have AY := Lib.hid (Apart.new S5.out o6)
                have AX6 := Lib.hid (AX.out.u u6)
                have AW6 := Lib.hid (AW5.out.u u6)
                clear o6 u6
                go_wp2_with fail
                refine (s_keep w.heap.size sb am wm Fj sj ni w6 S6.out).mono ?_
                rintro e w7 ⟨vf, F7, rfl, ef, h7, f7⟩
                rw [IM.out] at ef h7
                rw [if_pos rfl] at ef h7
                obtain rfl := ef.nils
                rw [NT.out] at h7
                have S7 : Hid (Sets w.heap.size sb am wm F7 w7 (sKeep sj (M + 1))) := Lib.hid h7
                have U7 := Lib.hid (S6.out.rest U6.out f7)
                have AX7 := Lib.hid (AX6.out.frm f7)
                have AY7 := Lib.hid (AY.out.frm f7)
                have AW7 := Lib.hid (AW6.out.frm f7)
                clear ef h7 f7
                go_wp2_with fail
                refine (no_nil _).mono ?_; rintro e w' ⟨rfl, rfl⟩
                go_wp2_with fail
                refine (s_writes w.heap.size sb am wm F7 (sKeep sj (M + 1)) w7 S7.out).mono ?_; rintro e w8 ⟨vz, rfl, o8, u8⟩
                have O8 : Hid (Ow encW 55 w8 w7.heap.size vz sj.W) := Lib.hid o8
                have S8 := Lib.hid (S7.out.upd0 u8)
                have U8 := Lib.hid (U7.out.trans u8)
                have AX8 := Lib.hid (AX7.out.u u8)
                have AY8 := Lib.hid (AY7.out.u u8)
                have AW8 := Lib.hid (AW7.out.u u8)
                clear o8 u8
                go_wp2_with fail
                refine (sameW_ok _ _ sj.W sj.W vz (.slice Ax sj.W.length cx) w8 O8.out AX8.out.own (by have := JL.out.1; omega) (by have := JL.out.1; omega)).mono ?_; rintro e w9 ⟨rfl, u9⟩
                rw [decide_eq_true rfl]
                have S9 := Lib.hid (S8.out.upd0 u9)
                have U9 := Lib.hid (U8.out.trans u9)
                have AY9 := Lib.hid (AY8.out.u u9)
                have AW9 := Lib.hid (AW8.out.u u9)
                clear u9
                go_wp2_with fail
                refine (s_reads w.heap.size sb am wm F7 (sKeep sj (M + 1)) w9 S9.out).mono ?_; rintro e wa ⟨vv, rfl, oa, ua⟩
                have OA : Hid (Ow encR 47 wa w9.heap.size vv sj.R) := Lib.hid oa
                have SA := Lib.hid (S9.out.upd0 ua)
                have UA := Lib.hid (U9.out.trans ua)
                have AYA := Lib.hid (AY9.out.u ua)
                have AWA := Lib.hid (AW9.out.u ua)
                clear oa ua
                go_wp2_with fail
                refine (sameR_ok _ _ sj.R sj.R vv (.slice Ay sj.R.length cy) wa OA.out AYA.out.own (by have := JL.out.2; omega) (by have := JL.out.2; omega)).mono ?_; rintro e wb ⟨rfl, ub⟩
                rw [decide_eq_true rfl]
                have SB := Lib.hid (SA.out.upd0 ub)
                have UB := Lib.hid (UA.out.trans ub)
                have AWB := Lib.hid (AWA.out.u ub)
                clear ub
                go_wp2_with fail
                refine (s_keep w.heap.size sb am wm F7 (sKeep sj (M + 1)) ni wb SB.out).mono ?_
                rintro e wc ⟨vg, FC, rfl, eg, hc, fc⟩
                rw [IMN.out] at eg hc
                rw [if_neg (by simp)] at eg hc
                have SC : Hid (Sets w.heap.size sb am wm FC wc (sKeep sj (M + 1))) := Lib.hid hc
                have UC := Lib.hid (SB.out.rest UB.out fc)
                have AWC := Lib.hid (AWB.out.frm fc)
                have EG := Lib.hid eg
                clear eg hc fc
                go_wp2_with fail
                refine (no_err EG.out).mono ?_; rintro e w' ⟨rfl, rfl⟩
                go_wp2_with fail
                refine (s_back w.heap.size sb am wm FC (sKeep sj (M + 1)) mi wc SC.out LGJ.out).mono ?_
                rintro e wd ⟨vh, FD, rfl, eh, hd, fd⟩
                rw [IMM.out] at eh hd
                rw [if_pos rfl] at eh hd
                obtain rfl := eh.nils
                rw [show (mi - 1).toNat = M by have := HMI.out; omega] at hd
                have SD : Hid (Sets w.heap.size sb am wm FD wd (sBack (sKeep sj (M + 1)) M)) := Lib.hid hd
                have UD := Lib.hid (SC.out.rest UC.out fd)
                have AWD := Lib.hid (AWC.out.frm fd)
                clear eh hd fd
                go_wp2_with fail
                refine (no_nil _).mono ?_; rintro e w' ⟨rfl, rfl⟩
                go_wp2_with fail
                refine (s_writes w.heap.size sb am wm FD (sBack (sKeep sj (M + 1)) M) wd SD.out).mono ?_; rintro e we ⟨vi, rfl, oe, ue⟩
                rw [BE.out.1] at oe
                have OE := Lib.hid oe
                have UE := Lib.hid (UD.out.trans ue)
                have AWE := Lib.hid (AWD.out.u ue)
                clear oe ue
                go_wp2_with fail
                refine (sameW_ok _ _ s.W s.W vi (.slice Aw s.W.length cw) we OE.out AWE.out.own (by have := HWL.out; omega) (by have := HWL.out; omega)).mono ?_; rintro e wf ⟨rfl, uf⟩
                rw [decide_eq_true rfl]
                have UF := Lib.hid (UE.out.trans uf)
                clear uf
                go_wp2_with fail
                refine (s_alive wf).mono ?_; rintro e w9 ⟨rfl, u9⟩
                have U9 := Lib.hid (UF.out.trans u9)
                clear u9
                go_wp2_with fail
                go_ret
                exact ⟨rfl, U9.out⟩
end Go.Proofs.YtbpmkbcpnnpdjaaDoor

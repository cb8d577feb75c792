/-
  concordlaw30.StatsTimes.
-/
import Derived.Test.YtiahnlaplkeiaaaDoorStAl
import Derived.Test.YtiahnlaplkeiaaaDoorStR4
import Derived.Test.YtiahnlaplkeiaaaDoorStR5
set_option linter.unusedVariables false
namespace Go.Proofs.YtiahnlaplkeiaaaDoor
open Go.RowKit St
attribute [local go_sem] litStep_value

set_option maxRecDepth 100000 in
set_option maxHeartbeats 8000000 in
theorem law_sttimes (A : Option Addr) (n c : Nat) (L : List En) (p : Int) (w : World) (hl : Rd encE w (.slice A n c) L) (hn : L.length = n) (hc : n ≤ c) (hcm : c ≤ 9223372036854775807) (hil : ∀ x ∈ L, inK .i64 x.th) :
    Calls Tryd.prog 5 #[.slice A n c, .int .i64 p] w fun e w' => e = .returned (.bool true) ∧ Upd [] w w' := by
  have HL := Lib.hid hl
  have HN := Lib.hid hn
  have HIL := Lib.hid hil
  clear hl hn hil
  go_enter Tryd.func5, Tryd.ntmps5
  go_wp2_with fail
  refine (small_ok A n c L w HL.out HN.out (by omega)).mono ?_
  rintro e w1 ⟨rfl, u1⟩
  have U1 := Lib.hid u1
  clear u1
  by_cases hsl' : ¬ smallP L
  · rw [decide_eq_false hsl']
    go_wp2_with fail
    refine (st_alive _).mono ?_
    rintro e wz ⟨rfl, uz⟩
    have UZ := Lib.hid (U1.out.trans uz)
    clear uz
    go_wp2_with fail
    go_ret
    exact ⟨rfl, UZ.out⟩
  have hsl : smallP L := Decidable.of_not_not hsl'
  rw [decide_eq_true hsl]
  have SL := Lib.hid hsl
  have n60 : n ≤ 60 := HN.out ▸ hsl.2
  clear hsl hsl'
  have L1 := Lib.hid (HL.out.upd0 U1.out)
  have SMT : Hid (Sm (ofL L) n) := Lib.hid (by have := sm_ofL (l := L) SL.out.1; rwa [HN.out] at this)
  have BL : Hid ((barsL L).length ≤ 22) := Lib.hid (barsL_len SL.out.1)
  obtain ⟨⟨dn, wo, ab, bl, cp, fl, tm, lg⟩, hτ⟩ : ∃ τ, ofL L = τ := ⟨_, rfl⟩
  rw [hτ] at SMT
  have HTA := Lib.hid hτ
  have tb : -200000000 ≤ tm ∧ tm ≤ 200000000 := by have := SMT.out.tm; simp only at this; omega
  obtain ⟨tb1, tb2⟩ := tb
  clear hτ
  go_wp2_with fail
  refine (of_ok A n c L w1 L1.out HN.out (by omega) SL.out.1).mono ?_
  rintro e w2 ⟨rfl, u2⟩
  rw [HTA.out]
  unfold talV
  have U2 : Hid (Upd [] w (w2.alloc (.cells #[.int .i64 dn, .int .i64 ab, .int .i64 bl, .int .i64 cp, .int .i64 fl, .int .i64 wo, .int .i64 tm, .int .i64 lg] 26))) := Lib.hid ((U1.out.trans u2).alloc _)
  have L2 := Lib.hid ((L1.out.upd0 u2).upd0 ((Upd.refl [] w2).alloc (.cells #[.int .i64 dn, .int .i64 ab, .int .i64 bl, .int .i64 cp, .int .i64 fl, .int .i64 wo, .int .i64 tm, .int .i64 lg] 26)))
  obtain ⟨tb', htb⟩ : ∃ tb', w2.heap.size = tb' := ⟨_, rfl⟩
  have T2 : Hid (Blk (w2.alloc (.cells #[.int .i64 dn, .int .i64 ab, .int .i64 bl, .int .i64 cp, .int .i64 fl, .int .i64 wo, .int .i64 tm, .int .i64 lg] 26)) tb' 26 #[.int .i64 dn, .int .i64 ab, .int .i64 bl, .int .i64 cp, .int .i64 fl, .int .i64 wo, .int .i64 tm, .int .i64 lg]) := Lib.hid (by rw [← htb]; exact Blk.new w2 _ _)
  have TF : Hid (∀ i, (w2.alloc (.cells #[.int .i64 dn, .int .i64 ab, .int .i64 bl, .int .i64 cp, .int .i64 fl, .int .i64 wo, .int .i64 tm, .int .i64 lg] 26)).cell? ⟨w2.heap.size, i, none⟩ = #[.int .i64 dn, .int .i64 ab, .int .i64 bl, .int .i64 cp, .int .i64 fl, .int .i64 wo, .int .i64 tm, Value.int .i64 lg][i]?) := Lib.hid (fun i => by have := T2.out.cell i; rwa [← htb] at this)
  clear u2 L1 htb
  by_cases h0 : 0 < n
  · have d0 : decide ((0 : Int) < (n : Int)) = true := by simp; omega
    have z0 : ¬ (n : Int) = 0 := by omega
    by_cases ht : 0 ≤ tm
    · have d1 : decide (0 ≤ tm) = true := by simpa using ht
      have HM : Hid ((if 0 < n ∧ 0 ≤ tm then tm / (n : Int) else 0) = tm / (n : Int)) := Lib.hid (if_pos ⟨h0, ht⟩)
      have tf := TF.out
      go_wp2_with fail
      refine (mean_ok ⟨dn, wo, ab, bl, cp, fl, tm, lg⟩ n _ SMT.out (by omega)).mono ?_
      rw [HM.out]
      rintro e w3 ⟨rfl, u3⟩
      have U3 := Lib.hid (U2.out.trans u3)
      have L3 := Lib.hid (L2.out.upd0 u3)
      clear u3 U2 L2
      go_wp2_with fail
      refine (quantile_ok A n c L p _ L3.out HN.out (by omega) SL.out.1).mono ?_
      rintro e w4 ⟨rfl, u4⟩
      have U4 := Lib.hid (U3.out.trans u4)
      have L4 := Lib.hid (L3.out.upd0 u4)
      clear u4 U3 L3
      go_wp2_with fail
      refine (rquantile_ok A n c L p _ L4.out HN.out (by omega) SL.out.1).mono ?_
      rintro e w5 ⟨rfl, u5⟩
      have U5 := Lib.hid (U4.out.trans u5)
      have L5 := Lib.hid (L4.out.upd0 u5)
      clear u5 U4 L4
      go_wp2_with fail
      refine (overlap_ok A n c L _ L5.out HN.out (by omega)).mono ?_
      rintro e w6 ⟨rfl, u6⟩
      have U6 := Lib.hid (U5.out.trans u6)
      have L6 := Lib.hid (L5.out.upd0 u6)
      clear u6 U5 L5
      go_wp2_with fail
      refine (roverlap_ok A n c L _ L6.out HN.out (by omega)).mono ?_
      rw [← overL_eq]
      rintro e w7 ⟨rfl, u7⟩
      have U7 := Lib.hid (U6.out.trans u7)
      have L7 := Lib.hid (L6.out.upd0 u7)
      clear u7 U6 L6
      go_wp2_with fail
      refine (bars_ok A n c L _ L7.out HN.out (by omega) SL.out.1).mono ?_
      rintro e w9 ⟨v9, rfl, o9, u9⟩
      have U9 := Lib.hid (U7.out.trans u9)
      have L9 := Lib.hid (L7.out.upd0 u9)
      have O9 := Lib.hid o9
      clear u9 o9 U7 L7
      go_wp2_with fail
      refine (rbars_ok A n c L _ L9.out HN.out (by omega) SL.out.1).mono ?_
      rintro e w10 ⟨v10, rfl, o10, u10⟩
      have U10 := Lib.hid (U9.out.trans u10)
      have L10 := Lib.hid (L9.out.upd0 u10)
      have O10 := Lib.hid o10
      have P10 := Lib.hid (own_upd0 O9.out u10)
      clear u10 o10 U9 L9 O9
      go_wp2_with fail
      refine (ints_ok _ _ (barsL L) (barsL L) v9 v10 _ P10.out O10.out (by have := BL.out; omega) (by have := BL.out; omega)).mono ?_
      rw [decide_eq_true (rfl : barsL L = barsL L)]
      rintro e w11 ⟨rfl, u11⟩
      have U11 := Lib.hid (U10.out.trans u11)
      have L11 := Lib.hid (L10.out.upd0 u11)
      clear u11 U10 L10
      go_wp2_with fail
      refine (busiest_ok A n c L _ L11.out HN.out (by omega) SL.out.1 HIL.out).mono ?_
      rintro e w12 ⟨rfl, u12⟩
      have U12 := Lib.hid (U11.out.trans u12)
      have L12 := Lib.hid (L11.out.upd0 u12)
      clear u12 U11 L11
      go_wp2_with fail
      refine (rbusiest_ok A n c L _ L12.out HN.out (by omega) SL.out.1).mono ?_
      rintro e w13 ⟨rfl, u13⟩
      have U13 := Lib.hid (U12.out.trans u13)
      have L13 := Lib.hid (L12.out.upd0 u13)
      clear u13 U12 L12
      go_wp2_with fail
      refine (st_alive _).mono ?_
      rintro e wz ⟨rfl, uz⟩
      have UZ := Lib.hid (U13.out.trans uz)
      clear uz
      go_wp2_with fail
      go_ret
      exact ⟨rfl, UZ.out⟩
    · have d1 : decide (0 ≤ tm) = false := by simpa using ht
      have HM : Hid ((if 0 < n ∧ 0 ≤ tm then tm / (n : Int) else 0) = 0) := Lib.hid (if_neg (fun h => ht h.2))
      have tf := TF.out
      go_wp2_with fail
      refine (mean_ok ⟨dn, wo, ab, bl, cp, fl, tm, lg⟩ n _ SMT.out (by omega)).mono ?_
      rw [HM.out]
      rintro e w3 ⟨rfl, u3⟩
      have U3 := Lib.hid (U2.out.trans u3)
      have L3 := Lib.hid (L2.out.upd0 u3)
      clear u3 U2 L2
      go_wp2_with fail
      refine (quantile_ok A n c L p _ L3.out HN.out (by omega) SL.out.1).mono ?_
      rintro e w4 ⟨rfl, u4⟩
      have U4 := Lib.hid (U3.out.trans u4)
      have L4 := Lib.hid (L3.out.upd0 u4)
      clear u4 U3 L3
      go_wp2_with fail
      refine (rquantile_ok A n c L p _ L4.out HN.out (by omega) SL.out.1).mono ?_
      rintro e w5 ⟨rfl, u5⟩
      have U5 := Lib.hid (U4.out.trans u5)
      have L5 := Lib.hid (L4.out.upd0 u5)
      clear u5 U4 L4
      go_wp2_with fail
      refine (overlap_ok A n c L _ L5.out HN.out (by omega)).mono ?_
      rintro e w6 ⟨rfl, u6⟩
      have U6 := Lib.hid (U5.out.trans u6)
      have L6 := Lib.hid (L5.out.upd0 u6)
      clear u6 U5 L5
      go_wp2_with fail
      refine (roverlap_ok A n c L _ L6.out HN.out (by omega)).mono ?_
      rw [← overL_eq]
      rintro e w7 ⟨rfl, u7⟩
      have U7 := Lib.hid (U6.out.trans u7)
      have L7 := Lib.hid (L6.out.upd0 u7)
      clear u7 U6 L6
      go_wp2_with fail
      refine (bars_ok A n c L _ L7.out HN.out (by omega) SL.out.1).mono ?_
      rintro e w9 ⟨v9, rfl, o9, u9⟩
      have U9 := Lib.hid (U7.out.trans u9)
      have L9 := Lib.hid (L7.out.upd0 u9)
      have O9 := Lib.hid o9
      clear u9 o9 U7 L7
      go_wp2_with fail
      refine (rbars_ok A n c L _ L9.out HN.out (by omega) SL.out.1).mono ?_
      rintro e w10 ⟨v10, rfl, o10, u10⟩
      have U10 := Lib.hid (U9.out.trans u10)
      have L10 := Lib.hid (L9.out.upd0 u10)
      have O10 := Lib.hid o10
      have P10 := Lib.hid (own_upd0 O9.out u10)
      clear u10 o10 U9 L9 O9
      go_wp2_with fail
      refine (ints_ok _ _ (barsL L) (barsL L) v9 v10 _ P10.out O10.out (by have := BL.out; omega) (by have := BL.out; omega)).mono ?_
      rw [decide_eq_true (rfl : barsL L = barsL L)]
      rintro e w11 ⟨rfl, u11⟩
      have U11 := Lib.hid (U10.out.trans u11)
      have L11 := Lib.hid (L10.out.upd0 u11)
      clear u11 U10 L10
      go_wp2_with fail
      refine (busiest_ok A n c L _ L11.out HN.out (by omega) SL.out.1 HIL.out).mono ?_
      rintro e w12 ⟨rfl, u12⟩
      have U12 := Lib.hid (U11.out.trans u12)
      have L12 := Lib.hid (L11.out.upd0 u12)
      clear u12 U11 L11
      go_wp2_with fail
      refine (rbusiest_ok A n c L _ L12.out HN.out (by omega) SL.out.1).mono ?_
      rintro e w13 ⟨rfl, u13⟩
      have U13 := Lib.hid (U12.out.trans u13)
      have L13 := Lib.hid (L12.out.upd0 u13)
      clear u13 U12 L12
      go_wp2_with fail
      refine (st_alive _).mono ?_
      rintro e wz ⟨rfl, uz⟩
      have UZ := Lib.hid (U13.out.trans uz)
      clear uz
      go_wp2_with fail
      go_ret
      exact ⟨rfl, UZ.out⟩
  · have d0 : decide ((0 : Int) < (n : Int)) = false := by simp; omega
    have HM : Hid ((if 0 < n ∧ 0 ≤ tm then tm / (n : Int) else 0) = 0) := Lib.hid (if_neg (fun h => h0 h.1))
    have tf := TF.out
    go_wp2_with fail
    refine (mean_ok ⟨dn, wo, ab, bl, cp, fl, tm, lg⟩ n _ SMT.out (by omega)).mono ?_
    rw [HM.out]
    rintro e w3 ⟨rfl, u3⟩
    have U3 := Lib.hid (U2.out.trans u3)
    have L3 := Lib.hid (L2.out.upd0 u3)
    clear u3 U2 L2
    go_wp2_with fail
    refine (quantile_ok A n c L p _ L3.out HN.out (by omega) SL.out.1).mono ?_
    rintro e w4 ⟨rfl, u4⟩
    have U4 := Lib.hid (U3.out.trans u4)
    have L4 := Lib.hid (L3.out.upd0 u4)
    clear u4 U3 L3
    go_wp2_with fail
    refine (rquantile_ok A n c L p _ L4.out HN.out (by omega) SL.out.1).mono ?_
    rintro e w5 ⟨rfl, u5⟩
    have U5 := Lib.hid (U4.out.trans u5)
    have L5 := Lib.hid (L4.out.upd0 u5)
    clear u5 U4 L4
    go_wp2_with fail
    refine (overlap_ok A n c L _ L5.out HN.out (by omega)).mono ?_
    rintro e w6 ⟨rfl, u6⟩
    have U6 := Lib.hid (U5.out.trans u6)
    have L6 := Lib.hid (L5.out.upd0 u6)
    clear u6 U5 L5
    go_wp2_with fail
    refine (roverlap_ok A n c L _ L6.out HN.out (by omega)).mono ?_
    rw [← overL_eq]
    rintro e w7 ⟨rfl, u7⟩
    have U7 := Lib.hid (U6.out.trans u7)
    have L7 := Lib.hid (L6.out.upd0 u7)
    clear u7 U6 L6
    go_wp2_with fail
    refine (bars_ok A n c L _ L7.out HN.out (by omega) SL.out.1).mono ?_
    rintro e w9 ⟨v9, rfl, o9, u9⟩
    have U9 := Lib.hid (U7.out.trans u9)
    have L9 := Lib.hid (L7.out.upd0 u9)
    have O9 := Lib.hid o9
    clear u9 o9 U7 L7
    go_wp2_with fail
    refine (rbars_ok A n c L _ L9.out HN.out (by omega) SL.out.1).mono ?_
    rintro e w10 ⟨v10, rfl, o10, u10⟩
    have U10 := Lib.hid (U9.out.trans u10)
    have L10 := Lib.hid (L9.out.upd0 u10)
    have O10 := Lib.hid o10
    have P10 := Lib.hid (own_upd0 O9.out u10)
    clear u10 o10 U9 L9 O9
    go_wp2_with fail
    refine (ints_ok _ _ (barsL L) (barsL L) v9 v10 _ P10.out O10.out (by have := BL.out; omega) (by have := BL.out; omega)).mono ?_
    rw [decide_eq_true (rfl : barsL L = barsL L)]
    rintro e w11 ⟨rfl, u11⟩
    have U11 := Lib.hid (U10.out.trans u11)
    have L11 := Lib.hid (L10.out.upd0 u11)
    clear u11 U10 L10
    go_wp2_with fail
    refine (busiest_ok A n c L _ L11.out HN.out (by omega) SL.out.1 HIL.out).mono ?_
    rintro e w12 ⟨rfl, u12⟩
    have U12 := Lib.hid (U11.out.trans u12)
    have L12 := Lib.hid (L11.out.upd0 u12)
    clear u12 U11 L11
    go_wp2_with fail
    refine (rbusiest_ok A n c L _ L12.out HN.out (by omega) SL.out.1).mono ?_
    rintro e w13 ⟨rfl, u13⟩
    have U13 := Lib.hid (U12.out.trans u13)
    have L13 := Lib.hid (L12.out.upd0 u13)
    clear u13 U12 L12
    go_wp2_with fail
    refine (st_alive _).mono ?_
    rintro e wz ⟨rfl, uz⟩
    have UZ := Lib.hid (U13.out.trans uz)
    clear uz
    go_wp2_with fail
    go_ret
    exact ⟨rfl, UZ.out⟩
end Go.Proofs.YtiahnlaplkeiaaaDoor

/-
  concordref30: Quantile, Busiest.
-/
import Derived.Test.YtiahnlaplkeiaaaDoorStR2
set_option linter.unusedVariables false
namespace Go.Proofs.YtiahnlaplkeiaaaDoor
open Go.RowKit St
attribute [local go_sem] litStep_value

set_option maxRecDepth 100000 in
set_option maxHeartbeats 8000000 in
theorem rquantile_ok (A : Option Addr) (n c : Nat) (L : List En) (p : Int) (w : World) (h : Rd encE w (.slice A n c) L) (hn : L.length = n) (hl : n ≤ 100) (he : ∀ x ∈ L, EB x) :
    Calls Tryd.prog 17 #[.slice A n c, .int .i64 p] w fun e w' => e = .returned (.int .i64 (quantL L p)) ∧ Upd [] w w' := by
  have RS := Lib.hid (rsorted_ok A n c L w h hn (by omega) he)
  have HN := Lib.hid hn
  clear h hn he
  go_enter Tryd.func17, Tryd.ntmps17
  go_wp2_with fail
  refine RS.out.mono ?_
  rintro e w1 ⟨v, rfl, ov, u1⟩
  have OV := Lib.hid ov
  have U1 := Lib.hid u1
  obtain ⟨Av, cv, rfl, _, _⟩ := own_slice ov
  clear ov u1 RS
  by_cases h0 : n = 0
  · subst h0
    have HQ : Hid (quantL L p = 0) := Lib.hid (by unfold quantL; rw [if_pos HN.out])
    go_wp2_with fail
    go_ret
    rw [HQ.out]
    exact ⟨rfl, U1.out⟩
  have d0 : ((n : Int) == 0) = false := by
    have : ¬ (n : Int) = 0 := by omega
    simpa using this
  obtain ⟨g, cg, cur, eg, hg, _⟩ := own_form OV.out (by omega)
  injection eg with eg _ eg'
  subst eg eg'
  have TL : Hid ((tooks L).length = n) := Lib.hid (by rw [tooks_len, HN.out])
  by_cases p1 : p < 0
  · have hc : clampP p = 0 := by unfold clampP; omega
    have e1 : decide (p < 0) = true := by simpa using p1
    obtain ⟨x, hx⟩ : ∃ x, (n : Int) * 0 = x := ⟨_, rfl⟩
    have HX : Hid (qIx n p = max 0 ((x + 999) / 1000 - 1)) := Lib.hid (by unfold qIx; rw [hc, hx])
    have xr : 0 ≤ x ∧ x ≤ 1000 * n := by omega
    obtain ⟨xr1, xr2⟩ := xr
    go_wp2_with fail
    go_loopw [6] (fun v wr => ∃ a : Int, v = .int .i64 a ∧ 0 ≤ a ∧ a ≤ 200 ∧ 1000 * a < x + 1000 ∧ w1 = wr) (fun v _ => 300 - (intOf v).toNat)
    case atStart => refine ⟨0, ?_, ?_, ?_, ?_, ?_⟩ <;> first | rfl | trivial | omega
    case round =>
      obtain ⟨a, rfl, a1, a2, a3, rfl⟩ := hrel
      by_cases hax : 1000 * a < x
      · have d1 : decide (1000 * a < x) = true := by simpa using hax
        go_wp2_with fail
        go_roundw
        case rel => refine ⟨a + 1, by go_num, by omega, by omega, by omega, ?_⟩ <;> first | rfl | trivial
        case measure => simp [intOf]; omega
      · have d1 : decide (1000 * a < x) = false := by simpa using hax
        by_cases ha : a < 1
        · have d2 : decide (a < 1) = true := by simpa using ha
          have HI : qIx n p = 0 := by rw [HX.out]; omega
          obtain ⟨y, hy⟩ : ∃ y, (tooks L)[0]? = some y := ⟨_, List.getElem?_eq_getElem (by rw [TL.out]; omega)⟩
          have HR : Hid (quantL L p = y) := Lib.hid (by unfold quantL; rw [HN.out, if_neg h0, HI, List.getD_eq_getElem?_getD]; simp [hy])
          have c0 : w1.cell? ⟨g, 0, none⟩ = some (.int .i64 y) := own_cell OV.out 0 _ (by rw [List.getElem?_map, hy]; rfl)
          have n1 : (0 : Int) < (n : Int) := by omega
          clear hy HI
          go_wp2_with fail
          go_ret
          rw [HR.out]
          exact ⟨rfl, U1.out⟩
        · have d2 : decide (a < 1) = false := by simpa using ha
          obtain ⟨i, hi⟩ : ∃ i : Nat, a - 1 = i := ⟨(a - 1).toNat, by omega⟩
          have HI : qIx n p = i := by rw [HX.out]; omega
          obtain ⟨y, hy⟩ : ∃ y, (tooks L)[i]? = some y := ⟨_, List.getElem?_eq_getElem (by rw [TL.out]; omega)⟩
          have HR : Hid (quantL L p = y) := Lib.hid (by unfold quantL; rw [HN.out, if_neg h0, HI, List.getD_eq_getElem?_getD]; simp [hy])
          have c0 : w1.cell? ⟨g, i, none⟩ = some (.int .i64 y) := own_cell OV.out i _ (by rw [List.getElem?_map, hy]; rfl)
          have p1 : (0 : Int) ≤ (i : Int) := by omega
          have p2 : (i : Int) < (n : Int) := by omega
          obtain rfl : a = i + 1 := by omega
          clear hy HI
          go_wp2_with fail
          go_ret
          rw [HR.out]
          exact ⟨rfl, U1.out⟩
  · have e1 : decide (p < 0) = false := by simpa using p1
    by_cases p2 : 1000 < p
    · have hc : clampP p = 1000 := by unfold clampP; omega
      have e2 : decide (1000 < p) = true := by simpa using p2
      obtain ⟨x, hx⟩ : ∃ x, (n : Int) * 1000 = x := ⟨_, rfl⟩
      have HX : Hid (qIx n p = max 0 ((x + 999) / 1000 - 1)) := Lib.hid (by unfold qIx; rw [hc, hx])
      have xr : 0 ≤ x ∧ x ≤ 1000 * n := by omega
      obtain ⟨xr1, xr2⟩ := xr
      go_wp2_with fail
      go_loopw [6] (fun v wr => ∃ a : Int, v = .int .i64 a ∧ 0 ≤ a ∧ a ≤ 200 ∧ 1000 * a < x + 1000 ∧ w1 = wr) (fun v _ => 300 - (intOf v).toNat)
      case atStart => refine ⟨0, ?_, ?_, ?_, ?_, ?_⟩ <;> first | rfl | trivial | omega
      case round =>
        obtain ⟨a, rfl, a1, a2, a3, rfl⟩ := hrel
        by_cases hax : 1000 * a < x
        · have d1 : decide (1000 * a < x) = true := by simpa using hax
          go_wp2_with fail
          go_roundw
          case rel => refine ⟨a + 1, by go_num, by omega, by omega, by omega, ?_⟩ <;> first | rfl | trivial
          case measure => simp [intOf]; omega
        · have d1 : decide (1000 * a < x) = false := by simpa using hax
          by_cases ha : a < 1
          · have d2 : decide (a < 1) = true := by simpa using ha
            have HI : qIx n p = 0 := by rw [HX.out]; omega
            obtain ⟨y, hy⟩ : ∃ y, (tooks L)[0]? = some y := ⟨_, List.getElem?_eq_getElem (by rw [TL.out]; omega)⟩
            have HR : Hid (quantL L p = y) := Lib.hid (by unfold quantL; rw [HN.out, if_neg h0, HI, List.getD_eq_getElem?_getD]; simp [hy])
            have c0 : w1.cell? ⟨g, 0, none⟩ = some (.int .i64 y) := own_cell OV.out 0 _ (by rw [List.getElem?_map, hy]; rfl)
            have n1 : (0 : Int) < (n : Int) := by omega
            clear hy HI
            go_wp2_with fail
            go_ret
            rw [HR.out]
            exact ⟨rfl, U1.out⟩
          · have d2 : decide (a < 1) = false := by simpa using ha
            obtain ⟨i, hi⟩ : ∃ i : Nat, a - 1 = i := ⟨(a - 1).toNat, by omega⟩
            have HI : qIx n p = i := by rw [HX.out]; omega
            obtain ⟨y, hy⟩ : ∃ y, (tooks L)[i]? = some y := ⟨_, List.getElem?_eq_getElem (by rw [TL.out]; omega)⟩
            have HR : Hid (quantL L p = y) := Lib.hid (by unfold quantL; rw [HN.out, if_neg h0, HI, List.getD_eq_getElem?_getD]; simp [hy])
            have c0 : w1.cell? ⟨g, i, none⟩ = some (.int .i64 y) := own_cell OV.out i _ (by rw [List.getElem?_map, hy]; rfl)
            have p1 : (0 : Int) ≤ (i : Int) := by omega
            have p2 : (i : Int) < (n : Int) := by omega
            obtain rfl : a = i + 1 := by omega
            clear hy HI
            go_wp2_with fail
            go_ret
            rw [HR.out]
            exact ⟨rfl, U1.out⟩
    · have hc : clampP p = p := by unfold clampP; omega
      have e2 : decide (1000 < p) = false := by simpa using p2
      have m1 : 0 ≤ (n : Int) * p := Int.mul_nonneg (by omega) (by omega)
      have m2 : (n : Int) * p ≤ n * 1000 := Int.mul_le_mul_of_nonneg_left (by omega) (by omega)
      obtain ⟨x, hx⟩ : ∃ x, (n : Int) * p = x := ⟨_, rfl⟩
      have HX : Hid (qIx n p = max 0 ((x + 999) / 1000 - 1)) := Lib.hid (by unfold qIx; rw [hc, hx])
      have xr : 0 ≤ x ∧ x ≤ 1000 * n := by omega
      obtain ⟨xr1, xr2⟩ := xr
      go_wp2_with fail
      go_loopw [6] (fun v wr => ∃ a : Int, v = .int .i64 a ∧ 0 ≤ a ∧ a ≤ 200 ∧ 1000 * a < x + 1000 ∧ w1 = wr) (fun v _ => 300 - (intOf v).toNat)
      case atStart => refine ⟨0, ?_, ?_, ?_, ?_, ?_⟩ <;> first | rfl | trivial | omega
      case round =>
        obtain ⟨a, rfl, a1, a2, a3, rfl⟩ := hrel
        by_cases hax : 1000 * a < x
        · have d1 : decide (1000 * a < x) = true := by simpa using hax
          go_wp2_with fail
          go_roundw
          case rel => refine ⟨a + 1, by go_num, by omega, by omega, by omega, ?_⟩ <;> first | rfl | trivial
          case measure => simp [intOf]; omega
        · have d1 : decide (1000 * a < x) = false := by simpa using hax
          by_cases ha : a < 1
          · have d2 : decide (a < 1) = true := by simpa using ha
            have HI : qIx n p = 0 := by rw [HX.out]; omega
            obtain ⟨y, hy⟩ : ∃ y, (tooks L)[0]? = some y := ⟨_, List.getElem?_eq_getElem (by rw [TL.out]; omega)⟩
            have HR : Hid (quantL L p = y) := Lib.hid (by unfold quantL; rw [HN.out, if_neg h0, HI, List.getD_eq_getElem?_getD]; simp [hy])
            have c0 : w1.cell? ⟨g, 0, none⟩ = some (.int .i64 y) := own_cell OV.out 0 _ (by rw [List.getElem?_map, hy]; rfl)
            have n1 : (0 : Int) < (n : Int) := by omega
            clear hy HI
            go_wp2_with fail
            go_ret
            rw [HR.out]
            exact ⟨rfl, U1.out⟩
          · have d2 : decide (a < 1) = false := by simpa using ha
            obtain ⟨i, hi⟩ : ∃ i : Nat, a - 1 = i := ⟨(a - 1).toNat, by omega⟩
            have HI : qIx n p = i := by rw [HX.out]; omega
            obtain ⟨y, hy⟩ : ∃ y, (tooks L)[i]? = some y := ⟨_, List.getElem?_eq_getElem (by rw [TL.out]; omega)⟩
            have HR : Hid (quantL L p = y) := Lib.hid (by unfold quantL; rw [HN.out, if_neg h0, HI, List.getD_eq_getElem?_getD]; simp [hy])
            have c0 : w1.cell? ⟨g, i, none⟩ = some (.int .i64 y) := own_cell OV.out i _ (by rw [List.getElem?_map, hy]; rfl)
            have p1 : (0 : Int) ≤ (i : Int) := by omega
            have p2 : (i : Int) < (n : Int) := by omega
            obtain rfl : a = i + 1 := by omega
            clear hy HI
            go_wp2_with fail
            go_ret
            rw [HR.out]
            exact ⟨rfl, U1.out⟩
set_option maxRecDepth 100000 in
set_option maxHeartbeats 8000000 in
theorem rbusiest_ok (A : Option Addr) (n c : Nat) (L : List En) (w : World) (h : Rd encE w (.slice A n c) L) (hn : L.length = n) (hl : n ≤ 100) (he : ∀ x ∈ L, EB x) :
    Calls Tryd.prog 20 #[.slice A n c] w fun e w' => e = .returned (.int .i64 (busyL L)) ∧ Upd [] w w' := by
  have RT := Lib.hid (rthreads_ok A n c L w h hn (by omega))
  have H := Lib.hid h
  have HN := Lib.hid hn
  have HE := Lib.hid he
  have KL : Hid ((thr L).length ≤ 100) := Lib.hid (by have := thr_len L; omega)
  obtain ⟨f, hf⟩ : ∃ f, timeT L = f := ⟨_, rfl⟩
  have HF := Lib.hid hf
  have HB : Hid (busyL L = if bestA f (thr L) < 0 then -1 else (thr L).getD (bestA f (thr L)).toNat 0) := Lib.hid (by rw [← hf]; rfl)
  clear h hn he hf
  go_enter Tryd.func20, Tryd.ntmps20
  go_wp2_with fail
  refine RT.out.mono ?_
  rintro e w1 ⟨v, rfl, ov, u1⟩
  have U1 := Lib.hid u1
  obtain ⟨q, hq⟩ : ∃ q, (thr L).length = q := ⟨_, rfl⟩
  obtain ⟨Av, cv, rfl, _, _⟩ := own_slice ov
  have q100 : q ≤ 100 := hq ▸ KL.out
  have HQ := Lib.hid hq
  rw [hq] at ov ⊢
  have OV := Lib.hid ov
  clear ov u1 hq KL RT
  go_wp2_with fail
  go_loopw [4, 5] (fun vb v wr => ∃ (k : Nat) (b : Int), v = .int .i64 k ∧ vb = .int .i64 b ∧ k ≤ q ∧ -1 ≤ b ∧ b < k ∧ Hid (Best f (thr L) k b) ∧ Hid (Upd [] w1 wr)) (fun _ v _ => q - (intOf v).toNat)
  case atStart => exact ⟨0, -1, rfl, rfl, by omega, by omega, by omega, Lib.hid (best_start _ _), Lib.hid (.refl _ _)⟩
  case round =>
    obtain ⟨k, b, rfl, rfl, hk, b1, b2, KB, KU⟩ := hrel
    by_cases hkn : k < q
    · obtain ⟨y, hy⟩ : ∃ y, (thr L)[k]? = some y := ⟨_, List.getElem?_eq_getElem (by rw [HQ.out]; exact hkn)⟩
      have HY := Lib.hid hy
      obtain ⟨g, cg, cur, eg, hg, _⟩ := own_form OV.out (by omega)
      injection eg with eg _ eg'
      subst eg eg'
      have CY : Hid (∀ W, Upd [] wr.drew W → W.cell? ⟨g, k, none⟩ = some (.int .i64 y)) := Lib.hid (fun W hW => own_cell (own_upd0 OV.out (KU.out.trans ((Upd.refl [] wr).drew.trans hW))) k _ (by rw [List.getElem?_map, HY.out]; rfl))
      have q1 : (0 : Int) ≤ (k : Int) := by omega
      have q2 : (k : Int) < (q : Int) := by omega
      clear hy
      by_cases hb : b < 0
      · have hb1 : b = -1 := by omega
        subst hb1
        go_wp2_with fail
        refine wp_invN [] [] (by kernel_rfl) (by kernel_rfl) (by kernel_rfl) trivial ?_
        with_reducible apply wpV_light
        · simp only [lightOp]
        · intro W hU hF
          have f0 := CY.out W hU
          clear hU hF
          go_simp
          exact rfl
        simp only [Act.put, List.setIfInBounds_toArray, List.set_cons_zero, List.set_cons_succ]
        with_reducible apply wpV_light
        · simp only [lightOp]
        · intro W hU hF
          have f0 := CY.out W hU
          clear hU hF
          go_simp
          exact rfl
        simp only [Act.put, List.setIfInBounds_toArray, List.set_cons_zero, List.set_cons_succ]
        with_reducible apply wpV_light
        · simp only [lightOp]
        · intro W hU hF
          have f0 := CY.out W hU
          clear hU hF
          go_simp
          exact rfl
        simp only [Act.put, List.setIfInBounds_toArray, List.set_cons_zero, List.set_cons_succ]
        refine wpV_skip (by rfl) (by simp only [lightOp]) ?_
        simp only [Act.put, List.setIfInBounds_toArray, List.set_cons_zero, List.set_cons_succ]
        refine wpV_skip (by rfl) (by simp only [lightOp]) ?_
        simp only [Act.put, List.setIfInBounds_toArray, List.set_cons_zero, List.set_cons_succ]
        refine wpV_skip (by rfl) (by simp only [lightOp]) ?_
        simp only [Act.put, List.setIfInBounds_toArray, List.set_cons_zero, List.set_cons_succ]
        refine wpV_skip (by rfl) (by simp only [lightOp]) ?_
        simp only [Act.put, List.setIfInBounds_toArray, List.set_cons_zero, List.set_cons_succ]
        refine wpV_skip (by rfl) (by simp only [lightOp]) ?_
        simp only [Act.put, List.setIfInBounds_toArray, List.set_cons_zero, List.set_cons_succ]
        refine wpV_heavySkip (by simp only [lightOp]) (by rfl) (fun W hU hk => outV_new rfl trivial (by intro b hb; cases hb) (.refl _ _)) ?_
        rintro _ trivial
        simp only [Act.put, List.setIfInBounds_toArray, List.set_cons_zero, List.set_cons_succ]
        refine wpV_heavySkip (by simp only [lightOp]) (by rfl) (fun W hU hk => outV_new rfl trivial (by intro b hb; cases hb) (.refl _ _)) ?_
        rintro _ trivial
        simp only [Act.put, List.setIfInBounds_toArray, List.set_cons_zero, List.set_cons_succ]
        refine wpV_skip (by rfl) (by simp only [lightOp]) ?_
        simp only [Act.put, List.setIfInBounds_toArray, List.set_cons_zero, List.set_cons_succ]
        refine wpV_skip (by rfl) (by simp only [lightOp]) ?_
        simp only [Act.put, List.setIfInBounds_toArray, List.set_cons_zero, List.set_cons_succ]
        refine wpV_skip (by rfl) (by simp only [lightOp]) ?_
        simp only [Act.put, List.setIfInBounds_toArray, List.set_cons_zero, List.set_cons_succ]
        refine wpV_skip (by rfl) (by simp only [lightOp]) ?_
        simp only [Act.put, List.setIfInBounds_toArray, List.set_cons_zero, List.set_cons_succ]
        refine wpV_skip (by rfl) (by simp only [lightOp]) ?_
        simp only [Act.put, List.setIfInBounds_toArray, List.set_cons_zero, List.set_cons_succ]
        refine wpV_skip (by rfl) (by simp only [lightOp]) ?_
        simp only [Act.put, List.setIfInBounds_toArray, List.set_cons_zero, List.set_cons_succ]
        refine wpV_heavySkip (by simp only [lightOp]) (by rfl) (fun W hU hk => outV_new rfl trivial (by intro b hb; cases hb) (.refl _ _)) ?_
        rintro _ trivial
        simp only [Act.put, List.setIfInBounds_toArray, List.set_cons_zero, List.set_cons_succ]
        refine wpV_heavySkip (by simp only [lightOp]) (by rfl) (fun W hU hk => outV_new rfl trivial (by intro b hb; cases hb) (.refl _ _)) ?_
        rintro _ trivial
        simp only [Act.put, List.setIfInBounds_toArray, List.set_cons_zero, List.set_cons_succ]
        refine wpV_skip (by rfl) (by simp only [lightOp]) ?_
        simp only [Act.put, List.setIfInBounds_toArray, List.set_cons_zero, List.set_cons_succ]
        refine wpV_skip (by rfl) (by simp only [lightOp]) ?_
        simp only [Act.put, List.setIfInBounds_toArray, List.set_cons_zero, List.set_cons_succ]
        with_reducible apply wpV_light
        · simp only [lightOp]
        · intro W hU hF
          have f0 := CY.out W hU
          clear hU hF
          go_simp
          exact rfl
        simp only [Act.put, List.setIfInBounds_toArray, List.set_cons_zero, List.set_cons_succ]
        refine wpV_end (fun W hU _ hF => ?_)
        have U6 : Hid (Upd [] w1 W) := Lib.hid (KU.out.trans ((Upd.refl [] wr).drew.trans hU))
        clear hU hF
        refine wpT_end ?_
        go_wp2_with fail
        go_roundw
        case rel => exact ⟨k + 1, k, by go_num, by go_num, by omega, by omega, by omega, Lib.hid (best_take KB.out HY.out (.inl hb)), U6⟩
        case measure => simp [intOf]; omega
      · obtain ⟨j, rfl⟩ : ∃ j : Nat, b = j := ⟨b.toNat, by omega⟩
        obtain ⟨z, hz⟩ : ∃ z, (thr L)[j]? = some z := ⟨_, List.getElem?_eq_getElem (by rw [HQ.out]; omega)⟩
        have FZ : Hid ((thr L).getD (j : Int).toNat 0 = z) := Lib.hid (by rw [Int.toNat_natCast, List.getD_eq_getElem?_getD, hz]; rfl)
        obtain ⟨⟨dn, wo, ab, bl, cp, fl, tm, lg⟩, hτ⟩ : ∃ τ, ofL (ofT L y) = τ := ⟨_, rfl⟩
        obtain ⟨⟨dn', wo', ab', bl', cp', fl', tz, lg'⟩, hσ⟩ : ∃ τ, ofL (ofT L z) = τ := ⟨_, rfl⟩
        have FY : Hid (f y = tm) := Lib.hid (by rw [← HF.out]; unfold timeT; rw [hτ])
        have FT : Hid (f z = tz) := Lib.hid (by rw [← HF.out]; unfold timeT; rw [hσ])
        have HTA := Lib.hid hτ
        have HSA := Lib.hid hσ
        have LY : Hid (∀ t, (ofT L t).length ≤ 100) := Lib.hid (fun t => by
          have h1 : (ofT L t).length ≤ L.length := List.length_filter_le _ _
          have := HN.out
          omega)
        have CS : Hid (∀ W, Upd [] wr.drew W → W.cell? ⟨g, k, none⟩ = some (.int .i64 y) ∧ W.cell? ⟨g, j, none⟩ = some (.int .i64 z)) := Lib.hid (fun W hW => ⟨CY.out W hW, own_cell (own_upd0 OV.out (KU.out.trans ((Upd.refl [] wr).drew.trans hW))) j _ (by rw [List.getElem?_map, hz]; rfl)⟩)
        have p1 : (0 : Int) ≤ (j : Int) := by omega
        have p2 : (j : Int) < (q : Int) := by omega
        have p3 : ((j : Int) < 0) = False := by simp
        have fe : ∀ W, (Instr.field 26 (.agg #[.int .i64 dn, .int .i64 ab, .int .i64 bl, .int .i64 cp, .int .i64 fl, .int .i64 wo, .int .i64 tm, .int .i64 lg]) 6).run Tryd.prog W = .ok (.int .i64 tm) W := fun W => by kernel_rfl
        have fe' : ∀ W, (Instr.field 26 (.agg #[.int .i64 dn', .int .i64 ab', .int .i64 bl', .int .i64 cp', .int .i64 fl', .int .i64 wo', .int .i64 tz, .int .i64 lg']) 6).run Tryd.prog W = .ok (.int .i64 tz) W := fun W => by kernel_rfl
        clear hz hτ hσ
        by_cases hc : tz < tm
        · have dc : decide (tz < tm) = true := by simpa using hc
          go_wp2_with fail
          refine wp_invN [(8, .own 0 45 9 (ofT L y).length (flat encE (ofT L y))), (9, .det (.agg #[.int .i64 dn, .int .i64 ab, .int .i64 bl, .int .i64 cp, .int .i64 fl, .int .i64 wo, .int .i64 tm, .int .i64 lg])), (16, .own 0 45 9 (ofT L z).length (flat encE (ofT L z))), (17, .det (.agg #[.int .i64 dn', .int .i64 ab', .int .i64 bl', .int .i64 cp', .int .i64 fl', .int .i64 wo', .int .i64 tz, .int .i64 lg']))] [] (by kernel_rfl) (by kernel_rfl) (by kernel_rfl) ⟨lasts_own _ _ _ _ _ (by have := LY.out y; unfold maxLen; omega), lasts_det _, lasts_own _ _ _ _ _ (by have := LY.out z; unfold maxLen; omega), lasts_det _, trivial⟩ ?_
          with_reducible apply wpV_light
          · simp only [lightOp]
          · intro W hU hF
            have f0 := CS.out W hU
            clear hU hF
            go_simp
            exact rfl
          simp only [Act.put, List.setIfInBounds_toArray, List.set_cons_zero, List.set_cons_succ]
          with_reducible apply wpV_light
          · simp only [lightOp]
          · intro W hU hF
            have f0 := CS.out W hU
            clear hU hF
            go_simp
            exact rfl
          simp only [Act.put, List.setIfInBounds_toArray, List.set_cons_zero, List.set_cons_succ]
          with_reducible apply wpV_light
          · simp only [lightOp]
          · intro W hU hF
            have f0 := CS.out W hU
            clear hU hF
            go_simp
            exact rfl
          simp only [Act.put, List.setIfInBounds_toArray, List.set_cons_zero, List.set_cons_succ]
          with_reducible apply wpV_light
          · simp only [lightOp]
          · intro W hU hF
            have f0 := CS.out W hU
            clear hU hF
            go_simp
            exact rfl
          simp only [Act.put, List.setIfInBounds_toArray, List.set_cons_zero, List.set_cons_succ]
          with_reducible apply wpV_light
          · simp only [lightOp]
          · intro W hU hF
            have f0 := CS.out W hU
            clear hU hF
            go_simp
            exact rfl
          simp only [Act.put, List.setIfInBounds_toArray, List.set_cons_zero, List.set_cons_succ]
          with_reducible apply wpV_light
          · simp only [lightOp]
          · intro W hU hF
            have f0 := CS.out W hU
            clear hU hF
            go_simp
            exact rfl
          simp only [Act.put, List.setIfInBounds_toArray, List.set_cons_zero, List.set_cons_succ]
          with_reducible apply wpV_light
          · simp only [lightOp]
          · intro W hU hF
            have f0 := CS.out W hU
            clear hU hF
            go_simp
            exact rfl
          simp only [Act.put, List.setIfInBounds_toArray, List.set_cons_zero, List.set_cons_succ]
          with_reducible apply wpV_light
          · simp only [lightOp]
          · intro W hU hF
            have f0 := CS.out W hU
            clear hU hF
            go_simp
            exact rfl
          simp only [Act.put, List.setIfInBounds_toArray, List.set_cons_zero, List.set_cons_succ]
          refine wpV_heavy (by simp only [lightOp]) (by rfl) (fun W hU hk hF K hK => ?_) ?_
          · go_wp2_with fail
            refine (rthread_ok A n c L y W (H.out.upd0 (U1.out.trans (KU.out.trans ((Upd.refl [] wr).drew.trans hU)))) HN.out (by omega)).mono ?_
            rintro e w3 ⟨v3, rfl, o3, u3⟩
            go_wp2_with fail
            refine hK.out _ _ (outV_new rfl ?_ (by intro b hb; exact own_lt o3 (by simpa [mkI, specOf, Spec.own] using hb)) u3)
            exact own_base o3 (Nat.zero_le _)
          rintro _ ⟨B1, c1, rfl, _, _⟩
          simp only [Act.put, List.setIfInBounds_toArray, List.set_cons_zero, List.set_cons_succ]
          refine wpV_heavy (by simp only [lightOp]) (by rfl) (fun W hU hk hF K hK => ?_) ?_
          · have o3 : Ow encE 45 W 0 _ (ofT L y) := hF.out.1 (by kernel_rfl)
            go_wp2_with fail
            refine (rof_ok _ _ _ (ofT L y) W o3.rd rfl (by have := LY.out y; omega) (fun x hx => HE.out x (List.mem_filter.1 hx).1)).mono ?_
            rintro e w4 ⟨rfl, u4⟩
            rw [HTA.out]
            unfold talV
            go_wp2_with fail
            exact hK.out _ _ (outV_new rfl rfl (by intro b hb; cases hb) u4)
          rintro _ rfl
          simp only [Act.put, List.setIfInBounds_toArray, List.set_cons_zero, List.set_cons_succ]
          with_reducible apply wpV_light
          · simp only [lightOp]
          · intro W hU hF
            have f0 := CS.out W hU
            clear hU hF
            go_simp
            exact rfl
          simp only [Act.put, List.setIfInBounds_toArray, List.set_cons_zero, List.set_cons_succ]
          with_reducible apply wpV_light
          · simp only [lightOp]
          · intro W hU hF
            have f0 := CS.out W hU
            clear hU hF
            go_simp
            exact rfl
          simp only [Act.put, List.setIfInBounds_toArray, List.set_cons_zero, List.set_cons_succ]
          with_reducible apply wpV_light
          · simp only [lightOp]
          · intro W hU hF
            have f0 := CS.out W hU
            clear hU hF
            go_simp
            exact rfl
          simp only [Act.put, List.setIfInBounds_toArray, List.set_cons_zero, List.set_cons_succ]
          with_reducible apply wpV_light
          · simp only [lightOp]
          · intro W hU hF
            have f0 := CS.out W hU
            clear hU hF
            go_simp
            exact rfl
          simp only [Act.put, List.setIfInBounds_toArray, List.set_cons_zero, List.set_cons_succ]
          with_reducible apply wpV_light
          · simp only [lightOp]
          · intro W hU hF
            have f0 := CS.out W hU
            clear hU hF
            go_simp
            exact rfl
          simp only [Act.put, List.setIfInBounds_toArray, List.set_cons_zero, List.set_cons_succ]
          with_reducible apply wpV_light
          · simp only [lightOp]
          · intro W hU hF
            have f0 := CS.out W hU
            clear hU hF
            go_simp
            exact rfl
          simp only [Act.put, List.setIfInBounds_toArray, List.set_cons_zero, List.set_cons_succ]
          refine wpV_heavy (by simp only [lightOp]) (by rfl) (fun W hU hk hF K hK => ?_) ?_
          · go_wp2_with fail
            refine (rthread_ok A n c L z W (H.out.upd0 (U1.out.trans (KU.out.trans ((Upd.refl [] wr).drew.trans hU)))) HN.out (by omega)).mono ?_
            rintro e w3 ⟨v3, rfl, o3, u3⟩
            go_wp2_with fail
            refine hK.out _ _ (outV_new rfl ?_ (by intro b hb; exact own_lt o3 (by simpa [mkI, specOf, Spec.own] using hb)) u3)
            exact own_base o3 (Nat.zero_le _)
          rintro _ ⟨B2, c2, rfl, _, _⟩
          simp only [Act.put, List.setIfInBounds_toArray, List.set_cons_zero, List.set_cons_succ]
          refine wpV_heavy (by simp only [lightOp]) (by rfl) (fun W hU hk hF K hK => ?_) ?_
          · have o3 : Ow encE 45 W 0 _ (ofT L z) := hF.out.2.2.1 (by kernel_rfl)
            go_wp2_with fail
            refine (rof_ok _ _ _ (ofT L z) W o3.rd rfl (by have := LY.out z; omega) (fun x hx => HE.out x (List.mem_filter.1 hx).1)).mono ?_
            rintro e w4 ⟨rfl, u4⟩
            rw [HSA.out]
            unfold talV
            go_wp2_with fail
            exact hK.out _ _ (outV_new rfl rfl (by intro b hb; cases hb) u4)
          rintro _ rfl
          simp only [Act.put, List.setIfInBounds_toArray, List.set_cons_zero, List.set_cons_succ]
          with_reducible apply wpV_light
          · simp only [lightOp]
          · intro W hU hF
            have f0 := CS.out W hU
            clear hU hF
            go_simp
            exact rfl
          simp only [Act.put, List.setIfInBounds_toArray, List.set_cons_zero, List.set_cons_succ]
          with_reducible apply wpV_light
          · simp only [lightOp]
          · intro W hU hF
            have f0 := CS.out W hU
            clear hU hF
            go_simp
            exact rfl
          simp only [Act.put, List.setIfInBounds_toArray, List.set_cons_zero, List.set_cons_succ]
          with_reducible apply wpV_light
          · simp only [lightOp]
          · intro W hU hF
            have f0 := CS.out W hU
            clear hU hF
            go_simp
            exact rfl
          simp only [Act.put, List.setIfInBounds_toArray, List.set_cons_zero, List.set_cons_succ]
          refine wpV_end (fun W hU _ hF => ?_)
          have U6 : Hid (Upd [] w1 W) := Lib.hid (KU.out.trans ((Upd.refl [] wr).drew.trans hU))
          clear hU hF
          refine wpT_end ?_
          go_wp2_with fail
          go_roundw
          case rel => exact ⟨k + 1, k, by go_num, by go_num, by omega, by omega, by omega, Lib.hid (best_take KB.out HY.out (.inr (by rw [FZ.out, FT.out, FY.out]; omega))), U6⟩
          case measure => simp [intOf]; omega
        · have dc : decide (tz < tm) = false := by simpa using hc
          go_wp2_with fail
          refine wp_invN [(8, .own 0 45 9 (ofT L y).length (flat encE (ofT L y))), (9, .det (.agg #[.int .i64 dn, .int .i64 ab, .int .i64 bl, .int .i64 cp, .int .i64 fl, .int .i64 wo, .int .i64 tm, .int .i64 lg])), (16, .own 0 45 9 (ofT L z).length (flat encE (ofT L z))), (17, .det (.agg #[.int .i64 dn', .int .i64 ab', .int .i64 bl', .int .i64 cp', .int .i64 fl', .int .i64 wo', .int .i64 tz, .int .i64 lg']))] [] (by kernel_rfl) (by kernel_rfl) (by kernel_rfl) ⟨lasts_own _ _ _ _ _ (by have := LY.out y; unfold maxLen; omega), lasts_det _, lasts_own _ _ _ _ _ (by have := LY.out z; unfold maxLen; omega), lasts_det _, trivial⟩ ?_
          with_reducible apply wpV_light
          · simp only [lightOp]
          · intro W hU hF
            have f0 := CS.out W hU
            clear hU hF
            go_simp
            exact rfl
          simp only [Act.put, List.setIfInBounds_toArray, List.set_cons_zero, List.set_cons_succ]
          with_reducible apply wpV_light
          · simp only [lightOp]
          · intro W hU hF
            have f0 := CS.out W hU
            clear hU hF
            go_simp
            exact rfl
          simp only [Act.put, List.setIfInBounds_toArray, List.set_cons_zero, List.set_cons_succ]
          with_reducible apply wpV_light
          · simp only [lightOp]
          · intro W hU hF
            have f0 := CS.out W hU
            clear hU hF
            go_simp
            exact rfl
          simp only [Act.put, List.setIfInBounds_toArray, List.set_cons_zero, List.set_cons_succ]
          with_reducible apply wpV_light
          · simp only [lightOp]
          · intro W hU hF
            have f0 := CS.out W hU
            clear hU hF
            go_simp
            exact rfl
          simp only [Act.put, List.setIfInBounds_toArray, List.set_cons_zero, List.set_cons_succ]
          with_reducible apply wpV_light
          · simp only [lightOp]
          · intro W hU hF
            have f0 := CS.out W hU
            clear hU hF
            go_simp
            exact rfl
          simp only [Act.put, List.setIfInBounds_toArray, List.set_cons_zero, List.set_cons_succ]
          with_reducible apply wpV_light
          · simp only [lightOp]
          · intro W hU hF
            have f0 := CS.out W hU
            clear hU hF
            go_simp
            exact rfl
          simp only [Act.put, List.setIfInBounds_toArray, List.set_cons_zero, List.set_cons_succ]
          with_reducible apply wpV_light
          · simp only [lightOp]
          · intro W hU hF
            have f0 := CS.out W hU
            clear hU hF
            go_simp
            exact rfl
          simp only [Act.put, List.setIfInBounds_toArray, List.set_cons_zero, List.set_cons_succ]
          with_reducible apply wpV_light
          · simp only [lightOp]
          · intro W hU hF
            have f0 := CS.out W hU
            clear hU hF
            go_simp
            exact rfl
          simp only [Act.put, List.setIfInBounds_toArray, List.set_cons_zero, List.set_cons_succ]
          refine wpV_heavy (by simp only [lightOp]) (by rfl) (fun W hU hk hF K hK => ?_) ?_
          · go_wp2_with fail
            refine (rthread_ok A n c L y W (H.out.upd0 (U1.out.trans (KU.out.trans ((Upd.refl [] wr).drew.trans hU)))) HN.out (by omega)).mono ?_
            rintro e w3 ⟨v3, rfl, o3, u3⟩
            go_wp2_with fail
            refine hK.out _ _ (outV_new rfl ?_ (by intro b hb; exact own_lt o3 (by simpa [mkI, specOf, Spec.own] using hb)) u3)
            exact own_base o3 (Nat.zero_le _)
          rintro _ ⟨B1, c1, rfl, _, _⟩
          simp only [Act.put, List.setIfInBounds_toArray, List.set_cons_zero, List.set_cons_succ]
          refine wpV_heavy (by simp only [lightOp]) (by rfl) (fun W hU hk hF K hK => ?_) ?_
          · have o3 : Ow encE 45 W 0 _ (ofT L y) := hF.out.1 (by kernel_rfl)
            go_wp2_with fail
            refine (rof_ok _ _ _ (ofT L y) W o3.rd rfl (by have := LY.out y; omega) (fun x hx => HE.out x (List.mem_filter.1 hx).1)).mono ?_
            rintro e w4 ⟨rfl, u4⟩
            rw [HTA.out]
            unfold talV
            go_wp2_with fail
            exact hK.out _ _ (outV_new rfl rfl (by intro b hb; cases hb) u4)
          rintro _ rfl
          simp only [Act.put, List.setIfInBounds_toArray, List.set_cons_zero, List.set_cons_succ]
          with_reducible apply wpV_light
          · simp only [lightOp]
          · intro W hU hF
            have f0 := CS.out W hU
            clear hU hF
            go_simp
            exact rfl
          simp only [Act.put, List.setIfInBounds_toArray, List.set_cons_zero, List.set_cons_succ]
          with_reducible apply wpV_light
          · simp only [lightOp]
          · intro W hU hF
            have f0 := CS.out W hU
            clear hU hF
            go_simp
            exact rfl
          simp only [Act.put, List.setIfInBounds_toArray, List.set_cons_zero, List.set_cons_succ]
          with_reducible apply wpV_light
          · simp only [lightOp]
          · intro W hU hF
            have f0 := CS.out W hU
            clear hU hF
            go_simp
            exact rfl
          simp only [Act.put, List.setIfInBounds_toArray, List.set_cons_zero, List.set_cons_succ]
          with_reducible apply wpV_light
          · simp only [lightOp]
          · intro W hU hF
            have f0 := CS.out W hU
            clear hU hF
            go_simp
            exact rfl
          simp only [Act.put, List.setIfInBounds_toArray, List.set_cons_zero, List.set_cons_succ]
          with_reducible apply wpV_light
          · simp only [lightOp]
          · intro W hU hF
            have f0 := CS.out W hU
            clear hU hF
            go_simp
            exact rfl
          simp only [Act.put, List.setIfInBounds_toArray, List.set_cons_zero, List.set_cons_succ]
          with_reducible apply wpV_light
          · simp only [lightOp]
          · intro W hU hF
            have f0 := CS.out W hU
            clear hU hF
            go_simp
            exact rfl
          simp only [Act.put, List.setIfInBounds_toArray, List.set_cons_zero, List.set_cons_succ]
          refine wpV_heavy (by simp only [lightOp]) (by rfl) (fun W hU hk hF K hK => ?_) ?_
          · go_wp2_with fail
            refine (rthread_ok A n c L z W (H.out.upd0 (U1.out.trans (KU.out.trans ((Upd.refl [] wr).drew.trans hU)))) HN.out (by omega)).mono ?_
            rintro e w3 ⟨v3, rfl, o3, u3⟩
            go_wp2_with fail
            refine hK.out _ _ (outV_new rfl ?_ (by intro b hb; exact own_lt o3 (by simpa [mkI, specOf, Spec.own] using hb)) u3)
            exact own_base o3 (Nat.zero_le _)
          rintro _ ⟨B2, c2, rfl, _, _⟩
          simp only [Act.put, List.setIfInBounds_toArray, List.set_cons_zero, List.set_cons_succ]
          refine wpV_heavy (by simp only [lightOp]) (by rfl) (fun W hU hk hF K hK => ?_) ?_
          · have o3 : Ow encE 45 W 0 _ (ofT L z) := hF.out.2.2.1 (by kernel_rfl)
            go_wp2_with fail
            refine (rof_ok _ _ _ (ofT L z) W o3.rd rfl (by have := LY.out z; omega) (fun x hx => HE.out x (List.mem_filter.1 hx).1)).mono ?_
            rintro e w4 ⟨rfl, u4⟩
            rw [HSA.out]
            unfold talV
            go_wp2_with fail
            exact hK.out _ _ (outV_new rfl rfl (by intro b hb; cases hb) u4)
          rintro _ rfl
          simp only [Act.put, List.setIfInBounds_toArray, List.set_cons_zero, List.set_cons_succ]
          with_reducible apply wpV_light
          · simp only [lightOp]
          · intro W hU hF
            have f0 := CS.out W hU
            clear hU hF
            go_simp
            exact rfl
          simp only [Act.put, List.setIfInBounds_toArray, List.set_cons_zero, List.set_cons_succ]
          with_reducible apply wpV_light
          · simp only [lightOp]
          · intro W hU hF
            have f0 := CS.out W hU
            clear hU hF
            go_simp
            exact rfl
          simp only [Act.put, List.setIfInBounds_toArray, List.set_cons_zero, List.set_cons_succ]
          with_reducible apply wpV_light
          · simp only [lightOp]
          · intro W hU hF
            have f0 := CS.out W hU
            clear hU hF
            go_simp
            exact rfl
          simp only [Act.put, List.setIfInBounds_toArray, List.set_cons_zero, List.set_cons_succ]
          refine wpV_end (fun W hU _ hF => ?_)
          have U6 : Hid (Upd [] w1 W) := Lib.hid (KU.out.trans ((Upd.refl [] wr).drew.trans hU))
          clear hU hF
          refine wpT_end ?_
          go_wp2_with fail
          go_roundw
          case rel => exact ⟨k + 1, j, by go_num, by go_num, by omega, by omega, by omega, Lib.hid (best_skip KB.out HY.out (by omega) (by rw [FZ.out, FT.out, FY.out]; omega)), U6⟩
          case measure => simp [intOf]; omega
    · obtain rfl : k = q := by omega
      have BE : Hid (bestA f (thr L) = b) := Lib.hid (best_end (by rw [HQ.out]; exact KB.out))
      by_cases hb : b < 0
      · have HR : Hid (busyL L = -1) := Lib.hid (by rw [HB.out, BE.out, if_pos hb])
        have hb1 : b = -1 := by omega
        subst hb1
        go_wp2_with fail
        go_ret
        rw [HR.out]
        exact ⟨rfl, U1.out.trans KU.out⟩
      · obtain ⟨j, rfl⟩ : ∃ j : Nat, b = j := ⟨b.toNat, by omega⟩
        obtain ⟨z, hz⟩ : ∃ z, (thr L)[j]? = some z := ⟨_, List.getElem?_eq_getElem (by rw [HQ.out]; omega)⟩
        have HR : Hid (busyL L = z) := Lib.hid (by rw [HB.out, BE.out, if_neg hb, Int.toNat_natCast, List.getD_eq_getElem?_getD, hz]; rfl)
        obtain ⟨g, cg, cur, eg, hg, _⟩ := own_form OV.out (by omega)
        injection eg with eg _ eg'
        subst eg eg'
        have e0 : wr.cell? ⟨g, j, none⟩ = some (.int .i64 z) := own_cell (own_upd0 OV.out KU.out) j _ (by rw [List.getElem?_map, hz]; rfl)
        have p1 : (0 : Int) ≤ (j : Int) := by omega
        have p2 : (j : Int) < (k : Int) := by omega
        have p3 : ((j : Int) < 0) = False := by simp
        clear hz
        go_wp2_with fail
        go_ret
        rw [HR.out]
        exact ⟨rfl, U1.out.trans KU.out⟩
end Go.Proofs.YtiahnlaplkeiaaaDoor

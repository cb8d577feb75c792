/-
  concordlaw30.StatsParts.
-/
import Derived.Test.YtiahnlaplkeiaaaDoorStAl
set_option linter.unusedVariables false
namespace Go.Proofs.YtiahnlaplkeiaaaDoor
open Go.RowKit St
attribute [local go_sem] litStep_value

theorem elem_en : Elem Tryd.prog 22 45 9 88 := .mk' (z := ((Tryd.prog.info? 45).bind (·.zero)).getD undef) Tryd.underlying22 (by kernel_rfl) (by kernel_rfl) (by decide)
theorem tals_get {L : List En} {k : Nat} {t : Tal} (h : (tals L)[k]? = some t) : ∃ y, (thr L)[k]? = some y ∧ t = ofL (ofT L y) := by
  unfold tals at h
  rw [List.getElem?_map, Option.map_eq_some_iff] at h
  obtain ⟨y, h1, h2⟩ := h
  exact ⟨y, h1, h2.symm⟩
theorem sumT_snoc (ts : List Int) (n : Int) (l : List En) : sumT (ts ++ [n]) l = join (sumT ts l) (ofL (ofT l n)) := by unfold sumT; rw [List.foldl_append]; rfl
theorem sm_sumT {ts : List Int} (hn : ts.Nodup) : ∀ l : List En, (∀ x ∈ l, EB x) → ∃ n, Sm (sumT ts l) n ∧ n ≤ l.length
  | [], _ => ⟨0, by rw [sumT_nil]; exact sm_zero, Nat.le_refl _⟩
  | x :: l, h => by
    obtain ⟨n, h1, h2⟩ := sm_sumT hn l (fun y hy => h y (List.mem_cons_of_mem _ hy))
    by_cases hx : x.th ∈ ts
    · refine ⟨1 + n, ?_, by rw [List.length_cons]; omega⟩
      rw [sumT_in hn hx]
      exact (sm_ofL (l := [x]) (fun y hy => by obtain rfl := List.mem_singleton.1 hy; exact h y (List.mem_cons_self ..))).join h1
    · exact ⟨n, by rw [sumT_out hx]; exact h1, by rw [List.length_cons]; omega⟩
set_option maxRecDepth 100000 in
set_option maxHeartbeats 8000000 in
theorem law_stparts (A : Option Addr) (n c : Nat) (L : List En) (A' : Option Addr) (m d : Nat) (M : List En) (w : World) (hl : Rd encE w (.slice A n c) L) (hn : L.length = n) (hln : n ≤ 9223372036854775807) (hil : ∀ x ∈ L, inK .i64 x.th) (hm : Rd encE w (.slice A' m d) M) (hmn : M.length = m) (hlm : m ≤ 9223372036854775807) (him : ∀ x ∈ M, inK .i64 x.th) :
    Calls Tryd.prog 3 #[.slice A n c, .slice A' m d] w fun e w' => e = .returned (.bool true) ∧ Upd [] w w' := by
  have HL := Lib.hid hl
  have HM := Lib.hid hm
  have HN := Lib.hid hn
  have HMN := Lib.hid hmn
  have HIL := Lib.hid hil
  have HIM := Lib.hid him
  clear hl hm hn hmn hil him
  go_enter Tryd.func3, Tryd.ntmps3
  go_wp2_with fail
  refine (small_ok A n c L w HL.out HN.out hln).mono ?_
  rintro e w1 ⟨rfl, u1⟩
  have U1 := Lib.hid u1
  clear u1
  by_cases hsl' : ¬ smallP L
  · rw [decide_eq_false hsl']
    go_wp2_with fail
    refine (st_alive _).mono ?_
    rintro e wz ⟨rfl, uz⟩
    have UZ := Lib.hid (U1.out.trans uz)
    clear uz
    go_wp2_with fail
    go_ret
    exact ⟨rfl, UZ.out⟩
  have hsl : smallP L := Decidable.of_not_not hsl'
  rw [decide_eq_true hsl]
  have SL := Lib.hid hsl
  go_wp2_with fail
  refine (small_ok A' m d M w1 (HM.out.upd0 U1.out) HMN.out hlm).mono ?_
  rintro e w2 ⟨rfl, u2⟩
  have U2 := Lib.hid (U1.out.trans u2)
  clear u2
  by_cases hsm' : ¬ smallP M
  · rw [decide_eq_false hsm']
    go_wp2_with fail
    refine (st_alive _).mono ?_
    rintro e wz ⟨rfl, uz⟩
    have UZ := Lib.hid (U2.out.trans uz)
    clear uz
    go_wp2_with fail
    go_ret
    exact ⟨rfl, UZ.out⟩
  have hsm : smallP M := Decidable.of_not_not hsm'
  rw [decide_eq_true hsm]
  have SM := Lib.hid hsm
  have n60 : n ≤ 60 := HN.out ▸ hsl.2
  have m60 : m ≤ 60 := HMN.out ▸ hsm.2
  clear hsl hsm hsl' hsm'
  go_wp2_with (at_builtin; refine stopped ?_)
  have SL2 : Hid (Src w2 9 (.slice A n c) n (flat encE L)) := Lib.hid (by have := HL.out.upd0 U2.out; unfold Rd at this; rw [HN.out] at this; exact this)
  have SM2 : Hid (Src w2 9 (.slice A' m d) m (flat encE M)) := Lib.hid (by have := HM.out.upd0 U2.out; unfold Rd at this; rw [HMN.out] at this; exact this)
  refine Lib.hid ?_
  refine wpList_app _ (by rfl) (.tmp 20) (.tmp 21) _ (by rfl) elem_en _ _ (by rfl) (by rfl) (own_made (B := w2.heap.size) 9 (Blk.new w2 45 #[]) (Nat.le_refl _)) (SL2.out.upd0 ((Upd.refl [] w2).alloc _)) flat_cells (by simp only [maxLen]; omega) (by omega) (by simp) ?_
  intro v3 w3 o3 u3 b3
  rw [List.nil_append, Nat.zero_add] at o3
  have O3 := Lib.hid o3
  have U3 : Hid (Upd [] w2 w3) := Lib.hid (((Upd.refl [] w2).alloc _).trans' u3 (by simp [Value.ownBlock]))
  clear o3 u3 b3
  go_wp2_with (at_builtin; refine stopped ?_)
  refine Lib.hid ?_
  refine wpList_app _ (by rfl) (.tmp 22) (.tmp 23) _ (by rfl) elem_en v3 _ (by rfl) (by rfl) O3.out (SM2.out.upd0 U3.out) flat_cells (by simp only [maxLen]; omega) (by omega) U3.out.size ?_
  intro v4 w4 o4 u4 b4
  obtain ⟨A4, c4, rfl, h4, h4'⟩ := own_slice o4
  have L4 : Hid ((L ++ M).length = n + m) := Lib.hid (by rw [List.length_append, HN.out, HMN.out])
  have U4 : Hid (Upd [] w w4) := Lib.hid (U2.out.trans (U3.out.trans' u4 (fun k hk => .inr (own_lt O3.out (by simpa using hk)).1)))
  have R4 : Hid (Ow encE 45 w4 w2.heap.size (.slice A4 (n + m) c4) (L ++ M)) := Lib.hid (by
    have := o4
    rw [← flat_append] at this
    unfold Ow
    rw [L4.out]
    exact this)
  have EA : Hid (∀ x ∈ L ++ M, EB x) := Lib.hid (fun x hx => (List.mem_append.1 hx).elim (SL.out.1 x) (SM.out.1 x))
  have IA : Hid (∀ x ∈ L ++ M, inK .i64 x.th) := Lib.hid (fun x hx => (List.mem_append.1 hx).elim (HIL.out x) (HIM.out x))
  clear o4 u4 b4 O3 SL2 SM2
  obtain ⟨q, hq⟩ : ∃ q, n + m = q := ⟨_, rfl⟩
  rw [hq] at L4 R4 h4
  have q120 : q ≤ 120 := by omega
  go_wp2_with fail
  clear hq
  refine (of_ok A4 q c4 (L ++ M) w4 R4.out.rd L4.out (by omega) EA.out).mono ?_
  rintro e w5 ⟨rfl, u5⟩
  have U5 := Lib.hid (U4.out.trans u5)
  have R5 := Lib.hid (R4.out.upd0 u5)
  have HJ : Hid (join (ofL L) (ofL M) = ofL (L ++ M)) := Lib.hid (ofL_append L M).symm
  have SML : Hid (Sm (ofL L) n) := Lib.hid (by have := sm_ofL (l := L) SL.out.1; rwa [HN.out] at this)
  have SMM : Hid (Sm (ofL M) m) := Lib.hid (by have := sm_ofL (l := M) SM.out.1; rwa [HMN.out] at this)
  obtain ⟨⟨dn, wo, ab, bl, cp, fl, tm, lg⟩, hτ⟩ : ∃ τ, ofL (L ++ M) = τ := ⟨_, rfl⟩
  have HT := Lib.hid hτ
  rw [hτ] at HJ ⊢
  clear u5 R4 hτ
  unfold talV
  go_wp2_with fail
  refine (of_ok A n c L w5 (HL.out.upd0 U5.out) HN.out (by omega) SL.out.1).mono ?_
  rintro e w6 ⟨rfl, u6⟩
  have U6 := Lib.hid (U5.out.trans u6)
  have R6 := Lib.hid (R5.out.upd0 u6)
  clear u6 R5
  go_wp2_with fail
  refine (of_ok A' m d M w6 (HM.out.upd0 U6.out) HMN.out (by omega) SM.out.1).mono ?_
  rintro e w7 ⟨rfl, u7⟩
  have U7 := Lib.hid (U6.out.trans u7)
  have R7 := Lib.hid (R6.out.upd0 u7)
  clear u7 R6
  go_wp2_with fail
  refine (join_ok (ofL L) (ofL M) n m w7 SML.out SMM.out (by omega) (by omega)).mono ?_
  rintro e w8 ⟨rfl, u8⟩
  rw [HJ.out]
  have U8 := Lib.hid (U7.out.trans u8)
  have R8 := Lib.hid (R7.out.upd0 u8)
  clear u8 R7
  unfold talV
  go_wp2_with fail
  refine (by_ok A4 q c4 (L ++ M) w8 R8.out.rd L4.out (by omega) EA.out IA.out).mono ?_
  rintro e w9 ⟨v, u, rfl, ov, ou, u9⟩
  have U9 := Lib.hid (U8.out.trans u9)
  have R9 := Lib.hid (R8.out.upd0 u9)
  obtain ⟨p, hp⟩ : ∃ p, (thr (L ++ M)).length = p := ⟨_, rfl⟩
  have TL : (tals (L ++ M)).length = p := by unfold tals; rw [List.length_map, hp]
  have p120 : p ≤ 120 := by have h1 := thr_len (L ++ M); have h2 := L4.out; omega
  obtain ⟨Av, cv, rfl, _, _⟩ := own_slice ov
  obtain ⟨Au, cu, rfl, _, _⟩ := own_slice ou
  have HP := Lib.hid hp
  have HTL := Lib.hid TL
  rw [hp]
  rw [TL]
  have OU : Hid (Ow encT 26 w9 w8.heap.size (.slice Au p cu) (tals (L ++ M))) := Lib.hid (by rw [← TL]; exact ou)
  clear ov ou u9 hp TL R8
  obtain ⟨sb, hsb⟩ : ∃ sb, w9.heap.size = sb := ⟨_, rfl⟩
  have S0 : Hid (Blk (w9.alloc (.cells #[.int .i64 0, .int .i64 0, .int .i64 0, .int .i64 0, .int .i64 0, .int .i64 0, .int .i64 0, .int .i64 0] 26)) sb 26 (talC (sumT ((thr (L ++ M)).take 0) (L ++ M)))) := Lib.hid (by rw [← hsb]; exact Blk.new w9 _ _)
  have HSB := Lib.hid hsb
  clear hsb
  go_wp2_with fail
  rw [HSB.out]
  have V0 : Hid (Upd [sb] w9 (w9.alloc (.cells #[.int .i64 0, .int .i64 0, .int .i64 0, .int .i64 0, .int .i64 0, .int .i64 0, .int .i64 0, .int .i64 0] 26))) := Lib.hid ((Upd.refl _ w9).alloc _)
  generalize (w9.alloc (.cells #[.int .i64 0, .int .i64 0, .int .i64 0, .int .i64 0, .int .i64 0, .int .i64 0, .int .i64 0, .int .i64 0] 26)) = w10 at *
  go_loopw [41] (fun vj wr => ∃ j : Nat, vj = .int .i64 j ∧ j ≤ p ∧ Hid (Blk wr sb 26 (talC (sumT ((thr (L ++ M)).take j) (L ++ M)))) ∧ Hid (Upd [sb] w9 wr)) (fun v _ => p - (intOf v).toNat)
  case atStart => exact ⟨0, rfl, by omega, S0, V0⟩
  case round =>
    obtain ⟨j, rfl, hj, KS, KU⟩ := hrel
    by_cases hjp : j < p
    · obtain ⟨y, hy⟩ : ∃ y, (thr (L ++ M))[j]? = some y := ⟨_, List.getElem?_eq_getElem (by rw [HP.out]; exact hjp)⟩
      have HT2 := Lib.hid (take_snoc hy)
      have hu0 : Upd [sb] w9 wr := KU.out
      have OR : Rd encT wr (.slice Au p cu) (tals (L ++ M)) := Ow.rd (OU.out.upd hu0 (fun b hb => by have := (own_lt OU.out hb).2; simp; rw [← HSB.out]; omega))
      obtain ⟨ad, rfl, hlt, e0, e1, e2, e3, e4, e5, e6, e7⟩ := tal_cells OR (tals_at hy)
      obtain ⟨τ, hτ⟩ : ∃ τ, ofL (ofT (L ++ M) y) = τ := ⟨_, rfl⟩
      obtain ⟨σ, hσ⟩ : ∃ σ, sumT ((thr (L ++ M)).take j) (L ++ M) = σ := ⟨_, rfl⟩
      have HS2 : Hid (sumT ((thr (L ++ M)).take (j + 1)) (L ++ M) = join σ τ) := Lib.hid (by rw [HT2.out, sumT_snoc, hσ, hτ])
      have SMS : Hid (∃ k, Sm σ k ∧ k ≤ 120) := Lib.hid (by
        obtain ⟨k, h1, h2⟩ := sm_sumT (((thr_ris (L ++ M)).imp (fun h => by omega) : (thr (L ++ M)).Nodup).sublist (List.take_sublist j _)) (L ++ M) EA.out
        rw [hσ] at h1
        exact ⟨k, h1, by have := L4.out; omega⟩)
      have SMT : Hid (∃ k, Sm τ k ∧ k ≤ 120) := Lib.hid (by
        refine ⟨_, by rw [← hτ]; exact sm_ofL (fun z hz => EA.out z (List.mem_filter.1 hz).1), ?_⟩
        have h1 : (ofT (L ++ M) y).length ≤ (L ++ M).length := List.length_filter_le _ _
        have := L4.out
        omega)
      rw [hτ] at e0 e1 e2 e3 e4 e5 e6 e7
      rw [hσ] at KS
      have c0 : wr.cell? ⟨sb, 0, none⟩ = some (.int .i64 σ.dn) := KS.out.cell 0
      have c1 : wr.cell? ⟨sb, 1, none⟩ = some (.int .i64 σ.ab) := KS.out.cell 1
      have c2 : wr.cell? ⟨sb, 2, none⟩ = some (.int .i64 σ.bl) := KS.out.cell 2
      have c3 : wr.cell? ⟨sb, 3, none⟩ = some (.int .i64 σ.cp) := KS.out.cell 3
      have c4 : wr.cell? ⟨sb, 4, none⟩ = some (.int .i64 σ.fl) := KS.out.cell 4
      have c5 : wr.cell? ⟨sb, 5, none⟩ = some (.int .i64 σ.wo) := KS.out.cell 5
      have c6 : wr.cell? ⟨sb, 6, none⟩ = some (.int .i64 σ.tm) := KS.out.cell 6
      have c7 : wr.cell? ⟨sb, 7, none⟩ = some (.int .i64 σ.lg) := KS.out.cell 7
      have cl : sb < wr.heap.size := KS.out.lt
      have q1 : (0 : Int) ≤ (j : Int) := by omega
      have q2 : (j : Int) < (p : Int) := by omega
      clear hy hσ hτ OR hu0
      go_wp2_with fail
      obtain ⟨k1, sm1, hk1⟩ := SMS.out
      obtain ⟨k2, sm2, hk2⟩ := SMT.out
      refine (join_ok σ τ k1 k2 _ sm1 sm2 (by omega) (by omega)).mono ?_; rintro e w11 ⟨rfl, u11⟩
      have U11 : Hid (Upd [] wr w11) := Lib.hid (((Upd.refl [] wr).alloc _).trans u11)
      have KS2 := Lib.hid (KS.out.upd U11.out (by simp))
      obtain ⟨ρ, hρ⟩ : ∃ ρ, join σ τ = ρ := ⟨_, rfl⟩
      rw [hρ] at HS2 ⊢
      have d0 := KS2.out.frozen
      have dl : sb < w11.heap.size := KS2.out.lt
      have dc : ∀ i, i < 8 → ∃ v, w11.cell? ⟨sb, i, none⟩ = some v := fun i hi => ⟨_, (KS2.out.cell i).trans (Array.getElem?_eq_getElem (by simpa [talC] using hi))⟩
      obtain ⟨_, z0⟩ := dc 0 (by omega)
      obtain ⟨_, z1⟩ := dc 1 (by omega)
      obtain ⟨_, z2⟩ := dc 2 (by omega)
      obtain ⟨_, z3⟩ := dc 3 (by omega)
      obtain ⟨_, z4⟩ := dc 4 (by omega)
      obtain ⟨_, z5⟩ := dc 5 (by omega)
      obtain ⟨_, z6⟩ := dc 6 (by omega)
      obtain ⟨_, z7⟩ := dc 7 (by omega)
      clear u11 c0 c1 c2 c3 c4 c5 c6 c7 cl e0 e1 e2 e3 e4 e5 e6 e7 dc hρ sm1 sm2
      unfold talV
      go_wp2_with fail
      go_roundw
      case rel =>
        refine ⟨j + 1, by go_num, by omega, Lib.hid ?_, Lib.hid ?_⟩
        · rw [HS2.out]
          exact blk_set8 KS2.out _ _ _ _ _ _ _ _
        · exact (KU.out.trans (U11.out.mono (by simp))).trans (upd_set8 _ _ _ _ _ _ _ _)
      case measure => simp [intOf]; omega
    · obtain rfl : j = p := by omega
      have FT : Hid (sumT ((thr (L ++ M)).take j) (L ++ M) = ⟨dn, wo, ab, bl, cp, fl, tm, lg⟩) := Lib.hid (by rw [List.take_of_length_le (by rw [HP.out]; exact Nat.le_refl _), sumT_thr, HT.out])
      rw [FT.out] at KS
      have UW : Hid (Upd [] w wr) := Lib.hid (U9.out.trans' KU.out (by simp; rw [← HSB.out]; exact U9.out.size))
      have RW : Hid (Rd encE wr (.slice A4 q c4) (L ++ M)) := Lib.hid (R9.out.upd KU.out (fun b hb => by have := (own_lt R9.out hb).2; simp; rw [← HSB.out]; omega)).rd
      have CS : Hid (∀ W, Upd [] wr.drew W → W.cell? ⟨sb, 0, none⟩ = some (.int .i64 dn) ∧ W.cell? ⟨sb, 1, none⟩ = some (.int .i64 ab) ∧ W.cell? ⟨sb, 2, none⟩ = some (.int .i64 bl) ∧ W.cell? ⟨sb, 3, none⟩ = some (.int .i64 cp) ∧ W.cell? ⟨sb, 4, none⟩ = some (.int .i64 fl) ∧ W.cell? ⟨sb, 5, none⟩ = some (.int .i64 wo) ∧ W.cell? ⟨sb, 6, none⟩ = some (.int .i64 tm) ∧ W.cell? ⟨sb, 7, none⟩ = some (.int .i64 lg)) := Lib.hid (fun W hW => by
        have hb := KS.out.upd ((Upd.refl [] wr).drew.trans hW) (by simp)
        exact ⟨hb.cell 0, hb.cell 1, hb.cell 2, hb.cell 3, hb.cell 4, hb.cell 5, hb.cell 6, hb.cell 7⟩)
      go_wp2_with fail
      refine wp_invN [(2, .det (.agg #[.int .i64 dn, .int .i64 ab, .int .i64 bl, .int .i64 cp, .int .i64 fl, .int .i64 wo, .int .i64 tm, .int .i64 lg])), (5, .det (.bool true))] [] (by kernel_rfl) (by kernel_rfl) (by kernel_rfl) ⟨lasts_det _, lasts_det _, trivial⟩ ?_
      with_reducible apply wpV_light
      · simp only [lightOp]
      · intro W hU hF
        have f0 := CS.out W hU
        clear hU hF
        go_simp
        exact rfl
      simp only [Act.put, List.setIfInBounds_toArray, List.set_cons_zero, List.set_cons_succ]
      with_reducible apply wpV_light
      · simp only [lightOp]
      · intro W hU hF
        have f0 := CS.out W hU
        clear hU hF
        go_simp
        exact rfl
      simp only [Act.put, List.setIfInBounds_toArray, List.set_cons_zero, List.set_cons_succ]
      refine wpV_heavy (by simp only [lightOp]) (by rfl) (fun W hU hk hF K hK => ?_) ?_
      · go_wp2_with fail
        refine (of_ok A4 q c4 (L ++ M) W (RW.out.upd0 ((Upd.refl [] wr).drew.trans hU)) L4.out (by omega) EA.out).mono ?_
        rintro e w11 ⟨rfl, u11⟩
        rw [HT.out]
        unfold talV
        go_wp2_with fail
        exact hK.out _ _ (outV_new rfl rfl (by intro b hb; cases hb) u11)
      rintro _ rfl
      simp only [Act.put, List.setIfInBounds_toArray, List.set_cons_zero, List.set_cons_succ]
      with_reducible apply wpV_light
      · simp only [lightOp]
      · intro W hU hF
        have f0 := CS.out W hU
        clear hU hF
        go_simp
        exact rfl
      simp only [Act.put, List.setIfInBounds_toArray, List.set_cons_zero, List.set_cons_succ]
      with_reducible apply wpV_light
      · simp only [lightOp]
      · intro W hU hF
        have f0 := CS.out W hU
        clear hU hF
        go_simp
        exact rfl
      simp only [Act.put, List.setIfInBounds_toArray, List.set_cons_zero, List.set_cons_succ]
      refine wpV_heavy (by simp only [lightOp]) (by rfl) (fun W hU hk hF K hK => ?_) ?_
      · go_wp2_with fail
        refine (st_alive W).mono ?_
        rintro e w11 ⟨rfl, u11⟩
        go_wp2_with fail
        exact hK.out _ _ (outV_new rfl rfl (by intro b hb; cases hb) u11)
      rintro _ rfl
      simp only [Act.put, List.setIfInBounds_toArray, List.set_cons_zero, List.set_cons_succ]
      with_reducible apply wpV_light
      · simp only [lightOp]
      · intro W hU hF
        have f0 := CS.out W hU
        clear hU hF
        go_simp
        exact rfl
      simp only [Act.put, List.setIfInBounds_toArray, List.set_cons_zero, List.set_cons_succ]
      with_reducible apply wpV_light
      · simp only [lightOp]
      · intro W hU hF
        have f0 := CS.out W hU
        clear hU hF
        go_simp
        exact rfl
      simp only [Act.put, List.setIfInBounds_toArray, List.set_cons_zero, List.set_cons_succ]
      refine wpV_end (fun W hU _ hF => ?_)
      have UL : Hid (Upd [] w W) := Lib.hid (UW.out.trans ((Upd.refl [] wr).drew.trans hU))
      clear hU hF
      refine wpT_end ?_
      go_wp2_with fail
      go_ret
      exact ⟨rfl, UL.out⟩
end Go.Proofs.YtiahnlaplkeiaaaDoor

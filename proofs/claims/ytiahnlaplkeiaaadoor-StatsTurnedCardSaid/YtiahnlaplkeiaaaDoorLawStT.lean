/-
  concordlaw30.StatsTurned.
-/
import Derived.Test.YtiahnlaplkeiaaaDoorStAl
set_option linter.unusedVariables false
namespace Go.Proofs.YtiahnlaplkeiaaaDoor
open Go.RowKit St
attribute [local go_sem] litStep_value

theorem elem_enT : Elem Tryd.prog 22 45 9 88 := .mk' (z := ((Tryd.prog.info? 45).bind (·.zero)).getD undef) Tryd.underlying22 (by kernel_rfl) (by kernel_rfl) (by decide)
theorem turn_of (t : Int) (n : Nat) (h0 : 0 < n) (h60 : n ≤ 60) : ∃ d : Nat, (wrap64 (t.tmod (n : Int) + n)).tmod n = (d : Int) ∧ d < n := by
  have h1 : t.tmod (n : Int) < n := Int.tmod_lt_of_pos t (by omega)
  have h2 : -(n : Int) < t.tmod (n : Int) := by
    have := Int.lt_tmod_of_pos t (show (0 : Int) < n by omega)
    omega
  have hw : wrap64 (t.tmod (n : Int) + n) = t.tmod (n : Int) + n := by
    unfold wrap64
    omega
  have h3 : 0 ≤ (t.tmod (n : Int) + n).tmod n := Int.tmod_nonneg _ (by omega)
  have h4 : (t.tmod (n : Int) + n).tmod n < n := Int.tmod_lt_of_pos _ (by omega)
  rw [hw]
  exact ⟨((t.tmod (n : Int) + n).tmod n).toNat, by omega, by omega⟩
theorem flat_takeE (L : List En) (d : Nat) : (flat encE L).take (d * 9) = flat encE (L.take d) := (flat_take (E := encE) (L := L) d).symm
theorem flat_dropE (L : List En) (d : Nat) : (flat encE L).drop (d * 9) = flat encE (L.drop d) := (flat_drop (E := encE) (L := L) d).symm
set_option maxRecDepth 100000 in
set_option maxHeartbeats 8000000 in
theorem law_stturned (A : Option Addr) (n c : Nat) (L : List En) (t p : Int) (w : World) (hl : Rd encE w (.slice A n c) L) (hn : L.length = n) (hc : n ≤ c) (hcm : c ≤ 9223372036854775807) (hil : ∀ x ∈ L, inK .i64 x.th) :
    Calls Tryd.prog 4 #[.slice A n c, .int .i64 t, .int .i64 p] w fun e w' => e = .returned (.bool true) ∧ Upd [] w w' := by
  have HL := Lib.hid hl
  have HN := Lib.hid hn
  have HIL := Lib.hid hil
  clear hl hn hil
  go_enter Tryd.func4, Tryd.ntmps4
  go_wp2_with fail
  refine (small_ok A n c L w HL.out HN.out (by omega)).mono ?_
  rintro e w1 ⟨rfl, u1⟩
  have U1 := Lib.hid u1
  clear u1
  by_cases hsl' : ¬ smallP L
  · rw [decide_eq_false hsl']
    go_wp2_with fail
    refine (st_alive _).mono ?_
    rintro e wz ⟨rfl, uz⟩
    have UZ := Lib.hid (U1.out.trans uz)
    clear uz
    go_wp2_with fail
    go_ret
    exact ⟨rfl, UZ.out⟩
  have hsl : smallP L := Decidable.of_not_not hsl'
  rw [decide_eq_true hsl]
  have SL := Lib.hid hsl
  have n60 : n ≤ 60 := HN.out ▸ hsl.2
  clear hsl hsl'
  by_cases h0 : n = 0
  · subst h0
    go_wp2_with fail
    refine (st_alive _).mono ?_
    rintro e wz ⟨rfl, uz⟩
    have UZ := Lib.hid (U1.out.trans uz)
    clear uz
    go_wp2_with fail
    go_ret
    exact ⟨rfl, UZ.out⟩
  have z0 : ¬ (n : Int) = 0 := by omega
  have z1 : ((n : Int) == 0) = false := by simpa using z0
  go_wp2_with fail
  obtain ⟨d, hd, hdn⟩ := turn_of t n (by omega) n60
  rw [hd]
  clear hd
  have d0 : (0 : Int) ≤ d := by omega
  have d1 : (d : Int) ≤ n := by omega
  have d2 : (n : Int) ≤ c := by omega
  have d3 : (d : Int) ≤ c := by omega
  have SL1 : Hid (∀ W, Upd [] w1.drew W → Src W 9 (.slice A n c) n (flat encE L)) := Lib.hid (fun W hW => by have := HL.out.upd0 (U1.out.trans ((Upd.refl [] w1).drew.trans hW)); unfold Rd at this; rw [HN.out] at this; exact this)
  have F1 : Hid (∀ W, Upd [] w1.drew W → Src W 9 (.slice A d c) d (flat encE (L.take d))) := Lib.hid (fun W hW => by
    have := (SL1.out W hW).take d (by omega) c
    rwa [flat_takeE] at this)
  obtain ⟨X, hX, hXo, hXs⟩ := cut_tail elem_enT A n c d (by omega) hc
  have F2 : Hid (∀ W, Upd [] w1.drew W → Src W 9 X (n - d) (flat encE (L.drop d))) := Lib.hid (fun W hW => by
    have := hXs _ _ (SL1.out W hW)
    rwa [flat_dropE] at this)
  clear hXo hXs
  refine wp_invN [(0, .own w1.heap.size 45 9 0 []), (4, .own w1.heap.size 45 9 (n - d) (flat encE (L.drop d))), (8, .own w1.heap.size 45 9 n (flat encE (L.drop d) ++ flat encE (L.take d)))] [(4, [0]), (8, [4])] (by kernel_rfl) (by kernel_rfl) (by kernel_rfl) ⟨lasts_own _ _ _ _ _ (by simp [maxLen]), lasts_own _ _ _ _ _ (by unfold maxLen; omega), lasts_own _ _ _ _ _ (by unfold maxLen; omega), trivial⟩ ?_
  refine wpV_heavy (by simp only [lightOp]) (by rfl) (fun W hU hk hF K hK => ?_) ?_
  · go_wp2_with fail
    exact wpV_made hK rfl rfl rfl rfl hU.size
  rintro _ ⟨B1, b1, rfl, _, _⟩
  simp only [Act.put, List.setIfInBounds_toArray, List.set_cons_zero, List.set_cons_succ]
  with_reducible apply wpV_light
  · simp only [lightOp]
  · intro W hU hF
    clear hU hF
    go_simp
    exact rfl
  simp only [Act.put, List.setIfInBounds_toArray, List.set_cons_zero, List.set_cons_succ]
  with_reducible apply wpV_light
  · simp only [lightOp]
  · intro W hU hF
    clear hU hF
    go_simp
    exact rfl
  simp only [Act.put, List.setIfInBounds_toArray, List.set_cons_zero, List.set_cons_succ]
  with_reducible apply wpV_light
  · simp only [lightOp]
  · intro W hU hF
    clear hU hF
    go_simp
    exact rfl
  simp only [Act.put, List.setIfInBounds_toArray, List.set_cons_zero, List.set_cons_succ]
  refine wpV_heavy (by simp only [lightOp]) (by rfl) (fun W hU hk hF K hK => ?_) ?_
  · exact wpV_app hK (.tmp 28) (.tmp 31) _ (by rfl) elem_enT _ _ (by rfl) (by rfl) rfl rfl (by simp [usedV, mkI, conOf, specOf, Spec.own]) (hF.out.1 (by kernel_rfl)) (F2.out W hU) (by omega) (by simp) flat_cells (by unfold maxLen; omega) (by omega) hU.size
  rintro _ ⟨B2, b2, rfl, _, _⟩
  simp only [Act.put, List.setIfInBounds_toArray, List.set_cons_zero, List.set_cons_succ]
  with_reducible apply wpV_light
  · simp only [lightOp]
  · intro W hU hF
    clear hU hF
    go_simp
    exact rfl
  simp only [Act.put, List.setIfInBounds_toArray, List.set_cons_zero, List.set_cons_succ]
  with_reducible apply wpV_light
  · simp only [lightOp]
  · intro W hU hF
    clear hU hF
    go_simp
    exact rfl
  simp only [Act.put, List.setIfInBounds_toArray, List.set_cons_zero, List.set_cons_succ]
  with_reducible apply wpV_light
  · simp only [lightOp]
  · intro W hU hF
    clear hU hF
    go_simp
    exact rfl
  simp only [Act.put, List.setIfInBounds_toArray, List.set_cons_zero, List.set_cons_succ]
  refine wpV_heavy (by simp only [lightOp]) (by rfl) (fun W hU hk hF K hK => ?_) ?_
  · exact wpV_app hK (.tmp 32) (.tmp 35) _ (by rfl) elem_enT _ _ (by rfl) (by rfl) rfl rfl (by simp [usedV, mkI, conOf, specOf, Spec.own]) (hF.out.2.1 (by kernel_rfl)) (F1.out W hU) (by omega) rfl flat_cells (by unfold maxLen; omega) (by omega) hU.size
  rintro _ ⟨B3, b3, rfl, hb3, _⟩
  simp only [Act.put, List.setIfInBounds_toArray, List.set_cons_zero, List.set_cons_succ]
  with_reducible apply wpV_light
  · simp only [lightOp]
  · intro W hU hF
    clear hU hF
    go_simp
    exact rfl
  simp only [Act.put, List.setIfInBounds_toArray, List.set_cons_zero, List.set_cons_succ]
  refine wpV_end (fun W hU _ hF => ?_)
  obtain ⟨M, hM⟩ : ∃ M, L.drop d ++ L.take d = M := ⟨_, rfl⟩
  have HPM : Hid (L.Perm M) := Lib.hid (by
    rw [← hM]
    have := (List.perm_append_comm (l₁ := L.drop d) (l₂ := L.take d))
    rw [List.take_append_drop] at this
    exact this.symm)
  have HMN : Hid (M.length = n) := Lib.hid (HPM.out.length_eq.symm.trans HN.out)
  have U2 : Hid (Upd [] w W) := Lib.hid (U1.out.trans ((Upd.refl [] w1).drew.trans hU))
  have M2 : Hid (Rd encE W (.slice B3 n b3) M) := Lib.hid (by
    have := Src.of_own (hF.out.2.2.1 (by kernel_rfl))
    rw [← flat_append, hM] at this
    unfold Rd
    rw [HMN.out]
    exact this)
  have EM : Hid (∀ x ∈ M, EB x) := Lib.hid (fun x hx => SL.out.1 x (HPM.out.mem_iff.2 hx))
  have IM : Hid (∀ x ∈ M, inK .i64 x.th) := Lib.hid (fun x hx => HIL.out x (HPM.out.mem_iff.2 hx))
  have L2 := Lib.hid (HL.out.upd0 U2.out)
  clear hU hF hM F1 F2 SL1 hX
  refine wpT_end ?_
  go_wp2_with fail
  obtain ⟨⟨dn, wo, ab, bl, cp, fl, tm, lg⟩, hτ⟩ : ∃ τ, ofL L = τ := ⟨_, rfl⟩
  have HTM : Hid (ofL M = ⟨dn, wo, ab, bl, cp, fl, tm, lg⟩) := Lib.hid (by rw [← ofL_perm HPM.out, hτ])
  have QP : Hid (quantL M p = quantL L p) := Lib.hid (quantL_perm HPM.out p).symm
  have OP : Hid (overL M = overL L) := Lib.hid (overL_perm HPM.out).symm
  have BP : Hid (barsL M = barsL L) := Lib.hid (barsL_perm HPM.out).symm
  have YP : Hid (busyL M = busyL L) := Lib.hid (busyL_perm HPM.out).symm
  have BL : Hid ((barsL L).length ≤ 22) := Lib.hid (barsL_len SL.out.1)
  refine (of_ok A n c L W L2.out HN.out (by omega) SL.out.1).mono ?_
  rw [hτ]
  clear hτ
  rintro e w3 ⟨rfl, u3⟩
  have U3 := Lib.hid (U2.out.trans u3)
  have L3 := Lib.hid (L2.out.upd0 u3)
  have M3 := Lib.hid (M2.out.upd0 u3)
  clear u3 U2 L2 M2
  unfold talV
  go_wp2_with fail
  refine (of_ok B3 n b3 M _ M3.out HMN.out (by omega) EM.out).mono ?_
  rw [HTM.out]
  rintro e w4 ⟨rfl, u4⟩
  have U4 := Lib.hid (U3.out.trans u4)
  have L4 := Lib.hid (L3.out.upd0 u4)
  have M4 := Lib.hid (M3.out.upd0 u4)
  clear u4 U3 L3 M3
  unfold talV
  go_wp2_with fail
  refine (quantile_ok A n c L p _ L4.out HN.out (by omega) SL.out.1).mono ?_
  rintro e w5 ⟨rfl, u5⟩
  have U5 := Lib.hid (U4.out.trans u5)
  have L5 := Lib.hid (L4.out.upd0 u5)
  have M5 := Lib.hid (M4.out.upd0 u5)
  clear u5 U4 L4 M4
  go_wp2_with fail
  refine (quantile_ok B3 n b3 M p _ M5.out HMN.out (by omega) EM.out).mono ?_
  rw [QP.out]
  rintro e w6 ⟨rfl, u6⟩
  have U6 := Lib.hid (U5.out.trans u6)
  have L6 := Lib.hid (L5.out.upd0 u6)
  have M6 := Lib.hid (M5.out.upd0 u6)
  clear u6 U5 L5 M5
  go_wp2_with fail
  refine (overlap_ok A n c L _ L6.out HN.out (by omega)).mono ?_
  rintro e w7 ⟨rfl, u7⟩
  have U7 := Lib.hid (U6.out.trans u7)
  have L7 := Lib.hid (L6.out.upd0 u7)
  have M7 := Lib.hid (M6.out.upd0 u7)
  clear u7 U6 L6 M6
  go_wp2_with fail
  refine (overlap_ok B3 n b3 M _ M7.out HMN.out (by omega)).mono ?_
  rw [OP.out]
  rintro e w8 ⟨rfl, u8⟩
  have U8 := Lib.hid (U7.out.trans u8)
  have L8 := Lib.hid (L7.out.upd0 u8)
  have M8 := Lib.hid (M7.out.upd0 u8)
  clear u8 U7 L7 M7
  go_wp2_with fail
  refine (bars_ok A n c L _ L8.out HN.out (by omega) SL.out.1).mono ?_
  rintro e w9 ⟨v9, rfl, o9, u9⟩
  have U9 := Lib.hid (U8.out.trans u9)
  have L9 := Lib.hid (L8.out.upd0 u9)
  have M9 := Lib.hid (M8.out.upd0 u9)
  have O9 := Lib.hid o9
  clear u9 o9 U8 L8 M8
  go_wp2_with fail
  refine (bars_ok B3 n b3 M _ M9.out HMN.out (by omega) EM.out).mono ?_
  rintro e w10 ⟨v10, rfl, o10, u10⟩
  rw [BP.out] at o10
  have U10 := Lib.hid (U9.out.trans u10)
  have L10 := Lib.hid (L9.out.upd0 u10)
  have M10 := Lib.hid (M9.out.upd0 u10)
  have O10 := Lib.hid o10
  have P10 := Lib.hid (own_upd0 O9.out u10)
  clear u10 o10 U9 L9 M9 O9
  go_wp2_with fail
  refine (ints_ok _ _ (barsL L) (barsL L) v9 v10 _ P10.out O10.out (by have := BL.out; omega) (by have := BL.out; omega)).mono ?_
  rw [decide_eq_true (rfl : barsL L = barsL L)]
  rintro e w11 ⟨rfl, u11⟩
  have U11 := Lib.hid (U10.out.trans u11)
  have L11 := Lib.hid (L10.out.upd0 u11)
  have M11 := Lib.hid (M10.out.upd0 u11)
  clear u11 U10 L10 M10
  go_wp2_with fail
  refine (busiest_ok A n c L _ L11.out HN.out (by omega) SL.out.1 HIL.out).mono ?_
  rintro e w12 ⟨rfl, u12⟩
  have U12 := Lib.hid (U11.out.trans u12)
  have L12 := Lib.hid (L11.out.upd0 u12)
  have M12 := Lib.hid (M11.out.upd0 u12)
  clear u12 U11 L11 M11
  go_wp2_with fail
  refine (busiest_ok B3 n b3 M _ M12.out HMN.out (by omega) EM.out IM.out).mono ?_
  rw [YP.out]
  rintro e w13 ⟨rfl, u13⟩
  have U13 := Lib.hid (U12.out.trans u13)
  have L13 := Lib.hid (L12.out.upd0 u13)
  have M13 := Lib.hid (M12.out.upd0 u13)
  clear u13 U12 L12 M12
  go_wp2_with fail
  refine (st_alive _).mono ?_
  rintro e wz ⟨rfl, uz⟩
  have UZ := Lib.hid (U13.out.trans uz)
  clear uz
  go_wp2_with fail
  go_ret
  exact ⟨rfl, UZ.out⟩
end Go.Proofs.YtiahnlaplkeiaaaDoor

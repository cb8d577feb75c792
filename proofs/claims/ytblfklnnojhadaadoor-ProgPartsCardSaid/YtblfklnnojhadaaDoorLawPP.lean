/-
  ProgParts: the walk.
-/
import Derived.Test.YtblfklnnojhadaaDoorStmsR
import Derived.Test.YtblfklnnojhadaaDoorPPlain
set_option linter.unusedVariables false
namespace Go.Proofs.YtblfklnnojhadaaDoor
open Go.RowKit

set_option maxRecDepth 100000 in
set_option maxHeartbeats 4000000 in
theorem law_pparts (v : Value) (l : List Stm) (v' : Value) (l' : List Stm) (A : Option Addr) (n c : Nat) (ks : List Int) (w : World) (hv : Stms w w.heap.size v l) (hv' : Stms w w.heap.size v' l') (hk : Src w 1 (.slice A n c) n (ks.map (Value.int .i64))) (hc : n ≤ c) (hm : c ≤ 9223372036854775807) (hg : Typed w) :
    Calls Tryd.prog 5 #[v, v', .slice A n c] w fun e w' => e = .returned (.bool true) ∧ Upd [] w w' := by
  have hn9 : n ≤ 9223372036854775807 := by omega
  have HV := Lib.hid hv
  have HV' := Lib.hid hv'
  have HK := Lib.hid hk
  have HG := Lib.hid hg
  obtain ⟨Av, nv, cv, rfl⟩ := hv.slice
  obtain ⟨Aw, nw, cw, rfl⟩ := hv'.slice
  have hlv := hv.len
  have hlw := hv'.len
  obtain ⟨xs, hsx, hrx⟩ := stmsR_of hv (Nat.le_refl _)
  obtain ⟨ys, hsy, hry⟩ := stmsR_of hv' (Nat.le_refl _)
  have SX := Lib.hid hsx
  have SY := Lib.hid hsy
  have RX := Lib.hid hrx
  have RY := Lib.hid hry
  have LV := Lib.hid hlv.1
  have LW := Lib.hid hlw.1
  obtain ⟨b, hb⟩ : ∃ b, fewB l = b := ⟨_, rfl⟩
  obtain ⟨b', hb'⟩ : ∃ b, fewB l' = b := ⟨_, rfl⟩
  have HB := Lib.hid hb
  have HB' := Lib.hid hb'
  clear hv hv' hk hg hb hb' hlv hlw hsx hsy hrx hry
  have keep : Hid (∀ W, Upd [] w W → Stms W W.heap.size (.slice Av nv cv) l ∧ Stms W W.heap.size (.slice Aw nw cw) l' ∧ Src W 1 (.slice A n c) n (ks.map (Value.int .i64)) ∧ Typed W) := Lib.hid (fun W hu => ⟨(HV.out.belowW (hu.below (Nat.le_refl _) (by simp))).more hu.size, (HV'.out.belowW (hu.below (Nat.le_refl _) (by simp))).more hu.size, HK.out.upd0 hu, HG.out.upd hu (by simp)⟩)
  have fin : Hid (∀ W, Upd [] w W → Calls Tryd.prog 9 #[] W fun e w' => e = .returned (.bool true) ∧ Upd [] w w') := Lib.hid (fun W hu => (palive_ok W (HG.out.upd hu (by simp))).mono fun e w' ⟨h1, h2⟩ => ⟨h1, hu.trans h2⟩)
  go_enter Tryd.func5, Tryd.ntmps5
  go_wp2_with fail
  refine (few_ok l (.slice Av nv cv) _ HV.out).mono ?_; rintro e w1 ⟨rfl, u1⟩
  rw [HB.out]
  have U1 := Lib.hid u1
  clear u1
  cases b with
  | false =>
    go_wp2_with fail
    refine (fin.out _ U1.out).mono ?_; rintro e w2 ⟨rfl, u2⟩
    have U2 := Lib.hid u2
    clear u2
    go_wp2_with fail
    go_ret
    exact ⟨rfl, U2.out⟩
  | true =>
    have hs := few_sizes HB.out
    go_wp2_with fail
    refine (few_ok l' (.slice Aw nw cw) _ (keep.out _ U1.out).2.1).mono ?_; rintro e w2 ⟨rfl, u2⟩
    rw [HB'.out]
    have U2 := Lib.hid (U1.out.trans u2)
    clear u2 U1
    cases b' with
    | false =>
      go_wp2_with fail
      refine (fin.out _ U2.out).mono ?_; rintro e w3 ⟨rfl, u3⟩
      have U3 := Lib.hid u3
      clear u3
      go_wp2_with fail
      go_ret
      exact ⟨rfl, U3.out⟩
    | true =>
      have hs' := few_sizes HB'.out
      by_cases h20 : 20 < n
      · have h20' : decide ((20 : Int) < n) = true := by simp; omega
        go_wp2_with fail
        refine (fin.out _ U2.out).mono ?_; rintro e w3 ⟨rfl, u3⟩
        have U3 := Lib.hid u3
        clear u3
        go_wp2_with fail
        go_ret
        exact ⟨rfl, U3.out⟩
      · have h20' : decide ((20 : Int) < n) = false := by simp; omega
        have ll := list_le_sizes l
        have ll' := list_le_sizes l'
        rw [LV.out] at ll
        rw [LW.out] at ll'
        have z2 : Hid (w.heap.size ≤ w2.heap.size) := Lib.hid U2.out.size
        go_wp2_with (at_builtin; refine stopped ?_)
        refine Lib.hid ?_
        refine wpList_app _ (by rfl) (.tmp 26) (.tmp 27) _ (by rfl) stm_elem _ _ (by rfl) (by rfl) (own_made (B := w2.heap.size) 9 (Blk.new _ _ _) (Nat.le_refl _)) (SX.out.upd0 (U2.out.alloc _)) RX.out.one (by simp only [maxLen]; omega) (by omega) (by simp) ?_
        intro v3 w3 o3 u3 b3
        simp only [Nat.zero_add, List.nil_append] at o3
        have U3 : Hid (Upd [] w w3) := Lib.hid ((U2.out.alloc (.cells #[] 39)).trans' u3 (fun x hx => by simp [Value.ownBlock] at hx; subst hx; exact .inr z2.out))
        have O3 := Lib.hid o3
        have z3 := Lib.hid U3.out.size
        have BO3 : Hid (∀ x ∈ v3.ownBlock.toList, w2.heap.size ≤ x) := Lib.hid (fun x hx => (own_lt o3 (b := x) (by simpa using hx)).1)
        have z32 : Hid (w2.heap.size ≤ w3.heap.size) := Lib.hid (Nat.le_trans (by simp) u3.size)
        clear o3 u3 b3
        go_wp2_with (at_builtin; refine stopped ?_)
        refine Lib.hid ?_
        refine wpList_app _ (by rfl) (.tmp 28) (.tmp 29) _ (by rfl) stm_elem v3 _ (by rfl) (by rfl) O3.out (SY.out.upd0 U3.out) RY.out.one (by simp only [maxLen]; omega) (by omega) z32.out ?_
        intro v4 w4 o4 u4 b4
        have U4 : Hid (Upd [] w w4) := Lib.hid (U3.out.trans' u4 (fun x hx => .inr (Nat.le_trans z2.out (BO3.out x hx))))
        obtain ⟨A4, c4, rfl, _, _⟩ := own_slice o4
        have hbl : Below w.heap.size w w4 := U4.out.below (Nat.le_refl _) (by simp)
        have S4 : Hid (Stms w4 w4.heap.size (.slice A4 (nv + nw) c4) (l ++ l')) := Lib.hid (stms_of_own o4 ((RX.out.keep hbl (Nat.le_refl _)).append (RY.out.keep hbl (Nat.le_refl _))) (by rw [List.length_append, LV.out, LW.out]) U4.out.size (Nat.le_refl _))
        have keep4 : Hid (∀ W, Upd [] w4 W → Stms W W.heap.size (.slice A4 (nv + nw) c4) (l ++ l')) := Lib.hid (fun W hu => (S4.out.belowW (hu.below (Nat.le_refl _) (by simp))).more hu.size)
        clear o4 u4 b4 hbl O3 BO3
        -- what is told
        obtain ⟨sp, hsp⟩ : ∃ s : Nat, sizes l = s := ⟨_, rfl⟩
        obtain ⟨sq, hsq⟩ : ∃ s : Nat, sizes l' = s := ⟨_, rfl⟩
        have E1 : Hid (sizeR l = sp) := Lib.hid (by rw [sizeR_eq, hsp])
        have E2 : Hid (sizeR l' = sq) := Lib.hid (by rw [sizeR_eq, hsq])
        have E3 : Hid (sizeR (l ++ l') = (sp : Int) + sq) := Lib.hid (by rw [sizeR_eq, sizes_append, hsp, hsq]; omega)
        have RB : Hid (sp + sq ≤ 100 → rightR ks (l ++ l') = if (rightR ks l).1 = 0 then (if (rightR ks l').1 = 0 then (0, 0) else ((rightR ks l').1, (sp : Int) + (rightR ks l').2)) else rightR ks l) := Lib.hid (by rw [← hsp, ← hsq]; exact right_both ks l l')
        have SZ : Hid (sizes (l ++ l') = sp + sq) := Lib.hid (by rw [sizes_append, hsp, hsq])
        have dp0 := deepR_pos l
        have dq0 := deepR_pos l'
        have da := deepR_append l l'
        obtain ⟨dp, hdp⟩ : ∃ s, deepR l = s := ⟨_, rfl⟩
        obtain ⟨dq, hdq⟩ : ∃ s, deepR l' = s := ⟨_, rfl⟩
        rw [hdp] at dp0
        rw [hdq] at dq0
        rw [hdp, hdq] at da
        have D1 := Lib.hid hdp
        have D2 := Lib.hid hdq
        have D3 : Hid (∃ dm, deepR (l ++ l') = dm ∧ ((dm = dp ∧ dq ≤ dp) ∨ (dm = dq ∧ dp < dq))) := Lib.hid ⟨_, rfl, by rw [da]; omega⟩
        have SP := Lib.hid hsp
        have SQ := Lib.hid hsq
        have hs1 : sp ≤ 250 := by rw [← hsp]; exact hs
        have hs2 : sq ≤ 250 := by rw [← hsq]; exact hs'
        clear hdp hdq da hsp hsq hs hs'
        obtain ⟨dm, hdm, hor⟩ := D3.out
        clear D3
        rcases hor with ⟨rfl, hle⟩ | ⟨rfl, hle⟩
        all_goals
          have DM := Lib.hid hdm
          clear hdm
          go_wp2_with fail
          refine (size_ok l (.slice Av nv cv) _ (keep.out _ U4.out).1 (by rw [SP.out]; omega)).mono ?_; rintro e w5 ⟨rfl, u5⟩
          rw [E1.out]
          have U5 := Lib.hid (U4.out.trans u5)
          have K5 := Lib.hid u5
          clear u5
          go_wp2_with fail
          refine (size_ok (l ++ l') (.slice A4 (nv + nw) c4) _ (keep4.out _ K5.out) (by rw [SZ.out]; omega)).mono ?_; rintro e w6 ⟨rfl, u6⟩
          rw [E3.out]
          have U6 := Lib.hid (U5.out.trans u6)
          have K6 := Lib.hid (K5.out.trans u6)
          clear u6 U5 K5
          go_wp2_with fail
          refine (size_ok l' (.slice Aw nw cw) _ (keep.out _ U6.out).2.1 (by rw [SQ.out]; omega)).mono ?_; rintro e w7 ⟨rfl, u7⟩
          rw [E2.out]
          have U7 := Lib.hid (U6.out.trans u7)
          have K7 := Lib.hid (K6.out.trans u7)
          clear u7 U6 K6
          go_wp2_with fail
          refine (deep_ok (l ++ l') (.slice A4 (nv + nw) c4) _ (keep4.out _ K7.out) (by rw [SZ.out]; omega)).mono ?_; rintro e w8 ⟨rfl, u8⟩
          rw [DM.out]
          have U8 := Lib.hid (U7.out.trans u8)
          have K8 := Lib.hid (K7.out.trans u8)
          clear u8 U7 K7
          go_wp2_with fail
          refine (deep_ok l (.slice Av nv cv) _ (keep.out _ U8.out).1 (by rw [SP.out]; omega)).mono ?_; rintro e w9 ⟨rfl, u9⟩
          rw [D1.out]
          have U9 := Lib.hid (U8.out.trans u9)
          have K9 := Lib.hid (K8.out.trans u9)
          clear u9 U8 K8
          go_wp2_with fail
          refine (deep_ok l' (.slice Aw nw cw) _ (keep.out _ U9.out).2.1 (by rw [SQ.out]; omega)).mono ?_; rintro e w10 ⟨rfl, u10⟩
          rw [D2.out]
          have U10 := Lib.hid (U9.out.trans u10)
          have K10 := Lib.hid (K9.out.trans u10)
          clear u10 U9 K9
          by_cases h100 : sp + sq ≤ 100
          · have h100' : decide ((100 : Int) < (sp : Int) + sq) = false := by simp; omega
            have RB2 := Lib.hid (RB.out h100)
            go_wp2_with fail
            refine (size_ok (l ++ l') (.slice A4 (nv + nw) c4) _ (keep4.out _ K10.out) (by rw [SZ.out]; omega)).mono ?_; rintro e w11 ⟨rfl, u11⟩
            rw [E3.out]
            have U11 := Lib.hid (U10.out.trans u11)
            have K11 := Lib.hid (K10.out.trans u11)
            clear u11 U10 K10
            go_wp2_with fail
            refine (prog_right_ok l (.slice Av nv cv) A n c ks _ (keep.out _ U11.out).1 (keep.out _ U11.out).2.2.1 (by omega) (by rw [SP.out]; omega)).mono ?_; rintro e w12 ⟨va, rfl, ea, u12⟩
            have EA := Lib.hid ea
            have U12 := Lib.hid (U11.out.trans u12)
            have K12 := Lib.hid (K11.out.trans u12)
            clear ea u12 U11 K11
            go_wp2_with fail
            refine (prog_right_ok l' (.slice Aw nw cw) A n c ks _ (keep.out _ U12.out).2.1 (keep.out _ U12.out).2.2.1 (by omega) (by rw [SQ.out]; omega)).mono ?_; rintro e w13 ⟨vb, rfl, eb, u13⟩
            have EA2 := Lib.hid (EA.out.upd u13)
            have EB := Lib.hid eb
            have U13 := Lib.hid (U12.out.trans u13)
            have K13 := Lib.hid (K12.out.trans u13)
            clear eb u13 U12 K12 EA
            go_wp2_with fail
            refine (prog_right_ok (l ++ l') (.slice A4 (nv + nw) c4) A n c ks _ (keep4.out _ K13.out) (keep.out _ U13.out).2.2.1 (by omega) (by rw [SZ.out]; omega)).mono ?_; rintro e w14 ⟨vc, rfl, ec, u14⟩
            have EA3 := Lib.hid (EA2.out.upd u14)
            have EB3 := Lib.hid (EB.out.upd u14)
            have EC := Lib.hid ec
            have U14 := Lib.hid (U13.out.trans u14)
            clear ec u14 U13 K13 EA2 EB
            go_wp2_with fail
            refine (no_err EA3.out).mono ?_; rintro e w15 ⟨rfl, rfl⟩
            have bb := right_bound ks l'
            rw [SQ.out] at bb
            obtain ⟨ra, ha⟩ : ∃ r, rightR ks l = r := ⟨_, rfl⟩
            obtain ⟨rb, hb⟩ : ∃ r, rightR ks l' = r := ⟨_, rfl⟩
            obtain ⟨rc, hc⟩ : ∃ r, rightR ks (l ++ l') = r := ⟨_, rfl⟩
            obtain ⟨a1, a2⟩ := ra
            obtain ⟨b1, b2⟩ := rb
            obtain ⟨c1, c2⟩ := rc
            rw [ha, hb, hc] at RB2
            rw [ha] at EA3 ⊢
            rw [hb] at EB3 bb
            rw [hc] at EC
            have bnd : Hid (∀ w v no at_, ErrV w v no at_ → 0 ≤ no ∧ no ≤ 17) := Lib.hid (fun w v no at_ h => by rcases h with ⟨_, h, _⟩ | ⟨_, h, _⟩ | ⟨_, _, _, h1, h2⟩ <;> omega)
            clear ha hb hc
            simp only at RB2 EA3 EB3 EC bb ⊢
            obtain ⟨bb1, bb2⟩ := bb
            by_cases ha0 : a1 = 0
            · have ha0' : (a1 != 0) = false := by simp [ha0]
              by_cases hb0 : b1 = 0
              · have hb0' : (b1 != 0) = false := by simp [hb0]
                have RC : Hid (c1 = 0) := Lib.hid (by have := RB2.out; rw [if_pos ha0, if_pos hb0] at this; injection this)
                clear ha0 hb0
                go_wp2_with fail
                refine (no_err EB3.out).mono ?_; rintro e w16 ⟨rfl, rfl⟩
                go_wp2_with fail
                refine (no_err EC.out).mono ?_; rintro e w16 ⟨rfl, rfl⟩
                rw [RC.out]
                go_wp2_with fail
                refine (fin.out _ U14.out).mono ?_; rintro e w17 ⟨rfl, u17⟩
                have U17 := Lib.hid u17
                clear u17
                go_wp2_with fail
                go_ret
                exact ⟨rfl, U17.out⟩
              · have hb0' : (b1 != 0) = true := by simpa using hb0
                have RC : Hid (c1 = b1 ∧ c2 = (sp : Int) + b2) := Lib.hid (by have := RB2.out; rw [if_pos ha0, if_neg hb0] at this; injection this with h1 h2; exact ⟨h1, h2⟩)
                clear ha0 hb0
                obtain ⟨rfl, rfl⟩ := RC.out
                go_wp2_with fail
                refine (no_err EB3.out).mono ?_; rintro e w16 ⟨rfl, rfl⟩
                go_wp2_with fail
                refine (no_err EC.out).mono ?_; rintro e w16 ⟨rfl, rfl⟩
                go_wp2_with fail
                refine (no_err EB3.out).mono ?_; rintro e w16 ⟨rfl, rfl⟩
                go_wp2_with fail
                refine (place_err EC.out (keep.out _ U14.out).2.2.2).mono ?_; rintro e w17 ⟨rfl, u17⟩
                have EB4 := Lib.hid (EB3.out.upd u17)
                have U17 := Lib.hid (U14.out.trans u17)
                clear u17 EB3 U14
                go_wp2_with fail
                refine (place_err EB4.out (keep.out _ U17.out).2.2.2).mono ?_; rintro e w18 ⟨rfl, u18⟩
                have U18 := Lib.hid (U17.out.trans u18)
                clear u18 EB4 U17
                go_wp2_with fail
                refine (fin.out _ U18.out).mono ?_; rintro e w19 ⟨rfl, u19⟩
                have U19 := Lib.hid u19
                clear u19
                go_wp2_with fail
                go_ret
                exact ⟨rfl, U19.out⟩
            · have ha0' : (a1 != 0) = true := by simpa using ha0
              have RC : Hid (c1 = a1 ∧ c2 = a2) := Lib.hid (by have := RB2.out; rw [if_neg ha0] at this; injection this with h1 h2; exact ⟨h1, h2⟩)
              clear ha0
              obtain ⟨rfl, rfl⟩ := RC.out
              go_wp2_with fail
              refine (no_err EC.out).mono ?_; rintro e w16 ⟨rfl, rfl⟩
              go_wp2_with fail
              refine (no_err EA3.out).mono ?_; rintro e w16 ⟨rfl, rfl⟩
              go_wp2_with fail
              refine (place_err EC.out (keep.out _ U14.out).2.2.2).mono ?_; rintro e w17 ⟨rfl, u17⟩
              have EA4 := Lib.hid (EA3.out.upd u17)
              have U17 := Lib.hid (U14.out.trans u17)
              clear u17 EA3 U14
              go_wp2_with fail
              refine (place_err EA4.out (keep.out _ U17.out).2.2.2).mono ?_; rintro e w18 ⟨rfl, u18⟩
              have U18 := Lib.hid (U17.out.trans u18)
              clear u18 EA4 U17
              go_wp2_with fail
              refine (fin.out _ U18.out).mono ?_; rintro e w19 ⟨rfl, u19⟩
              have U19 := Lib.hid u19
              clear u19
              go_wp2_with fail
              go_ret
              exact ⟨rfl, U19.out⟩
          · have h100' : decide ((100 : Int) < (sp : Int) + sq) = true := by simp; omega
            go_wp2_with fail
            refine (size_ok (l ++ l') (.slice A4 (nv + nw) c4) _ (keep4.out _ K10.out) (by rw [SZ.out]; omega)).mono ?_; rintro e w11 ⟨rfl, u11⟩
            rw [E3.out]
            have U11 := Lib.hid (U10.out.trans u11)
            clear u11 U10 K10
            go_wp2_with fail
            refine (fin.out _ U11.out).mono ?_; rintro e w12 ⟨rfl, u12⟩
            have U12 := Lib.hid u12
            clear u12
            go_wp2_with fail
            go_ret
            exact ⟨rfl, U12.out⟩
end Go.Proofs.YtblfklnnojhadaaDoor

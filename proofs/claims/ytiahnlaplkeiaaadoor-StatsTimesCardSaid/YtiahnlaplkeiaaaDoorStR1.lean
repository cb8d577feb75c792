/-
  concordref30: Thread, Of.
-/
import Derived.Test.YtiahnlaplkeiaaaDoorStOv
set_option linter.unusedVariables false
namespace Go.Proofs.YtiahnlaplkeiaaaDoor
open Go.RowKit St
attribute [local go_sem] litStep_value

theorem elem_enR : Elem Tryd.prog 22 45 9 88 := .mk' (z := ((Tryd.prog.info? 45).bind (·.zero)).getD undef) Tryd.underlying22 (by kernel_rfl) (by kernel_rfl) (by decide)
/-- The cells of an element, wherever nothing turns. -/
theorem en_all {w : World} {ad : Addr} {n c k : Nat} {L : List En} {a : En} (h : Rd encE w (.slice (some ad) n c) L) (hk : L[k]? = some a) : ∀ W, Upd [] w.drew W → EnAt W (ad.add (k * 9)) a := fun W hW => by
  obtain ⟨ad', e, _, h2⟩ := en_cells (h.upd0 ((Upd.refl [] w).drew.trans hW)) hk
  cases e
  exact h2
set_option maxRecDepth 100000 in
set_option maxHeartbeats 4000000 in
theorem rthread_ok (A : Option Addr) (n c : Nat) (L : List En) (t : Int) (w : World) (h : Rd encE w (.slice A n c) L) (hn : L.length = n) (hl : n ≤ 200) :
    Calls Tryd.prog 33 #[.slice A n c, .int .i64 t] w fun e w' => ∃ v, e = .returned v ∧ Ow encE 45 w' w.heap.size v (ofT L t) ∧ Upd [] w w' := by
  have H := Lib.hid h
  have HN := Lib.hid hn
  clear h hn
  go_enter Tryd.func33, Tryd.ntmps33
  go_wp2_with fail
  go_loopw [5, 6] (fun vl v wr => ∃ k : Nat, v = .int .i64 k ∧ k ≤ n ∧ Hid (Ow encE 45 wr w.heap.size vl (ofT (L.take k) t) ∧ Upd [] w wr)) (fun _ v _ => n - (intOf v).toNat)
  case atStart => exact ⟨0, rfl, by omega, Lib.hid ⟨Ow.nil _ _ _ _, .refl _ _⟩⟩
  case round =>
    obtain ⟨k, rfl, hk, HK⟩ := hrel
    by_cases hkn : k < n
    · obtain ⟨x, hx⟩ : ∃ x, L[k]? = some x := ⟨_, List.getElem?_eq_getElem (by rw [HN.out]; exact hkn)⟩
      have HT := Lib.hid (take_snoc hx)
      obtain ⟨ad, rfl, hlt, e0, e1, e2, e3, e4, e5, e6, e7, e8⟩ := en_cells (H.out.upd0 HK.out.2) hx
      obtain ⟨th, ix, st, wr', be, en, kd, er, ta, tn, tc⟩ := x
      simp only at e0 e1 e2 e3 e4 e5 e6 e7 e8
      have q1 : (0 : Int) ≤ (k : Int) := by omega
      have q2 : (k : Int) < (n : Int) := by omega
      clear hx
      by_cases hb : th = t
      · have HP : Hid (ofT (L.take (k + 1)) t = ofT (L.take k) t ++ [⟨th, ix, st, wr', be, en, kd, er, ta, tn, tc⟩]) := Lib.hid (by rw [HT.out, ofT_snoc, if_pos hb])
        have db : (th == t) = true := by simpa using hb
        obtain ⟨q, hq⟩ : ∃ q, (ofT (L.take k) t).length = q := ⟨_, rfl⟩
        have hq2 : q ≤ 200 := by
          have h1 : (ofT (L.take k) t).length ≤ (L.take k).length := List.length_filter_le _ _
          have h2 : (L.take k).length ≤ L.length := List.length_take_le' _ _
          have h3 := HN.out
          omega
        have O1 : Hid (wr.ownsRow w.heap.size 45 9 u5 q (flat encE (ofT (L.take k) t))) := Lib.hid (by have := HK.out.1; unfold Ow at this; rw [hq] at this; exact this)
        have HQ := Lib.hid hq
        clear hq hb
        go_wp2_with (at_builtin; refine stopped ?_)
        refine Lib.hid ?_
        refine wpList_app _ (by rfl) (.tmp 21) (.tmp 26) _ (by rfl) elem_enR u5 _ (by rfl) (by rfl) (own_upd0 O1.out ((Upd.refl [] wr).alloc _)) (.of_blk (Blk.new wr 45 #[.int .i64 th, .int .i64 ix, .int .i64 st, .bool wr', .int .i64 be, .int .i64 en, .int .i64 kd, .slice ta tn tc, .int .i64 er]) (m := 1) 1 rfl) (by intro u hu; simp at hu; rcases hu with rfl | rfl | rfl | rfl | rfl | rfl | rfl | rfl | rfl <;> rfl) (by simp only [maxLen]; omega) (by omega) (Nat.le_trans HK.out.2.size (by simp)) ?_
        intro v7 w7 o7 u7 b7
        have U7 : Hid (Upd [] w w7) := Lib.hid (HK.out.2.trans' (((Upd.refl _ wr).alloc _).trans u7) (fun k hk => .inr (own_lt O1.out (by simpa using hk)).1))
        have O7 : Hid (Ow encE 45 w7 w.heap.size v7 (ofT (L.take (k + 1)) t)) := Lib.hid (by
          rw [HP.out]
          unfold Ow
          rw [List.length_append, HQ.out, flat_append]
          exact o7)
        clear o7 u7 b7 e0 e1 e2 e3 e4 e5 e6 e7 e8
        go_wp2_with fail
        go_roundw
        case rel => exact ⟨k + 1, by go_num, by omega, Lib.hid ⟨O7.out, U7.out⟩⟩
        case measure => simp [intOf]; omega
      · have HP : Hid (ofT (L.take (k + 1)) t = ofT (L.take k) t) := Lib.hid (by rw [HT.out, ofT_snoc, if_neg hb])
        have db : (th == t) = false := by simpa using hb
        clear hb
        go_wp2_with fail
        go_roundw
        case rel => exact ⟨k + 1, by go_num, by omega, Lib.hid ⟨by rw [HP.out]; exact HK.out.1, HK.out.2⟩⟩
        case measure => simp [intOf]; omega
    · obtain rfl : k = n := by omega
      have FT : Hid (L.take k = L) := Lib.hid (List.take_of_length_le (by rw [HN.out]; exact Nat.le_refl _))
      rw [FT.out] at HK
      go_wp2_with fail
      go_ret
      exact ⟨_, rfl, HK.out.1, HK.out.2⟩

set_option maxRecDepth 100000 in
set_option maxHeartbeats 8000000 in
theorem rof_ok (A : Option Addr) (n c : Nat) (L : List En) (w : World) (h : Rd encE w (.slice A n c) L) (hn : L.length = n) (hl : n ≤ 200) (he : ∀ x ∈ L, EB x) :
    Calls Tryd.prog 32 #[.slice A n c] w fun e w' => e = .returned (talV (ofL L)) ∧ Upd [] w w' := by
  have H := Lib.hid h
  have HN := Lib.hid hn
  have HE := Lib.hid he
  clear h hn he
  go_enter Tryd.func32, Tryd.ntmps32
  go_wp2_with fail
  have BR : Hid (Blk ((w.alloc (.cells #[.int .i64 0, .int .i64 0, .int .i64 0, .int .i64 0, .int .i64 0, .int .i64 0, .int .i64 0, .int .i64 0] 26)).alloc (.cells #[.int .i64 0, .int .i64 0, .int .i64 0, .int .i64 0, .int .i64 0, .int .i64 0, .int .i64 0, .int .i64 0] 26)) w.heap.size 26 (talC zero)) := Lib.hid ((Blk.new w _ _).alloc _)
  have BT : Hid (Blk ((w.alloc (.cells #[.int .i64 0, .int .i64 0, .int .i64 0, .int .i64 0, .int .i64 0, .int .i64 0, .int .i64 0, .int .i64 0] 26)).alloc (.cells #[.int .i64 0, .int .i64 0, .int .i64 0, .int .i64 0, .int .i64 0, .int .i64 0, .int .i64 0, .int .i64 0] 26)) (w.heap.size + 1) 26 (talC (ofL (L.take 0)))) := Lib.hid (blk_newAt (by simp))
  have UR : Hid (Upd [] w ((w.alloc (.cells #[.int .i64 0, .int .i64 0, .int .i64 0, .int .i64 0, .int .i64 0, .int .i64 0, .int .i64 0, .int .i64 0] 26)).alloc (.cells #[.int .i64 0, .int .i64 0, .int .i64 0, .int .i64 0, .int .i64 0, .int .i64 0, .int .i64 0, .int .i64 0] 26))) := Lib.hid (((Upd.refl [] w).alloc _).alloc _)
  generalize ((w.alloc (.cells #[.int .i64 0, .int .i64 0, .int .i64 0, .int .i64 0, .int .i64 0, .int .i64 0, .int .i64 0, .int .i64 0] 26)).alloc (.cells #[.int .i64 0, .int .i64 0, .int .i64 0, .int .i64 0, .int .i64 0, .int .i64 0, .int .i64 0, .int .i64 0] 26)) = w1 at *
  obtain ⟨R, hR⟩ : ∃ R, w.heap.size = R := ⟨_, rfl⟩
  have HR : Hid (w.heap.size = R) := Lib.hid hR
  try rw [hR]
  rw [hR] at BR BT
  obtain ⟨T, hT⟩ : ∃ T, R + 1 = T := ⟨_, rfl⟩
  have HT : Hid (R + 1 = T) := Lib.hid hT
  try rw [hT]
  rw [hT] at BT
  clear hR hT
  go_loopw [4] (fun v wr => ∃ k : Nat, v = .int .i64 k ∧ k ≤ n ∧ Hid (Blk wr T 26 (talC (ofL (L.take k)))) ∧ Hid (Blk wr R 26 (talC zero)) ∧ Hid (Upd [] w wr)) (fun v _ => n - (intOf v).toNat)
  case atStart => exact ⟨0, rfl, by omega, BT, BR, UR⟩
  case round =>
    obtain ⟨k, rfl, hk, KT, KR, KU⟩ := hrel
    by_cases hkn : k < n
    · obtain ⟨x, hx⟩ : ∃ x, L[k]? = some x := ⟨_, List.getElem?_eq_getElem (by rw [HN.out]; exact hkn)⟩
      obtain ⟨f1, f2, f3, f4⟩ := HE.out _ (List.mem_of_getElem? hx)
      have SM := sm_ofL (l := L.take k) (fun y hy => HE.out y (List.mem_of_mem_take hy))
      rw [List.length_take, HN.out, Nat.min_eq_left hk] at SM
      obtain ⟨ad, rfl, hlt, -⟩ := en_cells (H.out.upd0 KU.out) hx
      have CS := Lib.hid (en_all (H.out.upd0 KU.out) hx)
      have TK : Hid (ofL (L.take (k + 1)) = join (ofL (L.take k)) (St.one x)) := Lib.hid (by rw [take_snoc hx, ofL_snoc])
      obtain ⟨⟨dn, wo, ab, bl, cp, fl, tm, lg⟩, hτ⟩ : ∃ τ, ofL (L.take k) = τ := ⟨_, rfl⟩
      rw [hτ] at TK KT SM
      obtain ⟨th, ix, st, wr', be, en, kd, er, ta, tn, tc⟩ := x
      obtain ⟨⟨h1, h1'⟩, ⟨h2, h2'⟩, ⟨h3, h3'⟩, ⟨h4, h4'⟩, ⟨h5, h5'⟩, ⟨h6, h6'⟩, ⟨h7, h7'⟩, ⟨h8, h8'⟩, -⟩ := SM
      simp only at h1 h1' h2 h2' h3 h3' h4 h4' h5 h5' h6 h6' h7 h7' h8 h8' f1 f2 f3 f4
      have g1 : dn ≤ 200 := by omega
      have g2 : wo ≤ 200 := by omega
      have g3 : ab ≤ 200 := by omega
      have g4 : bl ≤ 200 := by omega
      have g5 : cp ≤ 200 := by omega
      have g6 : fl ≤ 200 := by omega
      have g7 : tm ≤ 400000000 := by omega
      have g8 : -400000000 ≤ tm := by omega
      have q1 : (0 : Int) ≤ (k : Int) := by omega
      have q2 : (k : Int) < (n : Int) := by omega
      clear hx hτ h1' h2' h3' h4' h5' h6' h7 h7'
      go_wp2_with fail
      refine wp_invN [] [] (by kernel_rfl) (by kernel_rfl) (by kernel_rfl) trivial ?_
      with_reducible apply wpV_light
      · simp only [lightOp]
      · intro W hU hF
        have f0 := CS.out W hU
        obtain ⟨e0, e1, e2, e3, e4, e5, e6, e7, e8⟩ := f0
        clear hU hF
        go_simp
        exact rfl
      simp only [Act.put, List.setIfInBounds_toArray, List.set_cons_zero, List.set_cons_succ]
      with_reducible apply wpV_light
      · simp only [lightOp]
      · intro W hU hF
        have f0 := CS.out W hU
        obtain ⟨e0, e1, e2, e3, e4, e5, e6, e7, e8⟩ := f0
        clear hU hF
        go_simp
        exact rfl
      simp only [Act.put, List.setIfInBounds_toArray, List.set_cons_zero, List.set_cons_succ]
      with_reducible apply wpV_light
      · simp only [lightOp]
      · intro W hU hF
        have f0 := CS.out W hU
        obtain ⟨e0, e1, e2, e3, e4, e5, e6, e7, e8⟩ := f0
        clear hU hF
        go_simp
        exact rfl
      simp only [Act.put, List.setIfInBounds_toArray, List.set_cons_zero, List.set_cons_succ]
      with_reducible apply wpV_light
      · simp only [lightOp]
      · intro W hU hF
        have f0 := CS.out W hU
        obtain ⟨e0, e1, e2, e3, e4, e5, e6, e7, e8⟩ := f0
        clear hU hF
        go_simp
        exact rfl
      simp only [Act.put, List.setIfInBounds_toArray, List.set_cons_zero, List.set_cons_succ]
      with_reducible apply wpV_light
      · simp only [lightOp]
      · intro W hU hF
        have f0 := CS.out W hU
        obtain ⟨e0, e1, e2, e3, e4, e5, e6, e7, e8⟩ := f0
        clear hU hF
        go_simp
        exact rfl
      simp only [Act.put, List.setIfInBounds_toArray, List.set_cons_zero, List.set_cons_succ]
      with_reducible apply wpV_light
      · simp only [lightOp]
      · intro W hU hF
        have f0 := CS.out W hU
        obtain ⟨e0, e1, e2, e3, e4, e5, e6, e7, e8⟩ := f0
        clear hU hF
        go_simp
        exact rfl
      simp only [Act.put, List.setIfInBounds_toArray, List.set_cons_zero, List.set_cons_succ]
      with_reducible apply wpV_light
      · simp only [lightOp]
      · intro W hU hF
        have f0 := CS.out W hU
        obtain ⟨e0, e1, e2, e3, e4, e5, e6, e7, e8⟩ := f0
        clear hU hF
        go_simp
        exact rfl
      simp only [Act.put, List.setIfInBounds_toArray, List.set_cons_zero, List.set_cons_succ]
      with_reducible apply wpV_light
      · simp only [lightOp]
      · intro W hU hF
        have f0 := CS.out W hU
        obtain ⟨e0, e1, e2, e3, e4, e5, e6, e7, e8⟩ := f0
        clear hU hF
        go_simp
        exact rfl
      simp only [Act.put, List.setIfInBounds_toArray, List.set_cons_zero, List.set_cons_succ]
      with_reducible apply wpV_light
      · simp only [lightOp]
      · intro W hU hF
        have f0 := CS.out W hU
        obtain ⟨e0, e1, e2, e3, e4, e5, e6, e7, e8⟩ := f0
        clear hU hF
        go_simp
        exact rfl
      simp only [Act.put, List.setIfInBounds_toArray, List.set_cons_zero, List.set_cons_succ]
      with_reducible apply wpV_light
      · simp only [lightOp]
      · intro W hU hF
        have f0 := CS.out W hU
        obtain ⟨e0, e1, e2, e3, e4, e5, e6, e7, e8⟩ := f0
        clear hU hF
        go_simp
        exact rfl
      simp only [Act.put, List.setIfInBounds_toArray, List.set_cons_zero, List.set_cons_succ]
      with_reducible apply wpV_light
      · simp only [lightOp]
      · intro W hU hF
        have f0 := CS.out W hU
        obtain ⟨e0, e1, e2, e3, e4, e5, e6, e7, e8⟩ := f0
        clear hU hF
        go_simp
        exact rfl
      simp only [Act.put, List.setIfInBounds_toArray, List.set_cons_zero, List.set_cons_succ]
      with_reducible apply wpV_light
      · simp only [lightOp]
      · intro W hU hF
        have f0 := CS.out W hU
        obtain ⟨e0, e1, e2, e3, e4, e5, e6, e7, e8⟩ := f0
        clear hU hF
        go_simp
        exact rfl
      simp only [Act.put, List.setIfInBounds_toArray, List.set_cons_zero, List.set_cons_succ]
      with_reducible apply wpV_light
      · simp only [lightOp]
      · intro W hU hF
        have f0 := CS.out W hU
        obtain ⟨e0, e1, e2, e3, e4, e5, e6, e7, e8⟩ := f0
        clear hU hF
        go_simp
        exact rfl
      simp only [Act.put, List.setIfInBounds_toArray, List.set_cons_zero, List.set_cons_succ]
      with_reducible apply wpV_light
      · simp only [lightOp]
      · intro W hU hF
        have f0 := CS.out W hU
        obtain ⟨e0, e1, e2, e3, e4, e5, e6, e7, e8⟩ := f0
        clear hU hF
        go_simp
        exact rfl
      simp only [Act.put, List.setIfInBounds_toArray, List.set_cons_zero, List.set_cons_succ]
      refine wpV_end (fun W hU _ hF => ?_)
      have UW := Lib.hid ((Upd.refl [] wr).drew.trans hU)
      have KW := Lib.hid (KT.out.upd UW.out (by simp))
      have RW := Lib.hid (KR.out.upd UW.out (by simp))
      obtain ⟨e0, e1, e2, e3, e4, e5, e6, e7, e8⟩ := CS.out W hU
      have KV : Hid (Blk W T 26 #[.int .i64 dn, .int .i64 ab, .int .i64 bl, .int .i64 cp, .int .i64 fl, .int .i64 wo, .int .i64 tm, .int .i64 lg]) := Lib.hid KW.out
      have KF := KV.out.facts
      have hRT : R ≠ T := by have := HT.out; omega
      have UWW : Hid (Upd [] w W) := Lib.hid (KU.out.trans UW.out)
      have HTW : Hid (w.heap.size ≤ T) := Lib.hid (by have := HT.out; have := HR.out; omega)
      clear hU hF
      refine wpT_end ?_
      by_cases k1 : kd = 1
      · subst k1
        cases wr'
        · by_cases hlg : lg < en - be
          · have dl : decide (lg < en - be) = true := by simpa using hlg
            have KX := (((KV.out).set_ 0 (.int .i64 (dn + 1))).set_ 6 (.int .i64 (tm + (en - be)))).set_ 7 (.int .i64 (en - be))
            simp only [List.setIfInBounds_toArray, List.set_cons_zero, List.set_cons_succ] at KX
            have hm : max lg (en - be) = en - be := by omega
            have HX : Hid (ofL (L.take (k + 1)) = ⟨dn + 1, wo, ab, bl, cp, fl, tm + (en - be), en - be⟩) := Lib.hid (by rw [TK.out]; simp [join, St.one, isI, hm])
            have KY := Lib.hid KX
            clear KX
            go_wp2_with fail
            go_roundw
            case rel =>
              refine ⟨k + 1, by go_num, by omega, Lib.hid ?_, Lib.hid (RW.out.upd (S := [T]) ?_ (by simpa using hRT)), Lib.hid (UWW.out.trans' (T := [T]) ?_ (by simp; exact HTW.out))⟩
              · rw [HX.out]; exact KY.out
              · repeat (first | exact Upd.refl _ _ | refine Upd.setCell ?_ (.inl (by simp)) _)
              · repeat (first | exact Upd.refl _ _ | refine Upd.setCell ?_ (.inl (by simp)) _)
            case measure => simp [intOf]; omega
          · have dl : decide (lg < en - be) = false := by simpa using hlg
            have KX := ((KV.out).set_ 0 (.int .i64 (dn + 1))).set_ 6 (.int .i64 (tm + (en - be)))
            simp only [List.setIfInBounds_toArray, List.set_cons_zero, List.set_cons_succ] at KX
            have hm : max lg (en - be) = lg := by omega
            have HX : Hid (ofL (L.take (k + 1)) = ⟨dn + 1, wo, ab, bl, cp, fl, tm + (en - be), lg⟩) := Lib.hid (by rw [TK.out]; simp [join, St.one, isI, hm])
            have KY := Lib.hid KX
            clear KX
            go_wp2_with fail
            go_roundw
            case rel =>
              refine ⟨k + 1, by go_num, by omega, Lib.hid ?_, Lib.hid (RW.out.upd (S := [T]) ?_ (by simpa using hRT)), Lib.hid (UWW.out.trans' (T := [T]) ?_ (by simp; exact HTW.out))⟩
              · rw [HX.out]; exact KY.out
              · repeat (first | exact Upd.refl _ _ | refine Upd.setCell ?_ (.inl (by simp)) _)
              · repeat (first | exact Upd.refl _ _ | refine Upd.setCell ?_ (.inl (by simp)) _)
            case measure => simp [intOf]; omega
        · by_cases hlg : lg < en - be
          · have dl : decide (lg < en - be) = true := by simpa using hlg
            have KX := ((((KV.out).set_ 0 (.int .i64 (dn + 1))).set_ 5 (.int .i64 (wo + 1))).set_ 6 (.int .i64 (tm + (en - be)))).set_ 7 (.int .i64 (en - be))
            simp only [List.setIfInBounds_toArray, List.set_cons_zero, List.set_cons_succ] at KX
            have hm : max lg (en - be) = en - be := by omega
            have HX : Hid (ofL (L.take (k + 1)) = ⟨dn + 1, wo + 1, ab, bl, cp, fl, tm + (en - be), en - be⟩) := Lib.hid (by rw [TK.out]; simp [join, St.one, isI, hm])
            have KY := Lib.hid KX
            clear KX
            go_wp2_with fail
            go_roundw
            case rel =>
              refine ⟨k + 1, by go_num, by omega, Lib.hid ?_, Lib.hid (RW.out.upd (S := [T]) ?_ (by simpa using hRT)), Lib.hid (UWW.out.trans' (T := [T]) ?_ (by simp; exact HTW.out))⟩
              · rw [HX.out]; exact KY.out
              · repeat (first | exact Upd.refl _ _ | refine Upd.setCell ?_ (.inl (by simp)) _)
              · repeat (first | exact Upd.refl _ _ | refine Upd.setCell ?_ (.inl (by simp)) _)
            case measure => simp [intOf]; omega
          · have dl : decide (lg < en - be) = false := by simpa using hlg
            have KX := (((KV.out).set_ 0 (.int .i64 (dn + 1))).set_ 5 (.int .i64 (wo + 1))).set_ 6 (.int .i64 (tm + (en - be)))
            simp only [List.setIfInBounds_toArray, List.set_cons_zero, List.set_cons_succ] at KX
            have hm : max lg (en - be) = lg := by omega
            have HX : Hid (ofL (L.take (k + 1)) = ⟨dn + 1, wo + 1, ab, bl, cp, fl, tm + (en - be), lg⟩) := Lib.hid (by rw [TK.out]; simp [join, St.one, isI, hm])
            have KY := Lib.hid KX
            clear KX
            go_wp2_with fail
            go_roundw
            case rel =>
              refine ⟨k + 1, by go_num, by omega, Lib.hid ?_, Lib.hid (RW.out.upd (S := [T]) ?_ (by simpa using hRT)), Lib.hid (UWW.out.trans' (T := [T]) ?_ (by simp; exact HTW.out))⟩
              · rw [HX.out]; exact KY.out
              · repeat (first | exact Upd.refl _ _ | refine Upd.setCell ?_ (.inl (by simp)) _)
              · repeat (first | exact Upd.refl _ _ | refine Upd.setCell ?_ (.inl (by simp)) _)
            case measure => simp [intOf]; omega
      by_cases k2 : kd = 2
      · subst k2
        by_cases hlg : lg < en - be
        · have dl : decide (lg < en - be) = true := by simpa using hlg
          have KX := (((KV.out).set_ 1 (.int .i64 (ab + 1))).set_ 6 (.int .i64 (tm + (en - be)))).set_ 7 (.int .i64 (en - be))
          simp only [List.setIfInBounds_toArray, List.set_cons_zero, List.set_cons_succ] at KX
          have hm : max lg (en - be) = en - be := by omega
          have HX : Hid (ofL (L.take (k + 1)) = ⟨dn, wo, ab + 1, bl, cp, fl, tm + (en - be), en - be⟩) := Lib.hid (by rw [TK.out]; simp [join, St.one, isI, hm])
          have KY := Lib.hid KX
          clear KX
          go_wp2_with fail
          go_roundw
          case rel =>
            refine ⟨k + 1, by go_num, by omega, Lib.hid ?_, Lib.hid (RW.out.upd (S := [T]) ?_ (by simpa using hRT)), Lib.hid (UWW.out.trans' (T := [T]) ?_ (by simp; exact HTW.out))⟩
            · rw [HX.out]; exact KY.out
            · repeat (first | exact Upd.refl _ _ | refine Upd.setCell ?_ (.inl (by simp)) _)
            · repeat (first | exact Upd.refl _ _ | refine Upd.setCell ?_ (.inl (by simp)) _)
          case measure => simp [intOf]; omega
        · have dl : decide (lg < en - be) = false := by simpa using hlg
          have KX := ((KV.out).set_ 1 (.int .i64 (ab + 1))).set_ 6 (.int .i64 (tm + (en - be)))
          simp only [List.setIfInBounds_toArray, List.set_cons_zero, List.set_cons_succ] at KX
          have hm : max lg (en - be) = lg := by omega
          have HX : Hid (ofL (L.take (k + 1)) = ⟨dn, wo, ab + 1, bl, cp, fl, tm + (en - be), lg⟩) := Lib.hid (by rw [TK.out]; simp [join, St.one, isI, hm])
          have KY := Lib.hid KX
          clear KX
          go_wp2_with fail
          go_roundw
          case rel =>
            refine ⟨k + 1, by go_num, by omega, Lib.hid ?_, Lib.hid (RW.out.upd (S := [T]) ?_ (by simpa using hRT)), Lib.hid (UWW.out.trans' (T := [T]) ?_ (by simp; exact HTW.out))⟩
            · rw [HX.out]; exact KY.out
            · repeat (first | exact Upd.refl _ _ | refine Upd.setCell ?_ (.inl (by simp)) _)
            · repeat (first | exact Upd.refl _ _ | refine Upd.setCell ?_ (.inl (by simp)) _)
          case measure => simp [intOf]; omega
      by_cases k3 : kd = 3
      · subst k3
        by_cases hlg : lg < en - be
        · have dl : decide (lg < en - be) = true := by simpa using hlg
          have KX := (((KV.out).set_ 2 (.int .i64 (bl + 1))).set_ 6 (.int .i64 (tm + (en - be)))).set_ 7 (.int .i64 (en - be))
          simp only [List.setIfInBounds_toArray, List.set_cons_zero, List.set_cons_succ] at KX
          have hm : max lg (en - be) = en - be := by omega
          have HX : Hid (ofL (L.take (k + 1)) = ⟨dn, wo, ab, bl + 1, cp, fl, tm + (en - be), en - be⟩) := Lib.hid (by rw [TK.out]; simp [join, St.one, isI, hm])
          have KY := Lib.hid KX
          clear KX
          go_wp2_with fail
          go_roundw
          case rel =>
            refine ⟨k + 1, by go_num, by omega, Lib.hid ?_, Lib.hid (RW.out.upd (S := [T]) ?_ (by simpa using hRT)), Lib.hid (UWW.out.trans' (T := [T]) ?_ (by simp; exact HTW.out))⟩
            · rw [HX.out]; exact KY.out
            · repeat (first | exact Upd.refl _ _ | refine Upd.setCell ?_ (.inl (by simp)) _)
            · repeat (first | exact Upd.refl _ _ | refine Upd.setCell ?_ (.inl (by simp)) _)
          case measure => simp [intOf]; omega
        · have dl : decide (lg < en - be) = false := by simpa using hlg
          have KX := ((KV.out).set_ 2 (.int .i64 (bl + 1))).set_ 6 (.int .i64 (tm + (en - be)))
          simp only [List.setIfInBounds_toArray, List.set_cons_zero, List.set_cons_succ] at KX
          have hm : max lg (en - be) = lg := by omega
          have HX : Hid (ofL (L.take (k + 1)) = ⟨dn, wo, ab, bl + 1, cp, fl, tm + (en - be), lg⟩) := Lib.hid (by rw [TK.out]; simp [join, St.one, isI, hm])
          have KY := Lib.hid KX
          clear KX
          go_wp2_with fail
          go_roundw
          case rel =>
            refine ⟨k + 1, by go_num, by omega, Lib.hid ?_, Lib.hid (RW.out.upd (S := [T]) ?_ (by simpa using hRT)), Lib.hid (UWW.out.trans' (T := [T]) ?_ (by simp; exact HTW.out))⟩
            · rw [HX.out]; exact KY.out
            · repeat (first | exact Upd.refl _ _ | refine Upd.setCell ?_ (.inl (by simp)) _)
            · repeat (first | exact Upd.refl _ _ | refine Upd.setCell ?_ (.inl (by simp)) _)
          case measure => simp [intOf]; omega
      by_cases k4 : kd = 4
      · subst k4
        by_cases hlg : lg < en - be
        · have dl : decide (lg < en - be) = true := by simpa using hlg
          have KX := (((KV.out).set_ 3 (.int .i64 (cp + 1))).set_ 6 (.int .i64 (tm + (en - be)))).set_ 7 (.int .i64 (en - be))
          simp only [List.setIfInBounds_toArray, List.set_cons_zero, List.set_cons_succ] at KX
          have hm : max lg (en - be) = en - be := by omega
          have HX : Hid (ofL (L.take (k + 1)) = ⟨dn, wo, ab, bl, cp + 1, fl, tm + (en - be), en - be⟩) := Lib.hid (by rw [TK.out]; simp [join, St.one, isI, hm])
          have KY := Lib.hid KX
          clear KX
          go_wp2_with fail
          go_roundw
          case rel =>
            refine ⟨k + 1, by go_num, by omega, Lib.hid ?_, Lib.hid (RW.out.upd (S := [T]) ?_ (by simpa using hRT)), Lib.hid (UWW.out.trans' (T := [T]) ?_ (by simp; exact HTW.out))⟩
            · rw [HX.out]; exact KY.out
            · repeat (first | exact Upd.refl _ _ | refine Upd.setCell ?_ (.inl (by simp)) _)
            · repeat (first | exact Upd.refl _ _ | refine Upd.setCell ?_ (.inl (by simp)) _)
          case measure => simp [intOf]; omega
        · have dl : decide (lg < en - be) = false := by simpa using hlg
          have KX := ((KV.out).set_ 3 (.int .i64 (cp + 1))).set_ 6 (.int .i64 (tm + (en - be)))
          simp only [List.setIfInBounds_toArray, List.set_cons_zero, List.set_cons_succ] at KX
          have hm : max lg (en - be) = lg := by omega
          have HX : Hid (ofL (L.take (k + 1)) = ⟨dn, wo, ab, bl, cp + 1, fl, tm + (en - be), lg⟩) := Lib.hid (by rw [TK.out]; simp [join, St.one, isI, hm])
          have KY := Lib.hid KX
          clear KX
          go_wp2_with fail
          go_roundw
          case rel =>
            refine ⟨k + 1, by go_num, by omega, Lib.hid ?_, Lib.hid (RW.out.upd (S := [T]) ?_ (by simpa using hRT)), Lib.hid (UWW.out.trans' (T := [T]) ?_ (by simp; exact HTW.out))⟩
            · rw [HX.out]; exact KY.out
            · repeat (first | exact Upd.refl _ _ | refine Upd.setCell ?_ (.inl (by simp)) _)
            · repeat (first | exact Upd.refl _ _ | refine Upd.setCell ?_ (.inl (by simp)) _)
          case measure => simp [intOf]; omega
      have d1 : (kd == (1 : Int)) = false := by simpa using k1
      have d2 : (kd == (2 : Int)) = false := by simpa using k2
      have d3 : (kd == (3 : Int)) = false := by simpa using k3
      have d4 : (kd == (4 : Int)) = false := by simpa using k4
      clear k1 k2 k3 k4
      by_cases hlg : lg < en - be
      · have dl : decide (lg < en - be) = true := by simpa using hlg
        have KX := (((KV.out).set_ 4 (.int .i64 (fl + 1))).set_ 6 (.int .i64 (tm + (en - be)))).set_ 7 (.int .i64 (en - be))
        simp only [List.setIfInBounds_toArray, List.set_cons_zero, List.set_cons_succ] at KX
        have hm : max lg (en - be) = en - be := by omega
        have HX : Hid (ofL (L.take (k + 1)) = ⟨dn, wo, ab, bl, cp, fl + 1, tm + (en - be), en - be⟩) := Lib.hid (by rw [TK.out]; simp [join, St.one, isI, hm, d1, d2, d3, d4])
        have KY := Lib.hid KX
        clear KX
        go_wp2_with fail
        go_roundw
        case rel =>
          refine ⟨k + 1, by go_num, by omega, Lib.hid ?_, Lib.hid (RW.out.upd (S := [T]) ?_ (by simpa using hRT)), Lib.hid (UWW.out.trans' (T := [T]) ?_ (by simp; exact HTW.out))⟩
          · rw [HX.out]; exact KY.out
          · repeat (first | exact Upd.refl _ _ | refine Upd.setCell ?_ (.inl (by simp)) _)
          · repeat (first | exact Upd.refl _ _ | refine Upd.setCell ?_ (.inl (by simp)) _)
        case measure => simp [intOf]; omega
      · have dl : decide (lg < en - be) = false := by simpa using hlg
        have KX := ((KV.out).set_ 4 (.int .i64 (fl + 1))).set_ 6 (.int .i64 (tm + (en - be)))
        simp only [List.setIfInBounds_toArray, List.set_cons_zero, List.set_cons_succ] at KX
        have hm : max lg (en - be) = lg := by omega
        have HX : Hid (ofL (L.take (k + 1)) = ⟨dn, wo, ab, bl, cp, fl + 1, tm + (en - be), lg⟩) := Lib.hid (by rw [TK.out]; simp [join, St.one, isI, hm, d1, d2, d3, d4])
        have KY := Lib.hid KX
        clear KX
        go_wp2_with fail
        go_roundw
        case rel =>
          refine ⟨k + 1, by go_num, by omega, Lib.hid ?_, Lib.hid (RW.out.upd (S := [T]) ?_ (by simpa using hRT)), Lib.hid (UWW.out.trans' (T := [T]) ?_ (by simp; exact HTW.out))⟩
          · rw [HX.out]; exact KY.out
          · repeat (first | exact Upd.refl _ _ | refine Upd.setCell ?_ (.inl (by simp)) _)
          · repeat (first | exact Upd.refl _ _ | refine Upd.setCell ?_ (.inl (by simp)) _)
        case measure => simp [intOf]; omega
    · obtain rfl : n = k := by omega
      have FT : Hid (L.take n = L) := Lib.hid (List.take_of_length_le (by rw [HN.out]; exact Nat.le_refl _))
      rw [FT.out] at KT
      obtain ⟨τ, hτ⟩ : ∃ τ, ofL L = τ := ⟨_, rfl⟩
      rw [hτ] at KT
      have HTA := Lib.hid hτ
      have c0 : wr.cell? ⟨T, 0, none⟩ = some (.int .i64 τ.dn) := KT.out.cell 0
      have c1 : wr.cell? ⟨T, 1, none⟩ = some (.int .i64 τ.ab) := KT.out.cell 1
      have c2 : wr.cell? ⟨T, 2, none⟩ = some (.int .i64 τ.bl) := KT.out.cell 2
      have c3 : wr.cell? ⟨T, 3, none⟩ = some (.int .i64 τ.cp) := KT.out.cell 3
      have c4 : wr.cell? ⟨T, 4, none⟩ = some (.int .i64 τ.fl) := KT.out.cell 4
      have c5 : wr.cell? ⟨T, 5, none⟩ = some (.int .i64 τ.wo) := KT.out.cell 5
      have c6 : wr.cell? ⟨T, 6, none⟩ = some (.int .i64 τ.tm) := KT.out.cell 6
      have c7 : wr.cell? ⟨T, 7, none⟩ = some (.int .i64 τ.lg) := KT.out.cell 7
      have d0 := KR.out.frozen
      have dl : R < wr.heap.size := KR.out.lt
      have z0 : wr.cell? ⟨R, 0, none⟩ = some (.int .i64 0) := KR.out.cell 0
      have z1 : wr.cell? ⟨R, 1, none⟩ = some (.int .i64 0) := KR.out.cell 1
      have z2 : wr.cell? ⟨R, 2, none⟩ = some (.int .i64 0) := KR.out.cell 2
      have z3 : wr.cell? ⟨R, 3, none⟩ = some (.int .i64 0) := KR.out.cell 3
      have z4 : wr.cell? ⟨R, 4, none⟩ = some (.int .i64 0) := KR.out.cell 4
      have z5 : wr.cell? ⟨R, 5, none⟩ = some (.int .i64 0) := KR.out.cell 5
      have z6 : wr.cell? ⟨R, 6, none⟩ = some (.int .i64 0) := KR.out.cell 6
      have z7 : wr.cell? ⟨R, 7, none⟩ = some (.int .i64 0) := KR.out.cell 7
      clear hτ
      go_wp2_with fail
      have KX := blk_set8 KR.out (.int .i64 τ.dn) (.int .i64 τ.ab) (.int .i64 τ.bl) (.int .i64 τ.cp) (.int .i64 τ.fl) (.int .i64 τ.wo) (.int .i64 τ.tm) (.int .i64 τ.lg)
      have UX := upd_set8 (w := wr) (T := R) (.int .i64 τ.dn) (.int .i64 τ.ab) (.int .i64 τ.bl) (.int .i64 τ.cp) (.int .i64 τ.fl) (.int .i64 τ.wo) (.int .i64 τ.tm) (.int .i64 τ.lg)
      clear c0 c1 c2 c3 c4 c5 c6 c7 z0 z1 z2 z3 z4 z5 z6 z7 d0 dl
      generalize ((((((((wr.setCell ⟨R, 0, none⟩ _).setCell ⟨R, 1, none⟩ _).setCell ⟨R, 2, none⟩ _).setCell ⟨R, 3, none⟩ _).setCell ⟨R, 4, none⟩ _).setCell ⟨R, 5, none⟩ _).setCell ⟨R, 6, none⟩ _).setCell ⟨R, 7, none⟩ _) = w9 at KX UX ⊢
      have y0 : w9.cell? ⟨R, 0, none⟩ = some (.int .i64 τ.dn) := KX.cell 0
      have y1 : w9.cell? ⟨R, 1, none⟩ = some (.int .i64 τ.ab) := KX.cell 1
      have y2 : w9.cell? ⟨R, 2, none⟩ = some (.int .i64 τ.bl) := KX.cell 2
      have y3 : w9.cell? ⟨R, 3, none⟩ = some (.int .i64 τ.cp) := KX.cell 3
      have y4 : w9.cell? ⟨R, 4, none⟩ = some (.int .i64 τ.fl) := KX.cell 4
      have y5 : w9.cell? ⟨R, 5, none⟩ = some (.int .i64 τ.wo) := KX.cell 5
      have y6 : w9.cell? ⟨R, 6, none⟩ = some (.int .i64 τ.tm) := KX.cell 6
      have y7 : w9.cell? ⟨R, 7, none⟩ = some (.int .i64 τ.lg) := KX.cell 7
      refine bodyPost_ret (v := talV τ) (by simp [results, Tryd.results32, go_sem, y0, y1, y2, y3, y4, y5, y6, y7, talV]) rfl ⟨by rw [HTA.out], ?_⟩
      exact KU.out.trans' UX (by simp; rw [HR.out]; omega)
end Go.Proofs.YtiahnlaplkeiaaaDoor

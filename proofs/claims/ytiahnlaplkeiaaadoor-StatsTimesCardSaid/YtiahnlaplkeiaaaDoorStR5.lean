/-
  concordref30.Bars.
-/
import Derived.Test.YtiahnlaplkeiaaaDoorStR3
set_option linter.unusedVariables false
namespace Go.Proofs.YtiahnlaplkeiaaaDoor
open Go.RowKit St
attribute [local go_sem] litStep_value

set_option maxRecDepth 100000 in
set_option maxHeartbeats 4000000 in
theorem rbars_ok (A : Option Addr) (n c : Nat) (L : List En) (w : World) (h : Rd encE w (.slice A n c) L) (hn : L.length = n) (hl : n ≤ 200) (he : ∀ x ∈ L, EB x) :
    Calls Tryd.prog 19 #[.slice A n c] w fun e w' => ∃ v, e = .returned v ∧ OwI w' w.heap.size v (barsL L).length (barsL L) ∧ Upd [] w w' := by
  have H := Lib.hid h
  have HN := Lib.hid hn
  have HE := Lib.hid he
  clear h hn he
  go_enter Tryd.func19, Tryd.ntmps19
  go_wp2_with fail
  go_loopw [3, 4] (fun vl v wr => ∃ k : Nat, v = .int .i64 k ∧ k ≤ n ∧ Hid (OwI wr w.heap.size vl (barsL (L.take k)).length (barsL (L.take k)) ∧ Upd [] w wr)) (fun _ v _ => n - (intOf v).toNat)
  case atStart => exact ⟨0, rfl, by omega, Lib.hid ⟨own_nil _ _ _ _, .refl _ _⟩⟩
  case round =>
    obtain ⟨k, rfl, hk, HK⟩ := hrel
    obtain ⟨ho, hu⟩ := HK.out
    obtain ⟨Al, cl, rfl, _, _⟩ := own_slice ho
    by_cases hkn : k < n
    · obtain ⟨x, hx⟩ : ∃ x, L[k]? = some x := ⟨_, List.getElem?_eq_getElem (by rw [HN.out]; exact hkn)⟩
      have EX := Lib.hid (HE.out _ (List.mem_of_getElem? hx))
      have BS := Lib.hid (bits_small EX.out)
      have HT := Lib.hid (take_snoc hx)
      have HB22 : Hid ((barsL (L.take k)).length ≤ 22) := Lib.hid (barsL_len (fun y hy => HE.out y (List.mem_of_mem_take hy)))
      obtain ⟨ad, rfl, hlt, -⟩ := en_cells (H.out.upd0 hu) hx
      have CE := Lib.hid (en_all (H.out.upd0 hu) hx)
      obtain ⟨th, ix, st, wr', be, en, kd, er, ta, tn, tc⟩ := x
      obtain ⟨f1, f2, f3, f4⟩ := EX.out
      simp only at f1 f2 f3 f4
      have q1 : (0 : Int) ≤ (k : Int) := by omega
      have q2 : (k : Int) < (n : Int) := by omega
      obtain ⟨s, hs⟩ : ∃ s, barsL (L.take k) = s := ⟨_, rfl⟩
      obtain ⟨b, hb⟩ : ∃ b, St.bits (en - be) = b := ⟨_, rfl⟩
      have HS : Hid (barsL (L.take (k + 1)) = incAt s b) := Lib.hid (by rw [HT.out, barsL_snoc, hs]; show incAt s (St.bits (en - be)) = _; rw [hb])
      have HBB := Lib.hid hb
      have B21 : b ≤ 21 := by have := BS.out; unfold took at this; simp only at this; omega
      have HYB : Hid (∀ j, 0 ≤ s.getD j 0 ∧ s.getD j 0 ≤ 200) := Lib.hid (fun j => by
        have := bars_rng (L.take k) j
        rw [hs] at this
        have h2 : (L.take k).length ≤ L.length := List.length_take_le' _ _
        have h3 := HN.out
        omega)
      rw [hs] at ho HB22
      have O0 := Lib.hid ho
      have U0 := Lib.hid hu
      obtain ⟨q, hq⟩ : ∃ q, s.length = q := ⟨_, rfl⟩
      rw [hs, hq]
      rw [hq] at O0 HB22
      have HQ := Lib.hid hq
      have q22 : q ≤ 22 := HB22.out
      clear hx ho hu hs hb hq HK BS
      have wq : IntKind.i64.wrap (en - be) = en - be := by rw [IntKind.wrap_i64]; omega
      go_wp2_with fail
      refine wp_invN [] [] (by kernel_rfl) (by kernel_rfl) (by kernel_rfl) trivial ?_
      with_reducible apply wpV_light
      · simp only [lightOp]
      · intro W hU hF
        have f0 := CE.out W hU
        obtain ⟨e0, e1, e2, e3, e4, e5, e6, e7, e8⟩ := f0
        clear hU hF
        go_simp
        exact rfl
      simp only [Act.put, List.setIfInBounds_toArray, List.set_cons_zero, List.set_cons_succ]
      with_reducible apply wpV_light
      · simp only [lightOp]
      · intro W hU hF
        have f0 := CE.out W hU
        obtain ⟨e0, e1, e2, e3, e4, e5, e6, e7, e8⟩ := f0
        clear hU hF
        go_simp
        exact rfl
      simp only [Act.put, List.setIfInBounds_toArray, List.set_cons_zero, List.set_cons_succ]
      with_reducible apply wpV_light
      · simp only [lightOp]
      · intro W hU hF
        have f0 := CE.out W hU
        obtain ⟨e0, e1, e2, e3, e4, e5, e6, e7, e8⟩ := f0
        clear hU hF
        go_simp
        exact rfl
      simp only [Act.put, List.setIfInBounds_toArray, List.set_cons_zero, List.set_cons_succ]
      with_reducible apply wpV_light
      · simp only [lightOp]
      · intro W hU hF
        have f0 := CE.out W hU
        obtain ⟨e0, e1, e2, e3, e4, e5, e6, e7, e8⟩ := f0
        clear hU hF
        go_simp
        exact rfl
      simp only [Act.put, List.setIfInBounds_toArray, List.set_cons_zero, List.set_cons_succ]
      with_reducible apply wpV_light
      · simp only [lightOp]
      · intro W hU hF
        have f0 := CE.out W hU
        obtain ⟨e0, e1, e2, e3, e4, e5, e6, e7, e8⟩ := f0
        clear hU hF
        go_simp
        exact rfl
      simp only [Act.put, List.setIfInBounds_toArray, List.set_cons_zero, List.set_cons_succ]
      with_reducible apply wpV_light
      · simp only [lightOp]
      · intro W hU hF
        have f0 := CE.out W hU
        obtain ⟨e0, e1, e2, e3, e4, e5, e6, e7, e8⟩ := f0
        clear hU hF
        go_simp
        exact rfl
      simp only [Act.put, List.setIfInBounds_toArray, List.set_cons_zero, List.set_cons_succ]
      with_reducible apply wpV_light
      · simp only [lightOp]
      · intro W hU hF
        have f0 := CE.out W hU
        obtain ⟨e0, e1, e2, e3, e4, e5, e6, e7, e8⟩ := f0
        clear hU hF
        go_simp
        exact rfl
      simp only [Act.put, List.setIfInBounds_toArray, List.set_cons_zero, List.set_cons_succ]
      with_reducible apply wpV_light
      · simp only [lightOp]
      · intro W hU hF
        have f0 := CE.out W hU
        obtain ⟨e0, e1, e2, e3, e4, e5, e6, e7, e8⟩ := f0
        clear hU hF
        go_simp
        exact rfl
      simp only [Act.put, List.setIfInBounds_toArray, List.set_cons_zero, List.set_cons_succ]
      with_reducible apply wpV_light
      · simp only [lightOp]
      · intro W hU hF
        have f0 := CE.out W hU
        obtain ⟨e0, e1, e2, e3, e4, e5, e6, e7, e8⟩ := f0
        clear hU hF
        go_simp
        exact rfl
      simp only [Act.put, List.setIfInBounds_toArray, List.set_cons_zero, List.set_cons_succ]
      with_reducible apply wpV_light
      · simp only [lightOp]
      · intro W hU hF
        have f0 := CE.out W hU
        obtain ⟨e0, e1, e2, e3, e4, e5, e6, e7, e8⟩ := f0
        clear hU hF
        go_simp
        exact rfl
      simp only [Act.put, List.setIfInBounds_toArray, List.set_cons_zero, List.set_cons_succ]
      with_reducible apply wpV_light
      · simp only [lightOp]
      · intro W hU hF
        have f0 := CE.out W hU
        obtain ⟨e0, e1, e2, e3, e4, e5, e6, e7, e8⟩ := f0
        clear hU hF
        go_simp
        exact rfl
      simp only [Act.put, List.setIfInBounds_toArray, List.set_cons_zero, List.set_cons_succ]
      with_reducible apply wpV_light
      · simp only [lightOp]
      · intro W hU hF
        have f0 := CE.out W hU
        obtain ⟨e0, e1, e2, e3, e4, e5, e6, e7, e8⟩ := f0
        clear hU hF
        go_simp
        exact rfl
      simp only [Act.put, List.setIfInBounds_toArray, List.set_cons_zero, List.set_cons_succ]
      with_reducible apply wpV_light
      · simp only [lightOp]
      · intro W hU hF
        have f0 := CE.out W hU
        obtain ⟨e0, e1, e2, e3, e4, e5, e6, e7, e8⟩ := f0
        clear hU hF
        go_simp
        exact rfl
      simp only [Act.put, List.setIfInBounds_toArray, List.set_cons_zero, List.set_cons_succ]
      with_reducible apply wpV_light
      · simp only [lightOp]
      · intro W hU hF
        have f0 := CE.out W hU
        obtain ⟨e0, e1, e2, e3, e4, e5, e6, e7, e8⟩ := f0
        clear hU hF
        go_simp
        exact rfl
      simp only [Act.put, List.setIfInBounds_toArray, List.set_cons_zero, List.set_cons_succ]
      refine wpV_end (fun w5 hU _ hF => ?_)
      have UW : Hid (Upd [] wr w5) := Lib.hid ((Upd.refl [] wr).drew.trans hU)
      have U1 : Hid (Upd [] w w5) := Lib.hid (U0.out.trans UW.out)
      have O1 := Lib.hid (own_upd0 O0.out UW.out)
      clear hU hF
      refine wpT_end ?_
      go_wp2_with fail
      go_loopw [5, 6] (fun vt vj wi => ∃ (j : Nat) (t : Int), vj = .int .i64 j ∧ vt = .int .i64 t ∧ -2000000 ≤ t ∧ t ≤ 2000000 ∧ j ≤ 21 ∧ Hid (j + St.bits t = b) ∧ Hid (Upd [] w5 wi)) (fun v _ _ => (intOf v).toNat)
      case atStart => exact ⟨0, en - be, rfl, by go_num, by omega, by omega, by omega, Lib.hid (by rw [HBB.out, Nat.zero_add]), Lib.hid (.refl _ _)⟩
      case round =>
        obtain ⟨j, t, rfl, rfl, t1, t2, hj, HJ, UJ⟩ := hrel
        rename World => wj
        by_cases ht : 0 < t
        · have d : decide (0 < t) = true := by simpa using ht
          have HJ2 : Hid (j + 1 + St.bits (t / 2) = b) := Lib.hid (by rw [← HJ.out, bits_pos ht]; omega)
          have hj2 : j + 1 ≤ 21 := by have := HJ2.out; omega
          go_wp2_with fail
          go_roundw
          case rel => exact ⟨j + 1, t / 2, by go_num, by go_num, by omega, by omega, hj2, HJ2, UJ⟩
          case measure => simp [intOf]; omega
        · have d : decide (0 < t) = false := by simpa using ht
          have HJ2 : j = b := by have := HJ.out; rw [bits_non ht] at this; omega
          subst HJ2
          have O2 := Lib.hid (own_upd0 O1.out UJ.out)
          have U2 := Lib.hid (U1.out.trans UJ.out)
          clear HJ t1 t2 ht
          have PQ : Hid (q ≤ max q (j + 1)) := Lib.hid (by omega)
          go_wp2_with fail
          go_loopw [3] (fun vl wi => ∃ m, m ≤ 23 ∧ q ≤ m ∧ Hid (m ≤ max q (j + 1)) ∧ Hid (OwI wi w.heap.size vl m (padTo s m) ∧ Upd [] w wi)) (fun v _ => 23 - slLen v)
          case atStart => exact ⟨q, by omega, Nat.le_refl _, PQ, Lib.hid ⟨by rw [← HQ.out, pad_self, HQ.out]; exact O2.out, U2.out⟩⟩
          case round =>
            obtain ⟨m, m23, hqm, HM, HO⟩ := hrel
            rename World => wk
            have ES : Hid (∃ A c, u3 = .slice A m c) := Lib.hid (by obtain ⟨A, c, h, _⟩ := own_slice HO.out.1; exact ⟨A, c, h⟩)
            have ln : ∀ W, (Builtin.len_ #[29] 3 #[u3]).run Tryd.prog W = .ok (.int .i64 m) W := run_lenS ES.out
            by_cases hmj : m ≤ j
            · have PS : Hid (padTo s (m + 1) = padTo s m ++ [0]) := Lib.hid (pad_step (by rw [HQ.out]; exact hqm))
              go_wp2_with (at_builtin; refine stopped ?_)
              refine Lib.hid ?_
              refine wpList_app _ (by rfl) (.tmp 38) (.tmp 39) _ (by rfl) elem_int u3 _ (by rfl) (by rfl) (own_upd0 HO.out.1 ((Upd.refl [] wk).alloc _)) (.of_blk (Blk.new _ _ _) (m := 1) 1 rfl) (by intro u hu; simp at hu; subst hu; rfl) (by simp only [maxLen]; omega) (by omega) (Nat.le_trans HO.out.2.size (by simp)) ?_
              intro v7 w7 o7 u7 b7
              obtain ⟨A7, c7, rfl, _, _⟩ := own_slice o7
              have U7 : Hid (Upd [] w w7) := Lib.hid (HO.out.2.trans' (((Upd.refl _ wk).alloc _).trans u7) (fun k hk => .inr (own_lt HO.out.1 (by simpa using hk)).1))
              have O7 : Hid (OwI w7 w.heap.size (.slice A7 (m + 1) c7) (m + 1) (padTo s (m + 1))) := Lib.hid (by
                rw [PS.out]
                unfold OwI
                rw [List.map_append]
                exact o7)
              clear o7 u7 b7
              go_wp2_with fail
              go_roundw
              case rel => exact ⟨m + 1, by omega, by omega, Lib.hid (by omega), Lib.hid ⟨O7.out, U7.out⟩⟩
              case measure => obtain ⟨_, _, rfl⟩ := ES.out; simp [slLen]; omega
            · have hme : m = max q (j + 1) := by have := HM.out; omega
              have PI := Lib.hid (pad_inc s j)
              have O9 := Lib.hid HO.out.1
              have U9 := Lib.hid HO.out.2
              rw [HQ.out, ← hme] at PI
              obtain ⟨y, hy⟩ : ∃ y, (padTo s m)[j]? = some y := ⟨_, List.getElem?_eq_getElem (by rw [pad_len, HQ.out]; omega)⟩
              have HY := Lib.hid hy
              have PJ : Hid (incAt s j = (padTo s m).set j (y + 1)) := Lib.hid (by rw [PI.out, List.getD_eq_getElem?_getD, hy]; rfl)
              have YB : Hid (0 ≤ y ∧ y ≤ 200) := Lib.hid (by
                have h1 : y = (padTo s m).getD j 0 := by rw [List.getD_eq_getElem?_getD, hy]; rfl
                rw [pad_get] at h1
                rw [h1]
                exact ⟨(HYB.out j).1, by have := (HYB.out j).2; omega⟩)
              have y1 : 0 ≤ y := YB.out.1
              have y2 : y ≤ 200 := YB.out.2
              have p1 : (0 : Int) ≤ (j : Int) := by omega
              have p2 : (j : Int) < (m : Int) := by omega
              clear HO HM PI hy
              go_wp2_with (at_builtin; refine stopped ?_)
              refine Lib.hid ?_
              refine wpList_app _ (by rfl) (.tmp 41) (.tmp 42) _ (by rfl) elem_int _ u3 (by rfl) (by rfl) (own_made (B := w.heap.size) 1 (Blk.new wk 3 #[]) U9.out.size) ((Src.of_own O9.out).upd0 ((Upd.refl [] wk).alloc _)) (by intro u hu; obtain ⟨x, _, rfl⟩ := List.mem_map.1 hu; rfl) (by simp only [maxLen]; omega) (by omega) (Nat.le_trans U9.out.size (by simp)) ?_
              intro v8 w8 o8 u8 b8
              rw [List.nil_append, Nat.zero_add] at o8
              have O8 : Hid (OwI w8 w.heap.size v8 m (padTo s m)) := Lib.hid o8
              have U8 : Hid (Upd [] w w8) := Lib.hid (U9.out.trans' (((Upd.refl _ wk).alloc _).trans u8) (by simp [Value.ownBlock]; exact U9.out.size))
              clear o8 u8 b8 ln
              obtain ⟨g, cg, cur, rfl, hg, _⟩ := own_form O8.out (by omega)
              have y0 : w8.cell? ⟨g, j, none⟩ = some (.int .i64 y) := own_cell O8.out j _ (by rw [List.getElem?_map, HY.out]; rfl)
              have z0 : w8.frozen? ⟨g, j, none⟩ = false := own_frozen O8.out j
              have hg2 : g < w8.heap.size := (own_lt O8.out rfl).2
              go_wp2_with fail
              go_roundw
              case rel =>
                refine ⟨k + 1, by go_num, by omega, Lib.hid ⟨?_, ?_⟩⟩
                · have o := own_set O8.out j (.int .i64 (y + 1))
                  rw [HS.out, PJ.out, List.length_set, pad_len, HQ.out]
                  unfold OwI
                  rw [List.map_set]
                  rw [show max q m = m by omega]
                  rw [← hme]
                  exact o
                · exact U8.out.setCell (.inr hg) _
              case measure => simp [intOf]; omega
    · obtain rfl : k = n := by omega
      have FT : Hid (L.take k = L) := Lib.hid (List.take_of_length_le (by rw [HN.out]; exact Nat.le_refl _))
      go_wp2_with fail
      go_ret
      rw [FT.out] at ho
      exact ⟨_, rfl, by rw [FT.out]; exact ho, hu⟩
end Go.Proofs.YtiahnlaplkeiaaaDoor

/-
  concordref30: Sorted, Threads.
-/
import Derived.Test.YtiahnlaplkeiaaaDoorStR1
set_option linter.unusedVariables false
namespace Go.Proofs.YtiahnlaplkeiaaaDoor
open Go.RowKit St
attribute [local go_sem] litStep_value

theorem insS_at {a : Int} : ∀ {l : List Int} {j : Nat}, j ≤ l.length → (∀ i, i < j → l.getD i 0 < a) → (j = l.length ∨ ¬ l.getD j 0 < a) → insS l a = l.take j ++ [a] ++ l.drop j
  | [], j, hj, _, _ => by
    obtain rfl : j = 0 := by simpa using hj
    rfl
  | x :: l, 0, _, _, h => by
    have hx : ¬ x < a := by
      rcases h with h | h
      · simp at h
      · simpa using h
    unfold insS
    rw [if_neg hx]
    rfl
  | x :: l, j + 1, hj, h1, h => by
    have hx : x < a := by simpa using h1 0 (by omega)
    unfold insS
    rw [if_pos hx, insS_at (j := j) (by simpa using hj) (fun i hi => by simpa using h1 (i + 1) (by omega)) (by
      rcases h with h | h
      · left; simpa using h
      · right; simpa using h)]
    rfl
theorem insU_at {a : Int} : ∀ {l : List Int} {j : Nat}, j ≤ l.length → (∀ i, i < j → l.getD i 0 < a) → (j = l.length ∨ a < l.getD j 0) → insU l a = l.take j ++ [a] ++ l.drop j
  | [], j, hj, _, _ => by
    obtain rfl : j = 0 := by simpa using hj
    rfl
  | x :: l, 0, _, _, h => by
    have hx : a < x := by
      rcases h with h | h
      · simp at h
      · simpa using h
    unfold insU
    rw [if_pos hx]
    rfl
  | x :: l, j + 1, hj, h1, h => by
    have hx : x < a := by simpa using h1 0 (by omega)
    unfold insU
    rw [if_neg (by omega), if_neg (by omega), insU_at (j := j) (by simpa using hj) (fun i hi => by simpa using h1 (i + 1) (by omega)) (by
      rcases h with h | h
      · left; simpa using h
      · right; simpa using h)]
    rfl
theorem insU_in {a : Int} : ∀ {l : List Int} {j : Nat}, j < l.length → (∀ i, i < j → l.getD i 0 < a) → l.getD j 0 = a → insU l a = l
  | [], j, hj, _, _ => by simp at hj
  | x :: l, 0, _, _, h => by
    have hx : x = a := by simpa using h
    unfold insU
    rw [if_neg (by omega), if_pos hx]
  | x :: l, j + 1, hj, h1, h => by
    have hx : x < a := by simpa using h1 0 (by omega)
    unfold insU
    rw [if_neg (by omega), if_neg (by omega), insU_in (j := j) (by simpa using hj) (fun i hi => by simpa using h1 (i + 1) (by omega)) (by simpa using h)]
theorem insL_len (l : List En) : (insL l).length = l.length := by rw [insL_tooks, tooks_len]
set_option maxRecDepth 100000 in
set_option maxHeartbeats 4000000 in
theorem rsorted_ok (A : Option Addr) (n c : Nat) (L : List En) (w : World) (h : Rd encE w (.slice A n c) L) (hn : L.length = n) (hl : n ≤ 200) (he : ∀ x ∈ L, EB x) :
    Calls Tryd.prog 30 #[.slice A n c] w fun e w' => ∃ v, e = .returned v ∧ OwI w' w.heap.size v n (tooks L) ∧ Upd [] w w' := by
  have H := Lib.hid h
  have HN := Lib.hid hn
  have HE := Lib.hid he
  clear h hn he
  go_enter Tryd.func30, Tryd.ntmps30
  go_wp2_with fail
  go_loopw [3, 4] (fun vl v wr => ∃ k : Nat, v = .int .i64 k ∧ k ≤ n ∧ Hid (OwI wr w.heap.size vl k (insL (L.take k)) ∧ Upd [] w wr)) (fun _ v _ => n - (intOf v).toNat)
  case atStart => exact ⟨0, rfl, by omega, Lib.hid ⟨own_nil _ _ _ _, .refl _ _⟩⟩
  case round =>
    obtain ⟨k, rfl, hk, HK⟩ := hrel
    obtain ⟨Al, cl, rfl, hnc, hcm⟩ := own_slice HK.out.1
    by_cases hkn : k < n
    · obtain ⟨x, hx⟩ : ∃ x, L[k]? = some x := ⟨_, List.getElem?_eq_getElem (by rw [HN.out]; exact hkn)⟩
      obtain ⟨f1, f2, f3, f4⟩ := HE.out _ (List.mem_of_getElem? hx)
      have HT := Lib.hid (take_snoc hx)
      obtain ⟨ad, rfl, hlt, -⟩ := en_cells (H.out.upd0 HK.out.2) hx
      have CE := Lib.hid (en_all (H.out.upd0 HK.out.2) hx)
      obtain ⟨th, ix, st, wr', be, en, kd, er, ta, tn, tc⟩ := x
      simp only at f1 f2 f3 f4
      obtain ⟨a2, ha2⟩ : ∃ a2, en - be = a2 := ⟨_, rfl⟩
      have b1 : -2000000 ≤ a2 := by omega
      have b2 : a2 ≤ 2000000 := by omega
      obtain ⟨out, hout⟩ : ∃ out, insL (L.take k) = out := ⟨_, rfl⟩
      obtain ⟨out', hout'⟩ : ∃ out', insL (L.take (k + 1)) = out' := ⟨_, rfl⟩
      have OL : Hid (out.length = k) := Lib.hid (by rw [← hout, insL_len, List.length_take, HN.out]; omega)
      have HO' : Hid (out' = insS out a2) := Lib.hid (by rw [← hout', HT.out, insL_snoc, hout, ← ha2]; rfl)
      have OW : Hid (OwI wr w.heap.size (.slice Al k cl) k out) := Lib.hid (by rw [← hout]; exact HK.out.1)
      have q1 : (0 : Int) ≤ (k : Int) := by omega
      have q2 : (k : Int) < (n : Int) := by omega
      unfold maxLen at hcm
      clear hx hout
      go_wp2_with fail
      refine wp_invN [] [] (by kernel_rfl) (by kernel_rfl) (by kernel_rfl) trivial ?_
      with_reducible apply wpV_light
      · simp only [lightOp]
      · intro W hU hF
        have f0 := CE.out W hU
        obtain ⟨e0, e1, e2, e3, e4, e5, e6, e7, e8⟩ := f0
        clear hU hF
        go_simp
        exact rfl
      simp only [Act.put, List.setIfInBounds_toArray, List.set_cons_zero, List.set_cons_succ]
      with_reducible apply wpV_light
      · simp only [lightOp]
      · intro W hU hF
        have f0 := CE.out W hU
        obtain ⟨e0, e1, e2, e3, e4, e5, e6, e7, e8⟩ := f0
        clear hU hF
        go_simp
        exact rfl
      simp only [Act.put, List.setIfInBounds_toArray, List.set_cons_zero, List.set_cons_succ]
      with_reducible apply wpV_light
      · simp only [lightOp]
      · intro W hU hF
        have f0 := CE.out W hU
        obtain ⟨e0, e1, e2, e3, e4, e5, e6, e7, e8⟩ := f0
        clear hU hF
        go_simp
        exact rfl
      simp only [Act.put, List.setIfInBounds_toArray, List.set_cons_zero, List.set_cons_succ]
      with_reducible apply wpV_light
      · simp only [lightOp]
      · intro W hU hF
        have f0 := CE.out W hU
        obtain ⟨e0, e1, e2, e3, e4, e5, e6, e7, e8⟩ := f0
        clear hU hF
        go_simp
        exact rfl
      simp only [Act.put, List.setIfInBounds_toArray, List.set_cons_zero, List.set_cons_succ]
      with_reducible apply wpV_light
      · simp only [lightOp]
      · intro W hU hF
        have f0 := CE.out W hU
        obtain ⟨e0, e1, e2, e3, e4, e5, e6, e7, e8⟩ := f0
        clear hU hF
        go_simp
        exact rfl
      simp only [Act.put, List.setIfInBounds_toArray, List.set_cons_zero, List.set_cons_succ]
      with_reducible apply wpV_light
      · simp only [lightOp]
      · intro W hU hF
        have f0 := CE.out W hU
        obtain ⟨e0, e1, e2, e3, e4, e5, e6, e7, e8⟩ := f0
        clear hU hF
        go_simp
        exact rfl
      simp only [Act.put, List.setIfInBounds_toArray, List.set_cons_zero, List.set_cons_succ]
      with_reducible apply wpV_light
      · simp only [lightOp]
      · intro W hU hF
        have f0 := CE.out W hU
        obtain ⟨e0, e1, e2, e3, e4, e5, e6, e7, e8⟩ := f0
        clear hU hF
        go_simp
        exact rfl
      simp only [Act.put, List.setIfInBounds_toArray, List.set_cons_zero, List.set_cons_succ]
      with_reducible apply wpV_light
      · simp only [lightOp]
      · intro W hU hF
        have f0 := CE.out W hU
        obtain ⟨e0, e1, e2, e3, e4, e5, e6, e7, e8⟩ := f0
        clear hU hF
        go_simp
        exact rfl
      simp only [Act.put, List.setIfInBounds_toArray, List.set_cons_zero, List.set_cons_succ]
      with_reducible apply wpV_light
      · simp only [lightOp]
      · intro W hU hF
        have f0 := CE.out W hU
        obtain ⟨e0, e1, e2, e3, e4, e5, e6, e7, e8⟩ := f0
        clear hU hF
        go_simp
        exact rfl
      simp only [Act.put, List.setIfInBounds_toArray, List.set_cons_zero, List.set_cons_succ]
      with_reducible apply wpV_light
      · simp only [lightOp]
      · intro W hU hF
        have f0 := CE.out W hU
        obtain ⟨e0, e1, e2, e3, e4, e5, e6, e7, e8⟩ := f0
        clear hU hF
        go_simp
        exact rfl
      simp only [Act.put, List.setIfInBounds_toArray, List.set_cons_zero, List.set_cons_succ]
      with_reducible apply wpV_light
      · simp only [lightOp]
      · intro W hU hF
        have f0 := CE.out W hU
        obtain ⟨e0, e1, e2, e3, e4, e5, e6, e7, e8⟩ := f0
        clear hU hF
        go_simp
        exact rfl
      simp only [Act.put, List.setIfInBounds_toArray, List.set_cons_zero, List.set_cons_succ]
      with_reducible apply wpV_light
      · simp only [lightOp]
      · intro W hU hF
        have f0 := CE.out W hU
        obtain ⟨e0, e1, e2, e3, e4, e5, e6, e7, e8⟩ := f0
        clear hU hF
        go_simp
        exact rfl
      simp only [Act.put, List.setIfInBounds_toArray, List.set_cons_zero, List.set_cons_succ]
      with_reducible apply wpV_light
      · simp only [lightOp]
      · intro W hU hF
        have f0 := CE.out W hU
        obtain ⟨e0, e1, e2, e3, e4, e5, e6, e7, e8⟩ := f0
        clear hU hF
        go_simp
        exact rfl
      simp only [Act.put, List.setIfInBounds_toArray, List.set_cons_zero, List.set_cons_succ]
      with_reducible apply wpV_light
      · simp only [lightOp]
      · intro W hU hF
        have f0 := CE.out W hU
        obtain ⟨e0, e1, e2, e3, e4, e5, e6, e7, e8⟩ := f0
        clear hU hF
        go_simp
        exact rfl
      simp only [Act.put, List.setIfInBounds_toArray, List.set_cons_zero, List.set_cons_succ]
      refine wpV_end (fun W hU _ hF => ?_)
      have UW : Hid (Upd [] wr W) := Lib.hid ((Upd.refl [] wr).drew.trans hU)
      clear hU hF
      refine wpT_end ?_
      go_wp2_with fail
      clear ha2
      go_loopw [6] (fun u wk => ∃ j : Nat, u = .int .i64 j ∧ j ≤ k ∧ Hid (∀ i, i < j → out.getD i 0 < a2) ∧ Hid (Upd [] wr wk)) (fun u _ => k - (intOf u).toNat)
      case atStart => exact ⟨0, rfl, by omega, Lib.hid (fun i hi => by omega), UW⟩
      case round =>
        obtain ⟨j, rfl, hj, HJ, JU⟩ := hrel
        rename World => wj
        have p1 : (0 : Int) ≤ (j : Int) := by omega
        have p3 : (j : Int) ≤ (cl : Int) := by omega
        have p4 : (k : Int) ≤ (cl : Int) := by omega
        have p5 : (j : Int) ≤ (k : Int) := by omega
        by_cases hjN : j < k
        · obtain ⟨z, hz⟩ : ∃ z, out[j]? = some z := ⟨_, List.getElem?_eq_getElem (by rw [OL.out]; exact hjN)⟩
          have HZD : Hid (out.getD j 0 = z) := Lib.hid (by rw [List.getD_eq_getElem?_getD, hz]; rfl)
          obtain ⟨g, cg, cur, e1, -⟩ := own_form OW.out (by omega)
          injection e1 with e1 e2 e1'
          subst e1 e1'
          have cz : wj.cell? ⟨g, j, none⟩ = some (.int .i64 z) := own_cell (own_upd0 OW.out JU.out) j _ (by rw [List.getElem?_map, hz]; rfl)
          have p2 : (j : Int) < (k : Int) := by omega
          clear hz e2
          by_cases hb : z < a2
          · have d1 : decide (z < a2) = true := by simpa using hb
            have HZ : Hid (∀ i, i < j + 1 → out.getD i 0 < a2) := Lib.hid (fun i hi => by
              by_cases e : i = j
              · rw [e, HZD.out]; exact hb
              · exact HJ.out i (by omega))
            clear hb
            go_wp2_with fail
            go_roundw
            case rel => exact ⟨j + 1, by go_num, by omega, HZ, JU⟩
            case measure => simp [intOf]; omega
          · have d1 : decide (z < a2) = false := by simpa using hb
            have EQ : Hid (out' = out.take j ++ [a2] ++ out.drop j) := Lib.hid (by rw [HO'.out]; exact insS_at (by rw [OL.out]; exact hj) HJ.out (.inr (by rw [HZD.out]; exact hb)))
            go_wp2_with fail
            clear cz hb d1
            have W2 : Hid (Upd [] w wj) := Lib.hid (HK.out.2.trans JU.out)
            have F1 : Hid (∀ W, Upd [] wj.drew W → Src W 1 (.slice (some ⟨g, 0, none⟩) j cl) j ((out.take j).map (Value.int .i64))) := Lib.hid (fun W hW => by
              have hu : Upd [] wr W := JU.out.trans ((Upd.refl [] wj).drew.trans hW)
              have := (Src.of_own (own_upd0 OW.out hu)).take j hj cl
              rwa [Nat.mul_one, ← List.map_take] at this)
            obtain ⟨X, hX, hXo, hXs⟩ := cut_tail elem_int (some ⟨g, 0, none⟩) k cl j hj hnc
            have F2 : Hid (∀ W, Upd [] wj.drew W → Src W 1 X (k - j) ((out.drop j).map (Value.int .i64))) := Lib.hid (fun W hW => by
              have hu : Upd [] wr W := JU.out.trans ((Upd.refl [] wj).drew.trans hW)
              have := hXs _ _ (Src.of_own (own_upd0 OW.out hu))
              rwa [show (out.map (Value.int .i64)).drop (j * 1) = (out.drop j).map (Value.int .i64) by rw [Nat.mul_one, ← List.map_drop]] at this)
            clear hXo hXs
            have SZ : Hid (w.heap.size ≤ wj.heap.size) := Lib.hid W2.out.size
            refine wp_invN [(0, .own w.heap.size 3 1 0 []), (4, .own w.heap.size 3 1 j ((out.take j).map (Value.int .i64))), (6, .lit 3 #[.int .i64 a2] 1), (7, .own w.heap.size 3 1 (j + 1) ((out.take j).map (Value.int .i64) ++ [.int .i64 a2])), (11, .own w.heap.size 3 1 (k + 1) ((out.take j).map (Value.int .i64) ++ [.int .i64 a2] ++ (out.drop j).map (Value.int .i64)))] [(4, [0]), (7, [4]), (11, [7])] (by kernel_rfl) (by kernel_rfl) (by kernel_rfl) ⟨lasts_own _ _ _ _ _ (by simp [maxLen]), lasts_own _ _ _ _ _ (by unfold maxLen; omega), lasts_lit _ _ _, lasts_own _ _ _ _ _ (by unfold maxLen; omega), lasts_own _ _ _ _ _ (by unfold maxLen; omega), trivial⟩ ?_
            refine wpV_heavy (by simp only [lightOp]) (by rfl) (fun W hU hk hF K hK => ?_) ?_
            · go_wp2_with fail
              exact wpV_made hK rfl rfl rfl rfl (Nat.le_trans SZ.out hU.size)
            rintro _ ⟨B1, b1, rfl, _, _⟩
            simp only [Act.put, List.setIfInBounds_toArray, List.set_cons_zero, List.set_cons_succ]
            with_reducible apply wpV_light
            · simp only [lightOp]
            · intro W hU hF
              clear hU hF
              go_simp
              exact rfl
            simp only [Act.put, List.setIfInBounds_toArray, List.set_cons_zero, List.set_cons_succ]
            with_reducible apply wpV_light
            · simp only [lightOp]
            · intro W hU hF
              clear hU hF
              go_simp
              exact rfl
            simp only [Act.put, List.setIfInBounds_toArray, List.set_cons_zero, List.set_cons_succ]
            with_reducible apply wpV_light
            · simp only [lightOp]
            · intro W hU hF
              clear hU hF
              go_simp
              exact rfl
            simp only [Act.put, List.setIfInBounds_toArray, List.set_cons_zero, List.set_cons_succ]
            refine wpV_heavy (by simp only [lightOp]) (by rfl) (fun W hU hk hF K hK => ?_) ?_
            · exact wpV_app hK (.tmp 40) (.tmp 43) _ (by rfl) elem_int _ _ (by rfl) (by rfl) rfl rfl (by simp [usedV, mkI, conOf, specOf, Spec.own]) (hF.out.1 (by kernel_rfl)) (F1.out W hU) (by omega) (by simp) (by intro u hu; obtain ⟨x, _, rfl⟩ := List.mem_map.1 hu; rfl) (by unfold maxLen; omega) (by omega) (Nat.le_trans SZ.out hU.size)
            rintro _ ⟨B2, b2, rfl, _, _⟩
            simp only [Act.put, List.setIfInBounds_toArray, List.set_cons_zero, List.set_cons_succ]
            with_reducible apply wpV_light
            · simp only [lightOp]
            · intro W hU hF
              clear hU hF
              go_simp
              exact rfl
            simp only [Act.put, List.setIfInBounds_toArray, List.set_cons_zero, List.set_cons_succ]
            refine wpV_heavy (by simp only [lightOp]) (by rfl) (fun W hU hk hF K hK => ?_) ?_
            · go_wp2_with fail
              exact wpV_lit hK rfl rfl rfl
            rintro _ ⟨g3, rfl⟩
            simp only [Act.put, List.setIfInBounds_toArray, List.set_cons_zero, List.set_cons_succ]
            refine wpV_heavy (by simp only [lightOp]) (by rfl) (fun W hU hk hF K hK => ?_) ?_
            · obtain ⟨g', he, hbl⟩ := hF.out.2.2.1 (by kernel_rfl)
              injection he with he _ _
              injection he with he
              injection he with he
              subst he
              exact wpV_app hK (.tmp 44) (.tmp 46) _ (by rfl) elem_int _ _ (by rfl) (by rfl) rfl rfl (by simp [usedV, mkI, conOf, specOf, Spec.own]) (hF.out.2.1 (by kernel_rfl)) (.of_blk hbl (m := 1) 1 rfl) (by omega) (by simp) (by intro u hu; simp at hu; subst hu; rfl) (by unfold maxLen; omega) (by omega) (Nat.le_trans SZ.out hU.size)
            rintro _ ⟨B4, b4, rfl, _, _⟩
            simp only [Act.put, List.setIfInBounds_toArray, List.set_cons_zero, List.set_cons_succ]
            with_reducible apply wpV_light
            · simp only [lightOp]
            · intro W hU hF
              clear hU hF
              go_simp
              exact rfl
            simp only [Act.put, List.setIfInBounds_toArray, List.set_cons_zero, List.set_cons_succ]
            with_reducible apply wpV_light
            · simp only [lightOp]
            · intro W hU hF
              clear hU hF
              go_simp
              exact rfl
            simp only [Act.put, List.setIfInBounds_toArray, List.set_cons_zero, List.set_cons_succ]
            with_reducible apply wpV_light
            · simp only [lightOp]
            · intro W hU hF
              clear hU hF
              go_simp
              exact rfl
            simp only [Act.put, List.setIfInBounds_toArray, List.set_cons_zero, List.set_cons_succ]
            refine wpV_heavy (by simp only [lightOp]) (by rfl) (fun W hU hk hF K hK => ?_) ?_
            · exact wpV_app hK (.tmp 47) (.tmp 50) _ (by rfl) elem_int _ _ (by rfl) (by rfl) rfl rfl (by simp [usedV, mkI, conOf, specOf, Spec.own]) (hF.out.2.2.2.1 (by kernel_rfl)) (F2.out W hU) (by omega) (by simp) (by intro u hu; obtain ⟨x, _, rfl⟩ := List.mem_map.1 hu; rfl) (by unfold maxLen; omega) (by omega) (Nat.le_trans SZ.out hU.size)
            rintro _ ⟨B5, b5, rfl, _, _⟩
            simp only [Act.put, List.setIfInBounds_toArray, List.set_cons_zero, List.set_cons_succ]
            with_reducible apply wpV_light
            · simp only [lightOp]
            · intro W hU hF
              clear hU hF
              go_simp
              exact rfl
            simp only [Act.put, List.setIfInBounds_toArray, List.set_cons_zero, List.set_cons_succ]
            refine wpV_end (fun W hU _ hF => ?_)
            have O3 : Hid (OwI W w.heap.size (.slice B5 (k + 1) b5) (k + 1) out' ∧ Upd [] w W) := Lib.hid (by
              have := hF.out.2.2.2.2.1 (by kernel_rfl)
              exact ⟨by rw [EQ.out]; unfold OwI; rw [List.map_append, List.map_append]; exact this, W2.out.drew.trans hU⟩)
            clear hU hF
            refine wpT_end ?_
            go_wp2_with fail
            go_roundw
            case rel => exact ⟨k + 1, by go_num, by omega, Lib.hid (by rw [hout']; exact O3.out)⟩
            case measure => simp [intOf]; omega
        · obtain rfl : j = k := by omega
          have EQ : Hid (out' = out.take j ++ [a2] ++ out.drop j) := Lib.hid (by rw [HO'.out]; exact insS_at (by rw [OL.out]; exact hj) HJ.out (.inl OL.out.symm))
          go_wp2_with fail
          have W2 : Hid (Upd [] w wj) := Lib.hid (HK.out.2.trans JU.out)
          have F1 : Hid (∀ W, Upd [] wj.drew W → Src W 1 (.slice Al j cl) j ((out.take j).map (Value.int .i64))) := Lib.hid (fun W hW => by
            have hu : Upd [] wr W := JU.out.trans ((Upd.refl [] wj).drew.trans hW)
            have := (Src.of_own (own_upd0 OW.out hu)).take j hj cl
            rwa [Nat.mul_one, ← List.map_take] at this)
          obtain ⟨X, hX, hXo, hXs⟩ := cut_tail elem_int Al j cl j hj hnc
          have F2 : Hid (∀ W, Upd [] wj.drew W → Src W 1 X (j - j) ((out.drop j).map (Value.int .i64))) := Lib.hid (fun W hW => by
            have hu : Upd [] wr W := JU.out.trans ((Upd.refl [] wj).drew.trans hW)
            have := hXs _ _ (Src.of_own (own_upd0 OW.out hu))
            rwa [show (out.map (Value.int .i64)).drop (j * 1) = (out.drop j).map (Value.int .i64) by rw [Nat.mul_one, ← List.map_drop]] at this)
          clear hXo hXs
          have SZ : Hid (w.heap.size ≤ wj.heap.size) := Lib.hid W2.out.size
          refine wp_invN [(0, .own w.heap.size 3 1 0 []), (4, .own w.heap.size 3 1 j ((out.take j).map (Value.int .i64))), (6, .lit 3 #[.int .i64 a2] 1), (7, .own w.heap.size 3 1 (j + 1) ((out.take j).map (Value.int .i64) ++ [.int .i64 a2])), (11, .own w.heap.size 3 1 (j + 1) ((out.take j).map (Value.int .i64) ++ [.int .i64 a2] ++ (out.drop j).map (Value.int .i64)))] [(4, [0]), (7, [4]), (11, [7])] (by kernel_rfl) (by kernel_rfl) (by kernel_rfl) ⟨lasts_own _ _ _ _ _ (by simp [maxLen]), lasts_own _ _ _ _ _ (by unfold maxLen; omega), lasts_lit _ _ _, lasts_own _ _ _ _ _ (by unfold maxLen; omega), lasts_own _ _ _ _ _ (by unfold maxLen; omega), trivial⟩ ?_
          refine wpV_heavy (by simp only [lightOp]) (by rfl) (fun W hU hk hF K hK => ?_) ?_
          · go_wp2_with fail
            exact wpV_made hK rfl rfl rfl rfl (Nat.le_trans SZ.out hU.size)
          rintro _ ⟨B1, b1, rfl, _, _⟩
          simp only [Act.put, List.setIfInBounds_toArray, List.set_cons_zero, List.set_cons_succ]
          with_reducible apply wpV_light
          · simp only [lightOp]
          · intro W hU hF
            clear hU hF
            go_simp
            exact rfl
          simp only [Act.put, List.setIfInBounds_toArray, List.set_cons_zero, List.set_cons_succ]
          with_reducible apply wpV_light
          · simp only [lightOp]
          · intro W hU hF
            clear hU hF
            go_simp
            exact rfl
          simp only [Act.put, List.setIfInBounds_toArray, List.set_cons_zero, List.set_cons_succ]
          with_reducible apply wpV_light
          · simp only [lightOp]
          · intro W hU hF
            clear hU hF
            go_simp
            exact rfl
          simp only [Act.put, List.setIfInBounds_toArray, List.set_cons_zero, List.set_cons_succ]
          refine wpV_heavy (by simp only [lightOp]) (by rfl) (fun W hU hk hF K hK => ?_) ?_
          · exact wpV_app hK (.tmp 40) (.tmp 43) _ (by rfl) elem_int _ _ (by rfl) (by rfl) rfl rfl (by simp [usedV, mkI, conOf, specOf, Spec.own]) (hF.out.1 (by kernel_rfl)) (F1.out W hU) (by omega) (by simp) (by intro u hu; obtain ⟨x, _, rfl⟩ := List.mem_map.1 hu; rfl) (by unfold maxLen; omega) (by omega) (Nat.le_trans SZ.out hU.size)
          rintro _ ⟨B2, b2, rfl, _, _⟩
          simp only [Act.put, List.setIfInBounds_toArray, List.set_cons_zero, List.set_cons_succ]
          with_reducible apply wpV_light
          · simp only [lightOp]
          · intro W hU hF
            clear hU hF
            go_simp
            exact rfl
          simp only [Act.put, List.setIfInBounds_toArray, List.set_cons_zero, List.set_cons_succ]
          refine wpV_heavy (by simp only [lightOp]) (by rfl) (fun W hU hk hF K hK => ?_) ?_
          · go_wp2_with fail
            exact wpV_lit hK rfl rfl rfl
          rintro _ ⟨g3, rfl⟩
          simp only [Act.put, List.setIfInBounds_toArray, List.set_cons_zero, List.set_cons_succ]
          refine wpV_heavy (by simp only [lightOp]) (by rfl) (fun W hU hk hF K hK => ?_) ?_
          · obtain ⟨g', he, hbl⟩ := hF.out.2.2.1 (by kernel_rfl)
            injection he with he _ _
            injection he with he
            injection he with he
            subst he
            exact wpV_app hK (.tmp 44) (.tmp 46) _ (by rfl) elem_int _ _ (by rfl) (by rfl) rfl rfl (by simp [usedV, mkI, conOf, specOf, Spec.own]) (hF.out.2.1 (by kernel_rfl)) (.of_blk hbl (m := 1) 1 rfl) (by omega) (by simp) (by intro u hu; simp at hu; subst hu; rfl) (by unfold maxLen; omega) (by omega) (Nat.le_trans SZ.out hU.size)
          rintro _ ⟨B4, b4, rfl, _, _⟩
          simp only [Act.put, List.setIfInBounds_toArray, List.set_cons_zero, List.set_cons_succ]
          with_reducible apply wpV_light
          · simp only [lightOp]
          · intro W hU hF
            clear hU hF
            go_simp
            exact rfl
          simp only [Act.put, List.setIfInBounds_toArray, List.set_cons_zero, List.set_cons_succ]
          with_reducible apply wpV_light
          · simp only [lightOp]
          · intro W hU hF
            clear hU hF
            go_simp
            exact rfl
          simp only [Act.put, List.setIfInBounds_toArray, List.set_cons_zero, List.set_cons_succ]
          with_reducible apply wpV_light
          · simp only [lightOp]
          · intro W hU hF
            clear hU hF
            go_simp
            exact rfl
          simp only [Act.put, List.setIfInBounds_toArray, List.set_cons_zero, List.set_cons_succ]
          refine wpV_heavy (by simp only [lightOp]) (by rfl) (fun W hU hk hF K hK => ?_) ?_
          · exact wpV_app hK (.tmp 47) (.tmp 50) _ (by rfl) elem_int _ _ (by rfl) (by rfl) rfl rfl (by simp [usedV, mkI, conOf, specOf, Spec.own]) (hF.out.2.2.2.1 (by kernel_rfl)) (F2.out W hU) (by omega) (by simp) (by intro u hu; obtain ⟨x, _, rfl⟩ := List.mem_map.1 hu; rfl) (by unfold maxLen; omega) (by omega) (Nat.le_trans SZ.out hU.size)
          rintro _ ⟨B5, b5, rfl, _, _⟩
          simp only [Act.put, List.setIfInBounds_toArray, List.set_cons_zero, List.set_cons_succ]
          with_reducible apply wpV_light
          · simp only [lightOp]
          · intro W hU hF
            clear hU hF
            go_simp
            exact rfl
          simp only [Act.put, List.setIfInBounds_toArray, List.set_cons_zero, List.set_cons_succ]
          refine wpV_end (fun W hU _ hF => ?_)
          have O3 : Hid (OwI W w.heap.size (.slice B5 (j + 1) b5) (j + 1) out' ∧ Upd [] w W) := Lib.hid (by
            have := hF.out.2.2.2.2.1 (by kernel_rfl)
            exact ⟨by rw [EQ.out]; unfold OwI; rw [List.map_append, List.map_append]; exact this, W2.out.drew.trans hU⟩)
          clear hU hF
          refine wpT_end ?_
          go_wp2_with fail
          go_roundw
          case rel => exact ⟨j + 1, by go_num, by omega, Lib.hid (by rw [hout']; exact O3.out)⟩
          case measure => simp [intOf]; omega
    · obtain rfl : k = n := by omega
      have FT : Hid (L.take k = L) := Lib.hid (List.take_of_length_le (by rw [HN.out]; exact Nat.le_refl _))
      rw [FT.out, insL_tooks] at HK
      go_wp2_with fail
      go_ret
      exact ⟨_, rfl, HK.out.1, HK.out.2⟩
set_option maxRecDepth 100000 in
set_option maxHeartbeats 8000000 in
theorem rthreads_ok (A : Option Addr) (n c : Nat) (L : List En) (w : World) (h : Rd encE w (.slice A n c) L) (hn : L.length = n) (hl : n ≤ 200) :
    Calls Tryd.prog 31 #[.slice A n c] w fun e w' => ∃ v, e = .returned v ∧ OwI w' w.heap.size v (thr L).length (thr L) ∧ Upd [] w w' := by
  have H := Lib.hid h
  have HN := Lib.hid hn
  clear h hn
  go_enter Tryd.func31, Tryd.ntmps31
  go_wp2_with fail
  go_loopw [3, 4] (fun vl v wr => ∃ k : Nat, v = .int .i64 k ∧ k ≤ n ∧ Hid (OwI wr w.heap.size vl (thr (L.take k)).length (thr (L.take k)) ∧ Upd [] w wr)) (fun _ v _ => n - (intOf v).toNat)
  case atStart => exact ⟨0, rfl, by omega, Lib.hid ⟨own_nil _ _ _ _, .refl _ _⟩⟩
  case round =>
    obtain ⟨k, rfl, hk, HK⟩ := hrel
    obtain ⟨Al, cl, rfl, hnc, hcm⟩ := own_slice HK.out.1
    by_cases hkn : k < n
    · obtain ⟨x, hx⟩ : ∃ x, L[k]? = some x := ⟨_, List.getElem?_eq_getElem (by rw [HN.out]; exact hkn)⟩
      have HT := Lib.hid (take_snoc hx)
      obtain ⟨ad, rfl, hlt, -⟩ := en_cells (H.out.upd0 HK.out.2) hx
      have CE0 := Lib.hid (en_all (H.out.upd0 HK.out.2) hx)
      obtain ⟨a2, ix, st, wr', be, en, kd, er, ta, tn, tc⟩ := x
      obtain ⟨out, hout⟩ : ∃ out, thr (L.take k) = out := ⟨_, rfl⟩
      obtain ⟨out', hout'⟩ : ∃ out', thr (L.take (k + 1)) = out' := ⟨_, rfl⟩
      obtain ⟨N, hN⟩ : ∃ N, out.length = N := ⟨_, rfl⟩
      have OL : Hid (out.length = N) := Lib.hid hN
      have N200 : N ≤ 200 := by
        have h1 := thr_len (L.take k)
        have h2 : (L.take k).length ≤ L.length := List.length_take_le' _ _
        have h3 := HN.out
        rw [hout] at h1
        omega
      have HO' : Hid (out' = insU out a2) := Lib.hid (by rw [← hout', HT.out, thr_snoc, hout])
      rw [hout, hN] at HK hnc
      rw [hout, hN]
      have OW : Hid (OwI wr w.heap.size (.slice Al N cl) N out) := Lib.hid HK.out.1
      have q1 : (0 : Int) ≤ (k : Int) := by omega
      have q2 : (k : Int) < (n : Int) := by omega
      unfold maxLen at hcm
      have UW : Hid (Upd [] wr wr) := Lib.hid (.refl _ _)
      clear hx hout hN
      go_wp2_with fail
      go_loopw [5] (fun u wk => ∃ j : Nat, u = .int .i64 j ∧ j ≤ N ∧ Hid (∀ i, i < j → out.getD i 0 < a2) ∧ Hid (Upd [] wr wk)) (fun u _ => N - (intOf u).toNat)
      case atStart => exact ⟨0, rfl, by omega, Lib.hid (fun i hi => by omega), UW⟩
      case round =>
        obtain ⟨j, rfl, hj, HJ, JU⟩ := hrel
        rename World => wj
        have p1 : (0 : Int) ≤ (j : Int) := by omega
        have p3 : (j : Int) ≤ (cl : Int) := by omega
        have p4 : (N : Int) ≤ (cl : Int) := by omega
        have p5 : (j : Int) ≤ (N : Int) := by omega
        have CE : Hid (∀ W, Upd [] wj.drew W → W.cell? (ad.add (k * 9)) = some (.int .i64 a2)) := Lib.hid (fun W hW => by
          have := JU.out.trans ((Upd.refl [] wj).drew.trans hW)
          exact (CE0.out W ⟨this.os, this.tape, this.output, this.size, this.keep⟩).1)
        by_cases hjN : j < N
        · obtain ⟨z, hz⟩ : ∃ z, out[j]? = some z := ⟨_, List.getElem?_eq_getElem (by rw [OL.out]; exact hjN)⟩
          have HZD : Hid (out.getD j 0 = z) := Lib.hid (by rw [List.getD_eq_getElem?_getD, hz]; rfl)
          obtain ⟨g, cg, cur, e1, -⟩ := own_form OW.out (by omega)
          injection e1 with e1 e2 e1'
          subst e1 e1'
          have CZ : Hid (∀ W, Upd [] wj.drew W → W.cell? (ad.add (k * 9)) = some (.int .i64 a2) ∧ W.cell? ⟨g, j, none⟩ = some (.int .i64 z)) := Lib.hid (fun W hW => ⟨CE.out W hW, own_cell (own_upd0 OW.out (JU.out.trans ((Upd.refl [] wj).drew.trans hW))) j _ (by rw [List.getElem?_map, hz]; rfl)⟩)
          have p2 : (j : Int) < (N : Int) := by omega
          have CZJ : Hid ((out.map (Value.int .i64))[j]? = some (.int .i64 z)) := Lib.hid (by rw [List.getElem?_map, hz]; rfl)
          clear hz e2
          by_cases hb : z < a2
          · have d1 : decide (z < a2) = true := by simpa using hb
            have HZ : Hid (∀ i, i < j + 1 → out.getD i 0 < a2) := Lib.hid (fun i hi => by
              by_cases e : i = j
              · rw [e, HZD.out]; exact hb
              · exact HJ.out i (by omega))
            go_wp2_with fail
            refine wp_invN [] [] (by kernel_rfl) (by kernel_rfl) (by kernel_rfl) trivial ?_
            with_reducible apply wpV_light
            · simp only [lightOp]
            · intro W hU hF
              have f0 := CZ.out W hU
              clear hU hF
              go_simp
              exact rfl
            simp only [Act.put, List.setIfInBounds_toArray, List.set_cons_zero, List.set_cons_succ]
            with_reducible apply wpV_light
            · simp only [lightOp]
            · intro W hU hF
              have f0 := CZ.out W hU
              clear hU hF
              go_simp
              exact rfl
            simp only [Act.put, List.setIfInBounds_toArray, List.set_cons_zero, List.set_cons_succ]
            with_reducible apply wpV_light
            · simp only [lightOp]
            · intro W hU hF
              have f0 := CZ.out W hU
              clear hU hF
              go_simp
              exact rfl
            simp only [Act.put, List.setIfInBounds_toArray, List.set_cons_zero, List.set_cons_succ]
            with_reducible apply wpV_light
            · simp only [lightOp]
            · intro W hU hF
              have f0 := CZ.out W hU
              clear hU hF
              go_simp
              exact rfl
            simp only [Act.put, List.setIfInBounds_toArray, List.set_cons_zero, List.set_cons_succ]
            with_reducible apply wpV_light
            · simp only [lightOp]
            · intro W hU hF
              have f0 := CZ.out W hU
              clear hU hF
              go_simp
              exact rfl
            simp only [Act.put, List.setIfInBounds_toArray, List.set_cons_zero, List.set_cons_succ]
            with_reducible apply wpV_light
            · simp only [lightOp]
            · intro W hU hF
              have f0 := CZ.out W hU
              clear hU hF
              go_simp
              exact rfl
            simp only [Act.put, List.setIfInBounds_toArray, List.set_cons_zero, List.set_cons_succ]
            with_reducible apply wpV_light
            · simp only [lightOp]
            · intro W hU hF
              have f0 := CZ.out W hU
              clear hU hF
              go_simp
              exact rfl
            simp only [Act.put, List.setIfInBounds_toArray, List.set_cons_zero, List.set_cons_succ]
            with_reducible apply wpV_light
            · simp only [lightOp]
            · intro W hU hF
              have f0 := CZ.out W hU
              clear hU hF
              go_simp
              exact rfl
            simp only [Act.put, List.setIfInBounds_toArray, List.set_cons_zero, List.set_cons_succ]
            with_reducible apply wpV_light
            · simp only [lightOp]
            · intro W hU hF
              have f0 := CZ.out W hU
              clear hU hF
              go_simp
              exact rfl
            simp only [Act.put, List.setIfInBounds_toArray, List.set_cons_zero, List.set_cons_succ]
            with_reducible apply wpV_light
            · simp only [lightOp]
            · intro W hU hF
              have f0 := CZ.out W hU
              clear hU hF
              go_simp
              exact rfl
            simp only [Act.put, List.setIfInBounds_toArray, List.set_cons_zero, List.set_cons_succ]
            with_reducible apply wpV_light
            · simp only [lightOp]
            · intro W hU hF
              have f0 := CZ.out W hU
              clear hU hF
              go_simp
              exact rfl
            simp only [Act.put, List.setIfInBounds_toArray, List.set_cons_zero, List.set_cons_succ]
            with_reducible apply wpV_light
            · simp only [lightOp]
            · intro W hU hF
              have f0 := CZ.out W hU
              clear hU hF
              go_simp
              exact rfl
            simp only [Act.put, List.setIfInBounds_toArray, List.set_cons_zero, List.set_cons_succ]
            with_reducible apply wpV_light
            · simp only [lightOp]
            · intro W hU hF
              have f0 := CZ.out W hU
              clear hU hF
              go_simp
              exact rfl
            simp only [Act.put, List.setIfInBounds_toArray, List.set_cons_zero, List.set_cons_succ]
            with_reducible apply wpV_light
            · simp only [lightOp]
            · intro W hU hF
              have f0 := CZ.out W hU
              clear hU hF
              go_simp
              exact rfl
            simp only [Act.put, List.setIfInBounds_toArray, List.set_cons_zero, List.set_cons_succ]
            with_reducible apply wpV_light
            · simp only [lightOp]
            · intro W hU hF
              have f0 := CZ.out W hU
              clear hU hF
              go_simp
              exact rfl
            simp only [Act.put, List.setIfInBounds_toArray, List.set_cons_zero, List.set_cons_succ]
            with_reducible apply wpV_light
            · simp only [lightOp]
            · intro W hU hF
              have f0 := CZ.out W hU
              clear hU hF
              go_simp
              exact rfl
            simp only [Act.put, List.setIfInBounds_toArray, List.set_cons_zero, List.set_cons_succ]
            with_reducible apply wpV_light
            · simp only [lightOp]
            · intro W hU hF
              have f0 := CZ.out W hU
              clear hU hF
              go_simp
              exact rfl
            simp only [Act.put, List.setIfInBounds_toArray, List.set_cons_zero, List.set_cons_succ]


            refine wpV_end (fun wx hU _ hF => ?_)
            have UX : Hid (Upd [] wr wx) := Lib.hid (JU.out.trans ((Upd.refl [] _).drew.trans hU))
            clear hU hF
            refine wpT_end ?_
            go_wp2_with fail
            go_roundw
            case rel => exact ⟨j + 1, by go_num, by omega, HZ, UX⟩
            case measure => simp [intOf]; omega
          · have d1 : decide (z < a2) = false := by simpa using hb
            go_wp2_with fail
            refine wp_invN [] [] (by kernel_rfl) (by kernel_rfl) (by kernel_rfl) trivial ?_
            with_reducible apply wpV_light
            · simp only [lightOp]
            · intro W hU hF
              have f0 := CZ.out W hU
              clear hU hF
              go_simp
              exact rfl
            simp only [Act.put, List.setIfInBounds_toArray, List.set_cons_zero, List.set_cons_succ]
            with_reducible apply wpV_light
            · simp only [lightOp]
            · intro W hU hF
              have f0 := CZ.out W hU
              clear hU hF
              go_simp
              exact rfl
            simp only [Act.put, List.setIfInBounds_toArray, List.set_cons_zero, List.set_cons_succ]
            with_reducible apply wpV_light
            · simp only [lightOp]
            · intro W hU hF
              have f0 := CZ.out W hU
              clear hU hF
              go_simp
              exact rfl
            simp only [Act.put, List.setIfInBounds_toArray, List.set_cons_zero, List.set_cons_succ]
            with_reducible apply wpV_light
            · simp only [lightOp]
            · intro W hU hF
              have f0 := CZ.out W hU
              clear hU hF
              go_simp
              exact rfl
            simp only [Act.put, List.setIfInBounds_toArray, List.set_cons_zero, List.set_cons_succ]
            with_reducible apply wpV_light
            · simp only [lightOp]
            · intro W hU hF
              have f0 := CZ.out W hU
              clear hU hF
              go_simp
              exact rfl
            simp only [Act.put, List.setIfInBounds_toArray, List.set_cons_zero, List.set_cons_succ]
            with_reducible apply wpV_light
            · simp only [lightOp]
            · intro W hU hF
              have f0 := CZ.out W hU
              clear hU hF
              go_simp
              exact rfl
            simp only [Act.put, List.setIfInBounds_toArray, List.set_cons_zero, List.set_cons_succ]
            with_reducible apply wpV_light
            · simp only [lightOp]
            · intro W hU hF
              have f0 := CZ.out W hU
              clear hU hF
              go_simp
              exact rfl
            simp only [Act.put, List.setIfInBounds_toArray, List.set_cons_zero, List.set_cons_succ]
            with_reducible apply wpV_light
            · simp only [lightOp]
            · intro W hU hF
              have f0 := CZ.out W hU
              clear hU hF
              go_simp
              exact rfl
            simp only [Act.put, List.setIfInBounds_toArray, List.set_cons_zero, List.set_cons_succ]
            with_reducible apply wpV_light
            · simp only [lightOp]
            · intro W hU hF
              have f0 := CZ.out W hU
              clear hU hF
              go_simp
              exact rfl
            simp only [Act.put, List.setIfInBounds_toArray, List.set_cons_zero, List.set_cons_succ]
            with_reducible apply wpV_light
            · simp only [lightOp]
            · intro W hU hF
              have f0 := CZ.out W hU
              clear hU hF
              go_simp
              exact rfl
            simp only [Act.put, List.setIfInBounds_toArray, List.set_cons_zero, List.set_cons_succ]
            with_reducible apply wpV_light
            · simp only [lightOp]
            · intro W hU hF
              have f0 := CZ.out W hU
              clear hU hF
              go_simp
              exact rfl
            simp only [Act.put, List.setIfInBounds_toArray, List.set_cons_zero, List.set_cons_succ]
            with_reducible apply wpV_light
            · simp only [lightOp]
            · intro W hU hF
              have f0 := CZ.out W hU
              clear hU hF
              go_simp
              exact rfl
            simp only [Act.put, List.setIfInBounds_toArray, List.set_cons_zero, List.set_cons_succ]
            with_reducible apply wpV_light
            · simp only [lightOp]
            · intro W hU hF
              have f0 := CZ.out W hU
              clear hU hF
              go_simp
              exact rfl
            simp only [Act.put, List.setIfInBounds_toArray, List.set_cons_zero, List.set_cons_succ]
            with_reducible apply wpV_light
            · simp only [lightOp]
            · intro W hU hF
              have f0 := CZ.out W hU
              clear hU hF
              go_simp
              exact rfl
            simp only [Act.put, List.setIfInBounds_toArray, List.set_cons_zero, List.set_cons_succ]
            with_reducible apply wpV_light
            · simp only [lightOp]
            · intro W hU hF
              have f0 := CZ.out W hU
              clear hU hF
              go_simp
              exact rfl
            simp only [Act.put, List.setIfInBounds_toArray, List.set_cons_zero, List.set_cons_succ]
            with_reducible apply wpV_light
            · simp only [lightOp]
            · intro W hU hF
              have f0 := CZ.out W hU
              clear hU hF
              go_simp
              exact rfl
            simp only [Act.put, List.setIfInBounds_toArray, List.set_cons_zero, List.set_cons_succ]
            with_reducible apply wpV_light
            · simp only [lightOp]
            · intro W hU hF
              have f0 := CZ.out W hU
              clear hU hF
              go_simp
              exact rfl
            simp only [Act.put, List.setIfInBounds_toArray, List.set_cons_zero, List.set_cons_succ]


            refine wpV_end (fun wx hU _ hF => ?_)
            have UX : Hid (Upd [] wr wx) := Lib.hid (JU.out.trans ((Upd.refl [] _).drew.trans hU))
            clear hU hF
            refine wpT_end ?_
            go_wp2_with fail
            have CY : Hid (∀ W, Upd [] wx.drew W → W.cell? (ad.add (k * 9)) = some (.int .i64 a2) ∧ W.cell? ⟨g, j, none⟩ = some (.int .i64 z)) := Lib.hid (fun W hW => by
              have := UX.out.trans ((Upd.refl [] wx).drew.trans hW)
              exact ⟨(CE0.out W ⟨this.os, this.tape, this.output, this.size, this.keep⟩).1, own_cell (own_upd0 OW.out this) j _ (CZJ.out)⟩)
            have z1 : ((j : Int) == (N : Int)) = false := by
              have : ¬ (j : Int) = (N : Int) := by omega
              simpa using this
            by_cases hz2 : z = a2
            · have d2 : (z != a2) = false := by simpa using hz2
              have EQ : Hid (out' = out) := Lib.hid (by rw [HO'.out]; exact insU_in (by rw [OL.out]; exact hjN) HJ.out (by rw [HZD.out]; exact hz2))
              clear hb hz2
              refine wp_invN [] [] (by kernel_rfl) (by kernel_rfl) (by kernel_rfl) trivial ?_
              with_reducible apply wpV_light
              · simp only [lightOp]
              · intro W hU hF
                have f0 := CY.out W hU
                clear hU hF
                go_simp
                exact rfl
              simp only [Act.put, List.setIfInBounds_toArray, List.set_cons_zero, List.set_cons_succ]
              with_reducible apply wpV_light
              · simp only [lightOp]
              · intro W hU hF
                have f0 := CY.out W hU
                clear hU hF
                go_simp
                exact rfl
              simp only [Act.put, List.setIfInBounds_toArray, List.set_cons_zero, List.set_cons_succ]
              with_reducible apply wpV_light
              · simp only [lightOp]
              · intro W hU hF
                have f0 := CY.out W hU
                clear hU hF
                go_simp
                exact rfl
              simp only [Act.put, List.setIfInBounds_toArray, List.set_cons_zero, List.set_cons_succ]
              with_reducible apply wpV_light
              · simp only [lightOp]
              · intro W hU hF
                have f0 := CY.out W hU
                clear hU hF
                go_simp
                exact rfl
              simp only [Act.put, List.setIfInBounds_toArray, List.set_cons_zero, List.set_cons_succ]
              with_reducible apply wpV_light
              · simp only [lightOp]
              · intro W hU hF
                have f0 := CY.out W hU
                clear hU hF
                go_simp
                exact rfl
              simp only [Act.put, List.setIfInBounds_toArray, List.set_cons_zero, List.set_cons_succ]
              with_reducible apply wpV_light
              · simp only [lightOp]
              · intro W hU hF
                have f0 := CY.out W hU
                clear hU hF
                go_simp
                exact rfl
              simp only [Act.put, List.setIfInBounds_toArray, List.set_cons_zero, List.set_cons_succ]
              with_reducible apply wpV_light
              · simp only [lightOp]
              · intro W hU hF
                have f0 := CY.out W hU
                clear hU hF
                go_simp
                exact rfl
              simp only [Act.put, List.setIfInBounds_toArray, List.set_cons_zero, List.set_cons_succ]
              with_reducible apply wpV_light
              · simp only [lightOp]
              · intro W hU hF
                have f0 := CY.out W hU
                clear hU hF
                go_simp
                exact rfl
              simp only [Act.put, List.setIfInBounds_toArray, List.set_cons_zero, List.set_cons_succ]
              with_reducible apply wpV_light
              · simp only [lightOp]
              · intro W hU hF
                have f0 := CY.out W hU
                clear hU hF
                go_simp
                exact rfl
              simp only [Act.put, List.setIfInBounds_toArray, List.set_cons_zero, List.set_cons_succ]
              with_reducible apply wpV_light
              · simp only [lightOp]
              · intro W hU hF
                have f0 := CY.out W hU
                clear hU hF
                go_simp
                exact rfl
              simp only [Act.put, List.setIfInBounds_toArray, List.set_cons_zero, List.set_cons_succ]
              with_reducible apply wpV_light
              · simp only [lightOp]
              · intro W hU hF
                have f0 := CY.out W hU
                clear hU hF
                go_simp
                exact rfl
              simp only [Act.put, List.setIfInBounds_toArray, List.set_cons_zero, List.set_cons_succ]
              with_reducible apply wpV_light
              · simp only [lightOp]
              · intro W hU hF
                have f0 := CY.out W hU
                clear hU hF
                go_simp
                exact rfl
              simp only [Act.put, List.setIfInBounds_toArray, List.set_cons_zero, List.set_cons_succ]
              with_reducible apply wpV_light
              · simp only [lightOp]
              · intro W hU hF
                have f0 := CY.out W hU
                clear hU hF
                go_simp
                exact rfl
              simp only [Act.put, List.setIfInBounds_toArray, List.set_cons_zero, List.set_cons_succ]
              with_reducible apply wpV_light
              · simp only [lightOp]
              · intro W hU hF
                have f0 := CY.out W hU
                clear hU hF
                go_simp
                exact rfl
              simp only [Act.put, List.setIfInBounds_toArray, List.set_cons_zero, List.set_cons_succ]
              with_reducible apply wpV_light
              · simp only [lightOp]
              · intro W hU hF
                have f0 := CY.out W hU
                clear hU hF
                go_simp
                exact rfl
              simp only [Act.put, List.setIfInBounds_toArray, List.set_cons_zero, List.set_cons_succ]
              with_reducible apply wpV_light
              · simp only [lightOp]
              · intro W hU hF
                have f0 := CY.out W hU
                clear hU hF
                go_simp
                exact rfl
              simp only [Act.put, List.setIfInBounds_toArray, List.set_cons_zero, List.set_cons_succ]
              with_reducible apply wpV_light
              · simp only [lightOp]
              · intro W hU hF
                have f0 := CY.out W hU
                clear hU hF
                go_simp
                exact rfl
              simp only [Act.put, List.setIfInBounds_toArray, List.set_cons_zero, List.set_cons_succ]


              refine wpV_end (fun wy hU _ hF => ?_)
              have UY : Hid (Upd [] wr wy) := Lib.hid (UX.out.trans ((Upd.refl [] _).drew.trans hU))
              clear hU hF
              refine wpT_end ?_
              go_wp2_with fail
              go_roundw
              case rel => exact ⟨k + 1, by go_num, by omega, Lib.hid ⟨by rw [hout', EQ.out, OL.out]; exact own_upd0 OW.out UY.out, HK.out.2.trans UY.out⟩⟩
              case measure => simp [intOf]; omega
            · have d2 : (z != a2) = true := by simpa using hz2
              have EQ : Hid (out' = out.take j ++ [a2] ++ out.drop j) := Lib.hid (by rw [HO'.out]; exact insU_at (by rw [OL.out]; exact hj) HJ.out (.inr (by rw [HZD.out]; omega)))
              clear hb hz2 d1
              refine wp_invN [] [] (by kernel_rfl) (by kernel_rfl) (by kernel_rfl) trivial ?_
              with_reducible apply wpV_light
              · simp only [lightOp]
              · intro W hU hF
                have f0 := CY.out W hU
                clear hU hF
                go_simp
                exact rfl
              simp only [Act.put, List.setIfInBounds_toArray, List.set_cons_zero, List.set_cons_succ]
              with_reducible apply wpV_light
              · simp only [lightOp]
              · intro W hU hF
                have f0 := CY.out W hU
                clear hU hF
                go_simp
                exact rfl
              simp only [Act.put, List.setIfInBounds_toArray, List.set_cons_zero, List.set_cons_succ]
              with_reducible apply wpV_light
              · simp only [lightOp]
              · intro W hU hF
                have f0 := CY.out W hU
                clear hU hF
                go_simp
                exact rfl
              simp only [Act.put, List.setIfInBounds_toArray, List.set_cons_zero, List.set_cons_succ]
              with_reducible apply wpV_light
              · simp only [lightOp]
              · intro W hU hF
                have f0 := CY.out W hU
                clear hU hF
                go_simp
                exact rfl
              simp only [Act.put, List.setIfInBounds_toArray, List.set_cons_zero, List.set_cons_succ]
              with_reducible apply wpV_light
              · simp only [lightOp]
              · intro W hU hF
                have f0 := CY.out W hU
                clear hU hF
                go_simp
                exact rfl
              simp only [Act.put, List.setIfInBounds_toArray, List.set_cons_zero, List.set_cons_succ]
              with_reducible apply wpV_light
              · simp only [lightOp]
              · intro W hU hF
                have f0 := CY.out W hU
                clear hU hF
                go_simp
                exact rfl
              simp only [Act.put, List.setIfInBounds_toArray, List.set_cons_zero, List.set_cons_succ]
              with_reducible apply wpV_light
              · simp only [lightOp]
              · intro W hU hF
                have f0 := CY.out W hU
                clear hU hF
                go_simp
                exact rfl
              simp only [Act.put, List.setIfInBounds_toArray, List.set_cons_zero, List.set_cons_succ]
              with_reducible apply wpV_light
              · simp only [lightOp]
              · intro W hU hF
                have f0 := CY.out W hU
                clear hU hF
                go_simp
                exact rfl
              simp only [Act.put, List.setIfInBounds_toArray, List.set_cons_zero, List.set_cons_succ]
              with_reducible apply wpV_light
              · simp only [lightOp]
              · intro W hU hF
                have f0 := CY.out W hU
                clear hU hF
                go_simp
                exact rfl
              simp only [Act.put, List.setIfInBounds_toArray, List.set_cons_zero, List.set_cons_succ]
              with_reducible apply wpV_light
              · simp only [lightOp]
              · intro W hU hF
                have f0 := CY.out W hU
                clear hU hF
                go_simp
                exact rfl
              simp only [Act.put, List.setIfInBounds_toArray, List.set_cons_zero, List.set_cons_succ]
              with_reducible apply wpV_light
              · simp only [lightOp]
              · intro W hU hF
                have f0 := CY.out W hU
                clear hU hF
                go_simp
                exact rfl
              simp only [Act.put, List.setIfInBounds_toArray, List.set_cons_zero, List.set_cons_succ]
              with_reducible apply wpV_light
              · simp only [lightOp]
              · intro W hU hF
                have f0 := CY.out W hU
                clear hU hF
                go_simp
                exact rfl
              simp only [Act.put, List.setIfInBounds_toArray, List.set_cons_zero, List.set_cons_succ]
              with_reducible apply wpV_light
              · simp only [lightOp]
              · intro W hU hF
                have f0 := CY.out W hU
                clear hU hF
                go_simp
                exact rfl
              simp only [Act.put, List.setIfInBounds_toArray, List.set_cons_zero, List.set_cons_succ]
              with_reducible apply wpV_light
              · simp only [lightOp]
              · intro W hU hF
                have f0 := CY.out W hU
                clear hU hF
                go_simp
                exact rfl
              simp only [Act.put, List.setIfInBounds_toArray, List.set_cons_zero, List.set_cons_succ]
              with_reducible apply wpV_light
              · simp only [lightOp]
              · intro W hU hF
                have f0 := CY.out W hU
                clear hU hF
                go_simp
                exact rfl
              simp only [Act.put, List.setIfInBounds_toArray, List.set_cons_zero, List.set_cons_succ]
              with_reducible apply wpV_light
              · simp only [lightOp]
              · intro W hU hF
                have f0 := CY.out W hU
                clear hU hF
                go_simp
                exact rfl
              simp only [Act.put, List.setIfInBounds_toArray, List.set_cons_zero, List.set_cons_succ]
              with_reducible apply wpV_light
              · simp only [lightOp]
              · intro W hU hF
                have f0 := CY.out W hU
                clear hU hF
                go_simp
                exact rfl
              simp only [Act.put, List.setIfInBounds_toArray, List.set_cons_zero, List.set_cons_succ]


              refine wpV_end (fun wy hU _ hF => ?_)
              have UY : Hid (Upd [] wr wy) := Lib.hid (UX.out.trans ((Upd.refl [] _).drew.trans hU))
              clear hU hF
              refine wpT_end ?_
              go_wp2_with fail
              have CW : Hid (∀ W, Upd [] wy.drew W → W.cell? (ad.add (k * 9)) = some (.int .i64 a2)) := Lib.hid (fun W hW => by
                have := UY.out.trans ((Upd.refl [] wy).drew.trans hW)
                exact (CE0.out W ⟨this.os, this.tape, this.output, this.size, this.keep⟩).1)
              have EQL : Hid (out'.length = N + 1) := Lib.hid (by rw [EQ.out]; simp [OL.out]; omega)
              have W2 : Hid (Upd [] w wy) := Lib.hid (HK.out.2.trans UY.out)
              have F1 : Hid (∀ W, Upd [] wy.drew W → Src W 1 (.slice (some ⟨g, 0, none⟩) j cl) j ((out.take j).map (Value.int .i64))) := Lib.hid (fun W hW => by
                have hu : Upd [] wr W := UY.out.trans ((Upd.refl [] wy).drew.trans hW)
                have := (Src.of_own (own_upd0 OW.out hu)).take j hj cl
                rwa [Nat.mul_one, ← List.map_take] at this)
              obtain ⟨X, hX, hXo, hXs⟩ := cut_tail elem_int (some ⟨g, 0, none⟩) N cl j hj hnc
              have F2 : Hid (∀ W, Upd [] wy.drew W → Src W 1 X (N - j) ((out.drop j).map (Value.int .i64))) := Lib.hid (fun W hW => by
                have hu : Upd [] wr W := UY.out.trans ((Upd.refl [] wy).drew.trans hW)
                have := hXs _ _ (Src.of_own (own_upd0 OW.out hu))
                rwa [show (out.map (Value.int .i64)).drop (j * 1) = (out.drop j).map (Value.int .i64) by rw [Nat.mul_one, ← List.map_drop]] at this)
              clear hXo hXs
              have SZ : Hid (w.heap.size ≤ wy.heap.size) := Lib.hid W2.out.size
              refine wp_invN [(0, .own w.heap.size 3 1 0 []), (4, .own w.heap.size 3 1 j ((out.take j).map (Value.int .i64))), (11, .lit 3 #[.int .i64 a2] 1), (12, .own w.heap.size 3 1 (j + 1) ((out.take j).map (Value.int .i64) ++ [.int .i64 a2])), (16, .own w.heap.size 3 1 (N + 1) ((out.take j).map (Value.int .i64) ++ [.int .i64 a2] ++ (out.drop j).map (Value.int .i64)))] [(4, [0]), (12, [4]), (16, [12])] (by kernel_rfl) (by kernel_rfl) (by kernel_rfl) ⟨lasts_own _ _ _ _ _ (by simp [maxLen]), lasts_own _ _ _ _ _ (by unfold maxLen; omega), lasts_lit _ _ _, lasts_own _ _ _ _ _ (by unfold maxLen; omega), lasts_own _ _ _ _ _ (by unfold maxLen; omega), trivial⟩ ?_
              refine wpV_heavy (by simp only [lightOp]) (by rfl) (fun W hU hk hF K hK => ?_) ?_
              · go_wp2_with fail
                exact wpV_made hK rfl rfl rfl rfl (Nat.le_trans SZ.out hU.size)
              rintro _ ⟨B1, b1, rfl, _, _⟩
              simp only [Act.put, List.setIfInBounds_toArray, List.set_cons_zero, List.set_cons_succ]
              with_reducible apply wpV_light
              · simp only [lightOp]
              · intro W hU hF
                have f0 := CW.out W hU
                clear hU hF
                go_simp
                exact rfl
              simp only [Act.put, List.setIfInBounds_toArray, List.set_cons_zero, List.set_cons_succ]
              with_reducible apply wpV_light
              · simp only [lightOp]
              · intro W hU hF
                have f0 := CW.out W hU
                clear hU hF
                go_simp
                exact rfl
              simp only [Act.put, List.setIfInBounds_toArray, List.set_cons_zero, List.set_cons_succ]
              with_reducible apply wpV_light
              · simp only [lightOp]
              · intro W hU hF
                have f0 := CW.out W hU
                clear hU hF
                go_simp
                exact rfl
              simp only [Act.put, List.setIfInBounds_toArray, List.set_cons_zero, List.set_cons_succ]
              refine wpV_heavy (by simp only [lightOp]) (by rfl) (fun W hU hk hF K hK => ?_) ?_
              · exact wpV_app hK (.tmp 48) (.tmp 51) _ (by rfl) elem_int _ _ (by rfl) (by rfl) rfl rfl (by simp [usedV, mkI, conOf, specOf, Spec.own]) (hF.out.1 (by kernel_rfl)) (F1.out W hU) (by omega) (by simp) (by intro u hu; obtain ⟨x, _, rfl⟩ := List.mem_map.1 hu; rfl) (by unfold maxLen; omega) (by omega) (Nat.le_trans SZ.out hU.size)
              rintro _ ⟨B2, b2, rfl, _, _⟩
              simp only [Act.put, List.setIfInBounds_toArray, List.set_cons_zero, List.set_cons_succ]
              with_reducible apply wpV_light
              · simp only [lightOp]
              · intro W hU hF
                have f0 := CW.out W hU
                clear hU hF
                go_simp
                exact rfl
              simp only [Act.put, List.setIfInBounds_toArray, List.set_cons_zero, List.set_cons_succ]
              with_reducible apply wpV_light
              · simp only [lightOp]
              · intro W hU hF
                have f0 := CW.out W hU
                clear hU hF
                go_simp
                exact rfl
              simp only [Act.put, List.setIfInBounds_toArray, List.set_cons_zero, List.set_cons_succ]
              with_reducible apply wpV_light
              · simp only [lightOp]
              · intro W hU hF
                have f0 := CW.out W hU
                clear hU hF
                go_simp
                exact rfl
              simp only [Act.put, List.setIfInBounds_toArray, List.set_cons_zero, List.set_cons_succ]
              with_reducible apply wpV_light
              · simp only [lightOp]
              · intro W hU hF
                have f0 := CW.out W hU
                clear hU hF
                go_simp
                exact rfl
              simp only [Act.put, List.setIfInBounds_toArray, List.set_cons_zero, List.set_cons_succ]
              with_reducible apply wpV_light
              · simp only [lightOp]
              · intro W hU hF
                have f0 := CW.out W hU
                clear hU hF
                go_simp
                exact rfl
              simp only [Act.put, List.setIfInBounds_toArray, List.set_cons_zero, List.set_cons_succ]
              with_reducible apply wpV_light
              · simp only [lightOp]
              · intro W hU hF
                have f0 := CW.out W hU
                clear hU hF
                go_simp
                exact rfl
              simp only [Act.put, List.setIfInBounds_toArray, List.set_cons_zero, List.set_cons_succ]
              refine wpV_heavy (by simp only [lightOp]) (by rfl) (fun W hU hk hF K hK => ?_) ?_
              · go_wp2_with fail
                exact wpV_lit hK rfl rfl rfl
              rintro _ ⟨g3, rfl⟩
              simp only [Act.put, List.setIfInBounds_toArray, List.set_cons_zero, List.set_cons_succ]
              refine wpV_heavy (by simp only [lightOp]) (by rfl) (fun W hU hk hF K hK => ?_) ?_
              · obtain ⟨g', he, hbl⟩ := hF.out.2.2.1 (by kernel_rfl)
                injection he with he _ _
                injection he with he
                injection he with he
                subst he
                exact wpV_app hK (.tmp 52) (.tmp 59) _ (by rfl) elem_int _ _ (by rfl) (by rfl) rfl rfl (by simp [usedV, mkI, conOf, specOf, Spec.own]) (hF.out.2.1 (by kernel_rfl)) (.of_blk hbl (m := 1) 1 rfl) (by omega) (by simp) (by intro u hu; simp at hu; subst hu; rfl) (by unfold maxLen; omega) (by omega) (Nat.le_trans SZ.out hU.size)
              rintro _ ⟨B4, b4, rfl, _, _⟩
              simp only [Act.put, List.setIfInBounds_toArray, List.set_cons_zero, List.set_cons_succ]
              with_reducible apply wpV_light
              · simp only [lightOp]
              · intro W hU hF
                have f0 := CW.out W hU
                clear hU hF
                go_simp
                exact rfl
              simp only [Act.put, List.setIfInBounds_toArray, List.set_cons_zero, List.set_cons_succ]
              with_reducible apply wpV_light
              · simp only [lightOp]
              · intro W hU hF
                have f0 := CW.out W hU
                clear hU hF
                go_simp
                exact rfl
              simp only [Act.put, List.setIfInBounds_toArray, List.set_cons_zero, List.set_cons_succ]
              with_reducible apply wpV_light
              · simp only [lightOp]
              · intro W hU hF
                have f0 := CW.out W hU
                clear hU hF
                go_simp
                exact rfl
              simp only [Act.put, List.setIfInBounds_toArray, List.set_cons_zero, List.set_cons_succ]
              refine wpV_heavy (by simp only [lightOp]) (by rfl) (fun W hU hk hF K hK => ?_) ?_
              · exact wpV_app hK (.tmp 60) (.tmp 63) _ (by rfl) elem_int _ _ (by rfl) (by rfl) rfl rfl (by simp [usedV, mkI, conOf, specOf, Spec.own]) (hF.out.2.2.2.1 (by kernel_rfl)) (F2.out W hU) (by omega) (by simp) (by intro u hu; obtain ⟨x, _, rfl⟩ := List.mem_map.1 hu; rfl) (by unfold maxLen; omega) (by omega) (Nat.le_trans SZ.out hU.size)
              rintro _ ⟨B5, b5, rfl, _, _⟩
              simp only [Act.put, List.setIfInBounds_toArray, List.set_cons_zero, List.set_cons_succ]
              with_reducible apply wpV_light
              · simp only [lightOp]
              · intro W hU hF
                have f0 := CW.out W hU
                clear hU hF
                go_simp
                exact rfl
              simp only [Act.put, List.setIfInBounds_toArray, List.set_cons_zero, List.set_cons_succ]
              refine wpV_end (fun W hU _ hF => ?_)
              have O3 : Hid (OwI W w.heap.size (.slice B5 (N + 1) b5) (N + 1) out' ∧ Upd [] w W) := Lib.hid (by
                have := hF.out.2.2.2.2.1 (by kernel_rfl)
                exact ⟨by rw [EQ.out]; unfold OwI; rw [List.map_append, List.map_append]; exact this, W2.out.drew.trans hU⟩)
              clear hU hF
              refine wpT_end ?_
              go_wp2_with fail
              go_roundw
              case rel => exact ⟨k + 1, by go_num, by omega, Lib.hid (by rw [hout', EQL.out]; exact O3.out)⟩
              case measure => simp [intOf]; omega
        · obtain rfl : j = N := by omega
          have EQ : Hid (out' = out.take j ++ [a2] ++ out.drop j) := Lib.hid (by rw [HO'.out]; exact insU_at (by rw [OL.out]; exact hj) HJ.out (.inl OL.out.symm))
          go_wp2_with fail
          refine wp_invN [] [] (by kernel_rfl) (by kernel_rfl) (by kernel_rfl) trivial ?_
          with_reducible apply wpV_light
          · simp only [lightOp]
          · intro W hU hF
            have f0 := CE.out W hU
            clear hU hF
            go_simp
            exact rfl
          simp only [Act.put, List.setIfInBounds_toArray, List.set_cons_zero, List.set_cons_succ]
          with_reducible apply wpV_light
          · simp only [lightOp]
          · intro W hU hF
            have f0 := CE.out W hU
            clear hU hF
            go_simp
            exact rfl
          simp only [Act.put, List.setIfInBounds_toArray, List.set_cons_zero, List.set_cons_succ]
          with_reducible apply wpV_light
          · simp only [lightOp]
          · intro W hU hF
            have f0 := CE.out W hU
            clear hU hF
            go_simp
            exact rfl
          simp only [Act.put, List.setIfInBounds_toArray, List.set_cons_zero, List.set_cons_succ]
          with_reducible apply wpV_light
          · simp only [lightOp]
          · intro W hU hF
            have f0 := CE.out W hU
            clear hU hF
            go_simp
            exact rfl
          simp only [Act.put, List.setIfInBounds_toArray, List.set_cons_zero, List.set_cons_succ]
          with_reducible apply wpV_light
          · simp only [lightOp]
          · intro W hU hF
            have f0 := CE.out W hU
            clear hU hF
            go_simp
            exact rfl
          simp only [Act.put, List.setIfInBounds_toArray, List.set_cons_zero, List.set_cons_succ]
          refine wpV_skip (by rfl) (by simp only [lightOp]) ?_
          simp only [Act.put, List.setIfInBounds_toArray, List.set_cons_zero, List.set_cons_succ]
          refine wpV_skip (by rfl) (by simp only [lightOp]) ?_
          simp only [Act.put, List.setIfInBounds_toArray, List.set_cons_zero, List.set_cons_succ]
          refine wpV_skip (by rfl) (by simp only [lightOp]) ?_
          simp only [Act.put, List.setIfInBounds_toArray, List.set_cons_zero, List.set_cons_succ]
          refine wpV_skip (by rfl) (by simp only [lightOp]) ?_
          simp only [Act.put, List.setIfInBounds_toArray, List.set_cons_zero, List.set_cons_succ]
          refine wpV_skip (by rfl) (by simp only [lightOp]) ?_
          simp only [Act.put, List.setIfInBounds_toArray, List.set_cons_zero, List.set_cons_succ]
          refine wpV_skip (by rfl) (by simp only [lightOp]) ?_
          simp only [Act.put, List.setIfInBounds_toArray, List.set_cons_zero, List.set_cons_succ]
          refine wpV_skip (by rfl) (by simp only [lightOp]) ?_
          simp only [Act.put, List.setIfInBounds_toArray, List.set_cons_zero, List.set_cons_succ]
          refine wpV_skip (by rfl) (by simp only [lightOp]) ?_
          simp only [Act.put, List.setIfInBounds_toArray, List.set_cons_zero, List.set_cons_succ]
          refine wpV_skip (by rfl) (by simp only [lightOp]) ?_
          simp only [Act.put, List.setIfInBounds_toArray, List.set_cons_zero, List.set_cons_succ]
          refine wpV_skip (by rfl) (by simp only [lightOp]) ?_
          simp only [Act.put, List.setIfInBounds_toArray, List.set_cons_zero, List.set_cons_succ]
          refine wpV_skip (by rfl) (by simp only [lightOp]) ?_
          simp only [Act.put, List.setIfInBounds_toArray, List.set_cons_zero, List.set_cons_succ]
          with_reducible apply wpV_light
          · simp only [lightOp]
          · intro W hU hF
            have f0 := CE.out W hU
            clear hU hF
            go_simp
            exact rfl
          simp only [Act.put, List.setIfInBounds_toArray, List.set_cons_zero, List.set_cons_succ]
          refine wpV_end (fun wx hU _ hF => ?_)
          have UX : Hid (Upd [] wr wx) := Lib.hid (JU.out.trans ((Upd.refl [] _).drew.trans hU))
          clear hU hF
          refine wpT_end ?_
          go_wp2_with fail
          have CY : Hid (∀ W, Upd [] wx.drew W → W.cell? (ad.add (k * 9)) = some (.int .i64 a2)) := Lib.hid (fun W hW => by
            have := UX.out.trans ((Upd.refl [] wx).drew.trans hW)
            exact (CE0.out W ⟨this.os, this.tape, this.output, this.size, this.keep⟩).1)
          refine wp_invN [] [] (by kernel_rfl) (by kernel_rfl) (by kernel_rfl) trivial ?_
          with_reducible apply wpV_light
          · simp only [lightOp]
          · intro W hU hF
            have f0 := CY.out W hU
            clear hU hF
            go_simp
            exact rfl
          simp only [Act.put, List.setIfInBounds_toArray, List.set_cons_zero, List.set_cons_succ]
          with_reducible apply wpV_light
          · simp only [lightOp]
          · intro W hU hF
            have f0 := CY.out W hU
            clear hU hF
            go_simp
            exact rfl
          simp only [Act.put, List.setIfInBounds_toArray, List.set_cons_zero, List.set_cons_succ]
          with_reducible apply wpV_light
          · simp only [lightOp]
          · intro W hU hF
            have f0 := CY.out W hU
            clear hU hF
            go_simp
            exact rfl
          simp only [Act.put, List.setIfInBounds_toArray, List.set_cons_zero, List.set_cons_succ]
          with_reducible apply wpV_light
          · simp only [lightOp]
          · intro W hU hF
            have f0 := CY.out W hU
            clear hU hF
            go_simp
            exact rfl
          simp only [Act.put, List.setIfInBounds_toArray, List.set_cons_zero, List.set_cons_succ]
          with_reducible apply wpV_light
          · simp only [lightOp]
          · intro W hU hF
            have f0 := CY.out W hU
            clear hU hF
            go_simp
            exact rfl
          simp only [Act.put, List.setIfInBounds_toArray, List.set_cons_zero, List.set_cons_succ]
          refine wpV_skip (by rfl) (by simp only [lightOp]) ?_
          simp only [Act.put, List.setIfInBounds_toArray, List.set_cons_zero, List.set_cons_succ]
          refine wpV_skip (by rfl) (by simp only [lightOp]) ?_
          simp only [Act.put, List.setIfInBounds_toArray, List.set_cons_zero, List.set_cons_succ]
          refine wpV_skip (by rfl) (by simp only [lightOp]) ?_
          simp only [Act.put, List.setIfInBounds_toArray, List.set_cons_zero, List.set_cons_succ]
          refine wpV_skip (by rfl) (by simp only [lightOp]) ?_
          simp only [Act.put, List.setIfInBounds_toArray, List.set_cons_zero, List.set_cons_succ]
          refine wpV_skip (by rfl) (by simp only [lightOp]) ?_
          simp only [Act.put, List.setIfInBounds_toArray, List.set_cons_zero, List.set_cons_succ]
          refine wpV_skip (by rfl) (by simp only [lightOp]) ?_
          simp only [Act.put, List.setIfInBounds_toArray, List.set_cons_zero, List.set_cons_succ]
          refine wpV_skip (by rfl) (by simp only [lightOp]) ?_
          simp only [Act.put, List.setIfInBounds_toArray, List.set_cons_zero, List.set_cons_succ]
          refine wpV_skip (by rfl) (by simp only [lightOp]) ?_
          simp only [Act.put, List.setIfInBounds_toArray, List.set_cons_zero, List.set_cons_succ]
          refine wpV_skip (by rfl) (by simp only [lightOp]) ?_
          simp only [Act.put, List.setIfInBounds_toArray, List.set_cons_zero, List.set_cons_succ]
          refine wpV_skip (by rfl) (by simp only [lightOp]) ?_
          simp only [Act.put, List.setIfInBounds_toArray, List.set_cons_zero, List.set_cons_succ]
          refine wpV_skip (by rfl) (by simp only [lightOp]) ?_
          simp only [Act.put, List.setIfInBounds_toArray, List.set_cons_zero, List.set_cons_succ]
          with_reducible apply wpV_light
          · simp only [lightOp]
          · intro W hU hF
            have f0 := CY.out W hU
            clear hU hF
            go_simp
            exact rfl
          simp only [Act.put, List.setIfInBounds_toArray, List.set_cons_zero, List.set_cons_succ]
          refine wpV_end (fun wy hU _ hF => ?_)
          have UY : Hid (Upd [] wr wy) := Lib.hid (UX.out.trans ((Upd.refl [] _).drew.trans hU))
          clear hU hF
          refine wpT_end ?_
          go_wp2_with fail
          have CW : Hid (∀ W, Upd [] wy.drew W → W.cell? (ad.add (k * 9)) = some (.int .i64 a2)) := Lib.hid (fun W hW => by
            have := UY.out.trans ((Upd.refl [] wy).drew.trans hW)
            exact (CE0.out W ⟨this.os, this.tape, this.output, this.size, this.keep⟩).1)
          have EQL : Hid (out'.length = j + 1) := Lib.hid (by rw [EQ.out]; simp [OL.out])
          have W2 : Hid (Upd [] w wy) := Lib.hid (HK.out.2.trans UY.out)
          have F1 : Hid (∀ W, Upd [] wy.drew W → Src W 1 (.slice Al j cl) j ((out.take j).map (Value.int .i64))) := Lib.hid (fun W hW => by
            have hu : Upd [] wr W := UY.out.trans ((Upd.refl [] wy).drew.trans hW)
            have := (Src.of_own (own_upd0 OW.out hu)).take j hj cl
            rwa [Nat.mul_one, ← List.map_take] at this)
          obtain ⟨X, hX, hXo, hXs⟩ := cut_tail elem_int Al j cl j hj hnc
          have F2 : Hid (∀ W, Upd [] wy.drew W → Src W 1 X (j - j) ((out.drop j).map (Value.int .i64))) := Lib.hid (fun W hW => by
            have hu : Upd [] wr W := UY.out.trans ((Upd.refl [] wy).drew.trans hW)
            have := hXs _ _ (Src.of_own (own_upd0 OW.out hu))
            rwa [show (out.map (Value.int .i64)).drop (j * 1) = (out.drop j).map (Value.int .i64) by rw [Nat.mul_one, ← List.map_drop]] at this)
          clear hXo hXs
          have SZ : Hid (w.heap.size ≤ wy.heap.size) := Lib.hid W2.out.size
          refine wp_invN [(0, .own w.heap.size 3 1 0 []), (4, .own w.heap.size 3 1 j ((out.take j).map (Value.int .i64))), (11, .lit 3 #[.int .i64 a2] 1), (12, .own w.heap.size 3 1 (j + 1) ((out.take j).map (Value.int .i64) ++ [.int .i64 a2])), (16, .own w.heap.size 3 1 (j + 1) ((out.take j).map (Value.int .i64) ++ [.int .i64 a2] ++ (out.drop j).map (Value.int .i64)))] [(4, [0]), (12, [4]), (16, [12])] (by kernel_rfl) (by kernel_rfl) (by kernel_rfl) ⟨lasts_own _ _ _ _ _ (by simp [maxLen]), lasts_own _ _ _ _ _ (by unfold maxLen; omega), lasts_lit _ _ _, lasts_own _ _ _ _ _ (by unfold maxLen; omega), lasts_own _ _ _ _ _ (by unfold maxLen; omega), trivial⟩ ?_
          refine wpV_heavy (by simp only [lightOp]) (by rfl) (fun W hU hk hF K hK => ?_) ?_
          · go_wp2_with fail
            exact wpV_made hK rfl rfl rfl rfl (Nat.le_trans SZ.out hU.size)
          rintro _ ⟨B1, b1, rfl, _, _⟩
          simp only [Act.put, List.setIfInBounds_toArray, List.set_cons_zero, List.set_cons_succ]
          with_reducible apply wpV_light
          · simp only [lightOp]
          · intro W hU hF
            have f0 := CW.out W hU
            clear hU hF
            go_simp
            exact rfl
          simp only [Act.put, List.setIfInBounds_toArray, List.set_cons_zero, List.set_cons_succ]
          with_reducible apply wpV_light
          · simp only [lightOp]
          · intro W hU hF
            have f0 := CW.out W hU
            clear hU hF
            go_simp
            exact rfl
          simp only [Act.put, List.setIfInBounds_toArray, List.set_cons_zero, List.set_cons_succ]
          with_reducible apply wpV_light
          · simp only [lightOp]
          · intro W hU hF
            have f0 := CW.out W hU
            clear hU hF
            go_simp
            exact rfl
          simp only [Act.put, List.setIfInBounds_toArray, List.set_cons_zero, List.set_cons_succ]
          refine wpV_heavy (by simp only [lightOp]) (by rfl) (fun W hU hk hF K hK => ?_) ?_
          · exact wpV_app hK (.tmp 48) (.tmp 51) _ (by rfl) elem_int _ _ (by rfl) (by rfl) rfl rfl (by simp [usedV, mkI, conOf, specOf, Spec.own]) (hF.out.1 (by kernel_rfl)) (F1.out W hU) (by omega) (by simp) (by intro u hu; obtain ⟨x, _, rfl⟩ := List.mem_map.1 hu; rfl) (by unfold maxLen; omega) (by omega) (Nat.le_trans SZ.out hU.size)
          rintro _ ⟨B2, b2, rfl, _, _⟩
          simp only [Act.put, List.setIfInBounds_toArray, List.set_cons_zero, List.set_cons_succ]
          with_reducible apply wpV_light
          · simp only [lightOp]
          · intro W hU hF
            have f0 := CW.out W hU
            clear hU hF
            go_simp
            exact rfl
          simp only [Act.put, List.setIfInBounds_toArray, List.set_cons_zero, List.set_cons_succ]
          with_reducible apply wpV_light
          · simp only [lightOp]
          · intro W hU hF
            have f0 := CW.out W hU
            clear hU hF
            go_simp
            exact rfl
          simp only [Act.put, List.setIfInBounds_toArray, List.set_cons_zero, List.set_cons_succ]
          with_reducible apply wpV_light
          · simp only [lightOp]
          · intro W hU hF
            have f0 := CW.out W hU
            clear hU hF
            go_simp
            exact rfl
          simp only [Act.put, List.setIfInBounds_toArray, List.set_cons_zero, List.set_cons_succ]
          with_reducible apply wpV_light
          · simp only [lightOp]
          · intro W hU hF
            have f0 := CW.out W hU
            clear hU hF
            go_simp
            exact rfl
          simp only [Act.put, List.setIfInBounds_toArray, List.set_cons_zero, List.set_cons_succ]
          with_reducible apply wpV_light
          · simp only [lightOp]
          · intro W hU hF
            have f0 := CW.out W hU
            clear hU hF
            go_simp
            exact rfl
          simp only [Act.put, List.setIfInBounds_toArray, List.set_cons_zero, List.set_cons_succ]
          with_reducible apply wpV_light
          · simp only [lightOp]
          · intro W hU hF
            have f0 := CW.out W hU
            clear hU hF
            go_simp
            exact rfl
          simp only [Act.put, List.setIfInBounds_toArray, List.set_cons_zero, List.set_cons_succ]
          refine wpV_heavy (by simp only [lightOp]) (by rfl) (fun W hU hk hF K hK => ?_) ?_
          · go_wp2_with fail
            exact wpV_lit hK rfl rfl rfl
          rintro _ ⟨g3, rfl⟩
          simp only [Act.put, List.setIfInBounds_toArray, List.set_cons_zero, List.set_cons_succ]
          refine wpV_heavy (by simp only [lightOp]) (by rfl) (fun W hU hk hF K hK => ?_) ?_
          · obtain ⟨g', he, hbl⟩ := hF.out.2.2.1 (by kernel_rfl)
            injection he with he _ _
            injection he with he
            injection he with he
            subst he
            exact wpV_app hK (.tmp 52) (.tmp 59) _ (by rfl) elem_int _ _ (by rfl) (by rfl) rfl rfl (by simp [usedV, mkI, conOf, specOf, Spec.own]) (hF.out.2.1 (by kernel_rfl)) (.of_blk hbl (m := 1) 1 rfl) (by omega) (by simp) (by intro u hu; simp at hu; subst hu; rfl) (by unfold maxLen; omega) (by omega) (Nat.le_trans SZ.out hU.size)
          rintro _ ⟨B4, b4, rfl, _, _⟩
          simp only [Act.put, List.setIfInBounds_toArray, List.set_cons_zero, List.set_cons_succ]
          with_reducible apply wpV_light
          · simp only [lightOp]
          · intro W hU hF
            have f0 := CW.out W hU
            clear hU hF
            go_simp
            exact rfl
          simp only [Act.put, List.setIfInBounds_toArray, List.set_cons_zero, List.set_cons_succ]
          with_reducible apply wpV_light
          · simp only [lightOp]
          · intro W hU hF
            have f0 := CW.out W hU
            clear hU hF
            go_simp
            exact rfl
          simp only [Act.put, List.setIfInBounds_toArray, List.set_cons_zero, List.set_cons_succ]
          with_reducible apply wpV_light
          · simp only [lightOp]
          · intro W hU hF
            have f0 := CW.out W hU
            clear hU hF
            go_simp
            exact rfl
          simp only [Act.put, List.setIfInBounds_toArray, List.set_cons_zero, List.set_cons_succ]
          refine wpV_heavy (by simp only [lightOp]) (by rfl) (fun W hU hk hF K hK => ?_) ?_
          · exact wpV_app hK (.tmp 60) (.tmp 63) _ (by rfl) elem_int _ _ (by rfl) (by rfl) rfl rfl (by simp [usedV, mkI, conOf, specOf, Spec.own]) (hF.out.2.2.2.1 (by kernel_rfl)) (F2.out W hU) (by omega) (by simp) (by intro u hu; obtain ⟨x, _, rfl⟩ := List.mem_map.1 hu; rfl) (by unfold maxLen; omega) (by omega) (Nat.le_trans SZ.out hU.size)
          rintro _ ⟨B5, b5, rfl, _, _⟩
          simp only [Act.put, List.setIfInBounds_toArray, List.set_cons_zero, List.set_cons_succ]
          with_reducible apply wpV_light
          · simp only [lightOp]
          · intro W hU hF
            have f0 := CW.out W hU
            clear hU hF
            go_simp
            exact rfl
          simp only [Act.put, List.setIfInBounds_toArray, List.set_cons_zero, List.set_cons_succ]
          refine wpV_end (fun W hU _ hF => ?_)
          have O3 : Hid (OwI W w.heap.size (.slice B5 (j + 1) b5) (j + 1) out' ∧ Upd [] w W) := Lib.hid (by
            have := hF.out.2.2.2.2.1 (by kernel_rfl)
            exact ⟨by rw [EQ.out]; unfold OwI; rw [List.map_append, List.map_append]; exact this, W2.out.drew.trans hU⟩)
          clear hU hF
          refine wpT_end ?_
          go_wp2_with fail
          go_roundw
          case rel => exact ⟨k + 1, by go_num, by omega, Lib.hid (by rw [hout', EQL.out]; exact O3.out)⟩
          case measure => simp [intOf]; omega
    · obtain rfl : k = n := by omega
      have FT : Hid (L.take k = L) := Lib.hid (List.take_of_length_le (by rw [HN.out]; exact Nat.le_refl _))
      rw [FT.out] at HK ⊢
      go_wp2_with fail
      go_ret
      exact ⟨_, rfl, HK.out.1, HK.out.2⟩
end Go.Proofs.YtiahnlaplkeiaaaDoor

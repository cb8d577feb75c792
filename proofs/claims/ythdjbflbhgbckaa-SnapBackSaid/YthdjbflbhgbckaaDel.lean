/-
  slices.Delete of one pair.
-/
import Derived.Test.YthdjbflbhgbckaaCopyS
import Derived.Test.YthdjbflbhgbckaaSnap
set_option linter.unusedVariables false
namespace Go.Proofs.Ythdjbflbhgbckaa
open Go.RowKit Stab Snap
attribute [local go_sem] litStep_value

def delL (acc : PL) (i : Nat) : PL := acc.take i ++ acc.drop (i + 1)
theorem delL_len {acc : PL} {i n : Nat} (hn : acc.length = n) (hi : i < n) : (delL acc i).length = n - 1 := by
  unfold delL
  rw [List.length_append, List.length_take, List.length_drop]
  omega
theorem del_list {L T D Z : List Value} {a d : Nat} (hT : L.take a = T) (hTl : T.length = a) (hD : D.length = d) (hL : a + d + 2 ≤ L.length) (hZ : Z.length = 2) :
    ((T ++ D ++ L.drop (a + d)).take (a + d) ++ (Z ++ (T ++ D ++ L.drop (a + d)).drop (a + d + 2))).take (a + d) = T ++ D := by
  have h1 : (T ++ D).length = a + d := by simp; omega
  rw [List.take_append_of_le_length (l₁ := (T ++ D ++ L.drop (a + d)).take (a + d)) (by rw [List.length_take, List.length_append, h1]; omega), List.take_take, Nat.min_self, List.take_append_of_le_length (by omega), List.take_of_length_le (by omega)]
def DelPost (B g n c : Nat) (acc : PL) (i : Nat) (w : World) (e : Ending) (w' : World) : Prop := e = .returned (.slice (some ⟨g, 0, none⟩) (n - 1) c) ∧ Ow encPr 42 w' B (.slice (some ⟨g, 0, none⟩) (n - 1) c) (delL acc i) ∧ Upd [g] w w'
set_option maxRecDepth 100000 in
set_option maxHeartbeats 4000000 in
theorem delete_ok (B g n c : Nat) (acc : PL) (i j : Nat) (w : World) (h : Ow encPr 42 w B (.slice (some ⟨g, 0, none⟩) n c) acc) (hn : acc.length = n) (hj : i + 1 = j) (hi : j ≤ n) (hl : n ≤ 1000) :
    Calls Try.prog 45 #[.slice (some ⟨g, 0, none⟩) n c, .int .i64 i, .int .i64 j] w fun e w' => DelPost B g n c acc i w e w' := by
  have HO := Lib.hid h
  have HN := Lib.hid hn
  have HJ := Lib.hid hj
  obtain ⟨g', c', cur, e1, hBg, hgb, hnc, hcm, hcs, htk⟩ := own_form h (by omega)
  injection e1 with e1 en e1'
  injection e1 with e1
  injection e1 with e1
  subst e1 e1'
  rw [hn] at hnc htk
  have GB := Lib.hid hgb
  have CZ : Hid (cur.size = c * 2) := Lib.hid hcs
  have GT : Hid (cur.toList.take (n * 2) = flat encPr acc) := Lib.hid htk
  have BG := Lib.hid hBg
  have hcm2 : c ≤ 9223372036854775807 := by unfold maxLen at hcm; omega
  have u1 : (0 : Int) ≤ (i : Int) := by omega
  have u2 : (i : Int) ≤ (j : Int) := by omega
  have u3 : (j : Int) ≤ (n : Int) := by omega
  have u4 : (n : Int) ≤ (c : Int) := by omega
  have u5 : (0 : Int) ≤ (j : Int) := by omega
  have u6 : (i : Int) ≤ (c : Int) := by omega
  have d0 : ((i : Int) == (j : Int)) = false := by simp; omega
  have hni : ¬ n = i := by omega
  have hci : ¬ c = i := by omega
  obtain ⟨m, hm⟩ : ∃ m, n - j = m := ⟨_, rfl⟩
  obtain ⟨n1, hn1⟩ : ∃ n1, n - 1 = n1 := ⟨_, rfl⟩
  have him : i + m = n1 := by omega
  have hn1n : n - n1 = 1 := by omega
  have u7 : (n1 : Int) ≤ (n : Int) := by omega
  have u8 : (0 : Int) ≤ (n1 : Int) := by omega
  have hcn1 : ¬ c = n1 := by omega
  have TL : Hid ((flat encPr (acc.take i)).length = i * 2) := Lib.hid (by rw [flat_len, List.length_take, HN.out, Nat.min_eq_left (by omega)]; rfl)
  have DL : Hid ((flat encPr (acc.drop j)).length = m * 2) := Lib.hid (by rw [flat_len, List.length_drop, HN.out, hm]; rfl)
  have TK : Hid (cur.toList.take (i * 2) = flat encPr (acc.take i)) := Lib.hid (by
    have h3 : cur.toList.take (i * 2) = (cur.toList.take (n * 2)).take (i * 2) := by
      rw [List.take_take, Nat.min_eq_left (by omega)]
    rw [h3, GT.out, show flat encPr acc = flat encPr (acc.take i) ++ flat encPr (acc.drop i) by rw [← flat_append, List.take_append_drop], List.take_append_of_le_length (by rw [TL.out]; exact Nat.le_refl _), List.take_of_length_le (by rw [TL.out]; exact Nat.le_refl _)])
  have OW : Hid (∀ W, Upd [] w W → ∀ k v, (flat encPr (acc.drop j))[k]? = some v → W.cell? ⟨g, j * 2 + k, none⟩ = some v) := Lib.hid (fun W hW k v hk => by
    have ho := HO.out.upd0 hW
    unfold Ow at ho
    rw [HN.out] at ho
    refine own_cell ho (j * 2 + k) v ?_
    rw [show flat encPr acc = flat encPr (acc.take j) ++ flat encPr (acc.drop j) by rw [← flat_append, List.take_append_drop], List.getElem?_append_right (by rw [flat_len, List.length_take, HN.out, Nat.min_eq_left hi]; show j * 2 ≤ _; omega), flat_len, List.length_take, HN.out, Nat.min_eq_left hi]
    rw [show j * 2 + k - j * (encPr).s = k by show j * 2 + k - j * 2 = k; omega]
    exact hk)
  have NS : Hid (c = j → flat encPr (acc.drop j) = []) := Lib.hid (fun e => by
    have : m = 0 := by omega
    refine List.eq_nil_of_length_eq_zero ?_
    rw [DL.out, this])
  have HM := Lib.hid hm
  have HN1 := Lib.hid hn1
  unfold DelPost
  rw [hn1]
  clear h hn hj hgb hcs htk hBg hcm en hnc hm hn1
  by_cases hcj : c = j
  · subst hcj
    have SR : Hid (∀ W, Upd [] w W → ∀ k v, (flat encPr (acc.drop c))[k]? = some v → W.cell? ((⟨g, 0, none⟩ : Addr).add k) = some v) := Lib.hid (fun W hW k v hk => by
      rw [NS.out rfl] at hk
      cases hk)
    go_enter Try.func45, Try.ntmps45
    go_wp2_with fail
    refine wp_invNT 6 [] [] (by kernel_rfl) (by simp) (by kernel_rfl) (by kernel_rfl) trivial ?_
    simp only [List.take_succ_cons, List.take_zero, List.drop_succ_cons, List.drop_zero]
    with_reducible apply wpV_light
    · simp only [lightOp]
    · intro W hU hF
      clear hU hF
      go_simp
      exact rfl
    simp only [Act.put, List.setIfInBounds_toArray, List.set_cons_zero, List.set_cons_succ]
    with_reducible apply wpV_light
    · simp only [lightOp]
    · intro W hU hF
      clear hU hF
      go_simp
      exact rfl
    simp only [Act.put, List.setIfInBounds_toArray, List.set_cons_zero, List.set_cons_succ]
    with_reducible apply wpV_light
    · simp only [lightOp]
    · intro W hU hF
      clear hU hF
      go_simp
      exact rfl
    simp only [Act.put, List.setIfInBounds_toArray, List.set_cons_zero, List.set_cons_succ]
    with_reducible apply wpV_light
    · simp only [lightOp]
    · intro W hU hF
      clear hU hF
      go_simp
      exact rfl
    simp only [Act.put, List.setIfInBounds_toArray, List.set_cons_zero, List.set_cons_succ]
    with_reducible apply wpV_light
    · simp only [lightOp]
    · intro W hU hF
      clear hU hF
      go_simp
      exact rfl
    simp only [Act.put, List.setIfInBounds_toArray, List.set_cons_zero, List.set_cons_succ]
    with_reducible apply wpV_light
    · simp only [lightOp]
    · intro W hU hF
      clear hU hF
      go_simp
      exact rfl
    simp only [Act.put, List.setIfInBounds_toArray, List.set_cons_zero, List.set_cons_succ]
    refine wpV_end (fun W hU _ _ => ?_)
    have U6 : Hid (Upd [] w W) := Lib.hid ((Upd.refl [] w).drew.trans hU)
    clear hU
    refine wpT_op (by rfl) (fun K hK => ?_)
    have GB6 := Lib.hid (GB.out.upd U6.out (by simp))
    obtain ⟨i0, z0, hi0, hz0, hs0, hb0, _⟩ := elem_pair.info
    refine Lib.wp_append_run W (.tmp 22) (.tmp 25) 25 25 (by rfl) (.slice (some ⟨g, 0, none⟩) i c) (.slice (some ⟨g, 0, none⟩) (n - c) 0) (by rfl) (by rfl) _ _ (run_append_room W 25 _ 42 i0 Try.underlying25 hi0 g i c cur GB6.out ⟨g, 0, none⟩ (n - c) 0 (flat encPr (acc.drop c)) (by rw [DL.out, HM.out, hs0]) (SR.out W U6.out) flat_cells (by have := HM.out; omega) (by rw [DL.out, hs0, CZ.out]; omega)) ?_
    rw [HM.out, him, hs0, TK.out, DL.out]
    obtain ⟨cur7, hc7⟩ : ∃ z, (flat encPr (acc.take i) ++ flat encPr (acc.drop c) ++ cur.toList.drop (i * 2 + m * 2)).toArray = z := ⟨_, rfl⟩
    rw [hc7]
    have HC7 : Hid (cur7.toList = flat encPr (acc.take i) ++ flat encPr (acc.drop c) ++ cur.toList.drop (i * 2 + m * 2)) := Lib.hid (by rw [← hc7])
    have CZ7 : Hid (cur7.size = c * 2) := Lib.hid (by
      rw [← Array.length_toList, HC7.out, List.length_append, List.length_append, TL.out, DL.out, List.length_drop, Array.length_toList, CZ.out]
      have := HJ.out
      have := HM.out
      omega)
    have GB7 : Hid (Blk (W.setRow g cur7) g 42 cur7) := Lib.hid (setRow_heap W g cur cur7 _ _ GB6.out)
    have U7 : Hid (Upd [g] w (W.setRow g cur7)) := Lib.hid ((U6.out.mono (by simp)).trans ⟨rfl, rfl, rfl, by simp [World.setRow], fun k hk hn => setRow_other W g k cur7 (by simpa using hn)⟩)
    generalize (W.setRow g cur7) = W7 at *
    refine hK.out _ _ ?_
    clear hK K hc7
    simp only [Act.put, List.setIfInBounds_toArray, List.set_cons_zero, List.set_cons_succ]
    refine wpT_op (by rfl) (fun K hK => ?_)
    go_wp2_with fail
    refine hK.out _ _ ?_
    clear hK K
    try simp only [Act.put, List.setIfInBounds_toArray, List.set_cons_zero, List.set_cons_succ]
    refine wpT_end ?_
    have hz : (Try.prog.info? 42).bind (·.zero) = some (.agg #[.int .i64 0, .int .i64 0]) := by kernel_rfl
    have hcl0 := run_clear_s elem_pair W7 g (n1 * 2) 1 (c - n1) (by omega) cur7 _ GB7.out (by rw [CZ7.out]; omega) (fun z hz' v hv => by
      rw [hz] at hz'
      injection hz' with hz'
      subst hz'
      simp [Value.cells] at hv
      subst hv
      rfl)
    obtain ⟨Z, hZl, hcl⟩ := hcl0
    clear hz
    go_wp2_with fail
    go_ret
    have GB8 := GB7.out.setCells Z (n1 * 2)
    have e8 : (spl Z cur7 (n1 * 2)).toList.take (n1 * 2) = flat encPr (delL acc i) := by
      have := HN1.out
      have := HM.out
      rw [spl_list _ _ _ (by rw [CZ7.out, hZl]; omega), HC7.out, hZl, show n1 * 2 = i * 2 + m * 2 by omega]
      unfold delL
      rw [flat_append, show i + 1 = c from HJ.out]
      exact del_list TK.out TL.out DL.out (by rw [Array.length_toList, CZ.out]; omega) hZl
    exact ⟨rfl, ⟨by rw [flat_len], .inr ⟨g, c, _, by rw [delL_len HN.out (by have := HJ.out; omega), HN1.out], BG.out, GB8, by rw [delL_len HN.out (by have := HJ.out; omega)]; omega, by unfold maxLen; omega, by rw [spl_size, CZ7.out]; rfl, by rw [delL_len HN.out (by have := HJ.out; omega), HN1.out]; exact e8⟩⟩, Upd.setCells _ _ _ U7.out⟩
  · have SR : Hid (∀ W, Upd [] w W → ∀ k v, (flat encPr (acc.drop j))[k]? = some v → W.cell? ((⟨g, j * 2, none⟩ : Addr).add k) = some v) := Lib.hid (fun W hW k v hk => by
      rw [Addr.add_lit]
      exact OW.out W hW k v hk)
    go_enter Try.func45, Try.ntmps45
    go_wp2_with fail
    refine wp_invNT 6 [] [] (by kernel_rfl) (by simp) (by kernel_rfl) (by kernel_rfl) trivial ?_
    simp only [List.take_succ_cons, List.take_zero, List.drop_succ_cons, List.drop_zero]
    with_reducible apply wpV_light
    · simp only [lightOp]
    · intro W hU hF
      clear hU hF
      go_simp
      exact rfl
    simp only [Act.put, List.setIfInBounds_toArray, List.set_cons_zero, List.set_cons_succ]
    with_reducible apply wpV_light
    · simp only [lightOp]
    · intro W hU hF
      clear hU hF
      go_simp
      exact rfl
    simp only [Act.put, List.setIfInBounds_toArray, List.set_cons_zero, List.set_cons_succ]
    with_reducible apply wpV_light
    · simp only [lightOp]
    · intro W hU hF
      clear hU hF
      go_simp
      exact rfl
    simp only [Act.put, List.setIfInBounds_toArray, List.set_cons_zero, List.set_cons_succ]
    with_reducible apply wpV_light
    · simp only [lightOp]
    · intro W hU hF
      clear hU hF
      go_simp
      exact rfl
    simp only [Act.put, List.setIfInBounds_toArray, List.set_cons_zero, List.set_cons_succ]
    with_reducible apply wpV_light
    · simp only [lightOp]
    · intro W hU hF
      clear hU hF
      go_simp
      exact rfl
    simp only [Act.put, List.setIfInBounds_toArray, List.set_cons_zero, List.set_cons_succ]
    with_reducible apply wpV_light
    · simp only [lightOp]
    · intro W hU hF
      clear hU hF
      go_simp
      exact rfl
    simp only [Act.put, List.setIfInBounds_toArray, List.set_cons_zero, List.set_cons_succ]
    refine wpV_end (fun W hU _ _ => ?_)
    have U6 : Hid (Upd [] w W) := Lib.hid ((Upd.refl [] w).drew.trans hU)
    clear hU
    refine wpT_op (by rfl) (fun K hK => ?_)
    have GB6 := Lib.hid (GB.out.upd U6.out (by simp))
    obtain ⟨i0, z0, hi0, hz0, hs0, hb0, _⟩ := elem_pair.info
    refine Lib.wp_append_run W (.tmp 22) (.tmp 25) 25 25 (by rfl) (.slice (some ⟨g, 0, none⟩) i c) (.slice (some ⟨g, j * 2, none⟩) (n - j) (c - j)) (by rfl) (by rfl) _ _ (run_append_room W 25 _ 42 i0 Try.underlying25 hi0 g i c cur GB6.out ⟨g, j * 2, none⟩ (n - j) (c - j) (flat encPr (acc.drop j)) (by rw [DL.out, HM.out, hs0]) (SR.out W U6.out) flat_cells (by have := HM.out; omega) (by rw [DL.out, hs0, CZ.out]; omega)) ?_
    rw [HM.out, him, hs0, TK.out, DL.out]
    obtain ⟨cur7, hc7⟩ : ∃ z, (flat encPr (acc.take i) ++ flat encPr (acc.drop j) ++ cur.toList.drop (i * 2 + m * 2)).toArray = z := ⟨_, rfl⟩
    rw [hc7]
    have HC7 : Hid (cur7.toList = flat encPr (acc.take i) ++ flat encPr (acc.drop j) ++ cur.toList.drop (i * 2 + m * 2)) := Lib.hid (by rw [← hc7])
    have CZ7 : Hid (cur7.size = c * 2) := Lib.hid (by
      rw [← Array.length_toList, HC7.out, List.length_append, List.length_append, TL.out, DL.out, List.length_drop, Array.length_toList, CZ.out]
      have := HJ.out
      have := HM.out
      omega)
    have GB7 : Hid (Blk (W.setRow g cur7) g 42 cur7) := Lib.hid (setRow_heap W g cur cur7 _ _ GB6.out)
    have U7 : Hid (Upd [g] w (W.setRow g cur7)) := Lib.hid ((U6.out.mono (by simp)).trans ⟨rfl, rfl, rfl, by simp [World.setRow], fun k hk hn => setRow_other W g k cur7 (by simpa using hn)⟩)
    generalize (W.setRow g cur7) = W7 at *
    refine hK.out _ _ ?_
    clear hK K hc7
    simp only [Act.put, List.setIfInBounds_toArray, List.set_cons_zero, List.set_cons_succ]
    refine wpT_op (by rfl) (fun K hK => ?_)
    go_wp2_with fail
    refine hK.out _ _ ?_
    clear hK K
    try simp only [Act.put, List.setIfInBounds_toArray, List.set_cons_zero, List.set_cons_succ]
    refine wpT_end ?_
    have hz : (Try.prog.info? 42).bind (·.zero) = some (.agg #[.int .i64 0, .int .i64 0]) := by kernel_rfl
    have hcl0 := run_clear_s elem_pair W7 g (n1 * 2) 1 (c - n1) (by omega) cur7 _ GB7.out (by rw [CZ7.out]; omega) (fun z hz' v hv => by
      rw [hz] at hz'
      injection hz' with hz'
      subst hz'
      simp [Value.cells] at hv
      subst hv
      rfl)
    obtain ⟨Z, hZl, hcl⟩ := hcl0
    clear hz
    go_wp2_with fail
    go_ret
    have GB8 := GB7.out.setCells Z (n1 * 2)
    have e8 : (spl Z cur7 (n1 * 2)).toList.take (n1 * 2) = flat encPr (delL acc i) := by
      have := HN1.out
      have := HM.out
      rw [spl_list _ _ _ (by rw [CZ7.out, hZl]; omega), HC7.out, hZl, show n1 * 2 = i * 2 + m * 2 by omega]
      unfold delL
      rw [flat_append, show i + 1 = j from HJ.out]
      exact del_list TK.out TL.out DL.out (by rw [Array.length_toList, CZ.out]; omega) hZl
    exact ⟨rfl, ⟨by rw [flat_len], .inr ⟨g, c, _, by rw [delL_len HN.out (by have := HJ.out; omega), HN1.out], BG.out, GB8, by rw [delL_len HN.out (by have := HJ.out; omega)]; omega, by unfold maxLen; omega, by rw [spl_size, CZ7.out]; rfl, by rw [delL_len HN.out (by have := HJ.out; omega), HN1.out]; exact e8⟩⟩, Upd.setCells _ _ _ U7.out⟩
end Go.Proofs.Ythdjbflbhgbckaa

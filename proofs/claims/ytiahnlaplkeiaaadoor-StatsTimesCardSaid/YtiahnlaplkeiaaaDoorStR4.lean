/-
  concordref30: Overlap, Bars.
-/
import Derived.Test.YtiahnlaplkeiaaaDoorStR3
set_option linter.unusedVariables false
namespace Go.Proofs.YtiahnlaplkeiaaaDoor
open Go.RowKit St
attribute [local go_sem] litStep_value

def overK (L : List En) (l : List En) : Int := l.foldl (fun m x => if x.be ≤ x.en ∧ m < (cntR L x.be : Int) then (cntR L x.be : Int) else m) 0
theorem overK_snoc (L l : List En) (x : En) : overK L (l ++ [x]) = if x.be ≤ x.en ∧ overK L l < (cntR L x.be : Int) then (cntR L x.be : Int) else overK L l := by unfold overK; rw [List.foldl_append]; rfl
theorem overK_all (L : List En) : overK L L = overR L := rfl
theorem cntR_snoc (l : List En) (x : En) (a : Int) : cntR (l ++ [x]) a = if x.be ≤ a ∧ a ≤ x.en then cntR l a + 1 else cntR l a := by
  unfold cntR
  rw [List.filter_append]
  by_cases h : x.be ≤ a ∧ a ≤ x.en
  · rw [if_pos h]; simp [h]
  · rw [if_neg h]
    have : (decide (x.be ≤ a) && decide (a ≤ x.en)) = false := by simpa using h
    simp [this]
theorem cntR_le (l : List En) (a : Int) : cntR l a ≤ l.length := List.length_filter_le _ _
set_option maxRecDepth 100000 in
set_option maxHeartbeats 8000000 in
theorem roverlap_ok (A : Option Addr) (n c : Nat) (L : List En) (w : World) (h : Rd encE w (.slice A n c) L) (hn : L.length = n) (hl : n ≤ 100) :
    Calls Tryd.prog 18 #[.slice A n c] w fun e w' => e = .returned (.int .i64 (overR L)) ∧ Upd [] w w' := by
  have H := Lib.hid h
  have HN := Lib.hid hn
  clear h hn
  go_enter Tryd.func18, Tryd.ntmps18
  go_wp2_with fail
  go_loopw [3, 4] (fun vm v wr => ∃ (i : Nat) (m : Int), v = .int .i64 i ∧ vm = .int .i64 m ∧ i ≤ n ∧ Hid (overK L (L.take i) = m) ∧ Hid (Upd [] w wr)) (fun _ v _ => n - (intOf v).toNat)
  case atStart => exact ⟨0, 0, rfl, rfl, by omega, Lib.hid rfl, Lib.hid (.refl _ _)⟩
  case round =>
    obtain ⟨i, m, rfl, rfl, hi, HM, HU⟩ := hrel
    by_cases hin : i < n
    · obtain ⟨x, hx⟩ : ∃ x, L[i]? = some x := ⟨_, List.getElem?_eq_getElem (by rw [HN.out]; exact hin)⟩
      have HX := Lib.hid hx
      have HTI := Lib.hid (take_snoc hx)
      obtain ⟨ad, rfl, hlt, -⟩ := en_cells (H.out.upd0 HU.out) hx
      have q1 : (0 : Int) ≤ (i : Int) := by omega
      have q2 : (i : Int) < (n : Int) := by omega
      clear hx
      go_wp2_with fail
      go_loopw [5, 6] (fun vc v wk => ∃ (k r : Nat), v = .int .i64 k ∧ vc = .int .i64 r ∧ k ≤ n ∧ r ≤ k ∧ Hid (cntR (L.take k) x.be = r) ∧ Hid (Upd [] w wk)) (fun _ v _ => n - (intOf v).toNat)
      case atStart => exact ⟨0, 0, rfl, rfl, by omega, by omega, Lib.hid rfl, HU⟩
      case round =>
        obtain ⟨k, r, rfl, rfl, hk, hrk, HR, KU⟩ := hrel
        rename World => wk
        by_cases hkn : k < n
        · obtain ⟨y, hy⟩ : ∃ y, L[k]? = some y := ⟨_, List.getElem?_eq_getElem (by rw [HN.out]; exact hkn)⟩
          have HTK := Lib.hid (take_snoc hy)
          have CS : Hid (∀ W, Upd [] wk.drew W → EnAt W (ad.add (k * 9)) y ∧ EnAt W (ad.add (i * 9)) x) := Lib.hid (fun W hW => ⟨en_all (H.out.upd0 KU.out) hy W hW, en_all (H.out.upd0 KU.out) HX.out W hW⟩)
          have p1 : (0 : Int) ≤ (k : Int) := by omega
          have p2 : (k : Int) < (n : Int) := by omega
          clear hy
          by_cases h1 : y.be ≤ x.be
          · have d1 : decide (y.be ≤ x.be) = true := by simpa using h1
            by_cases h2 : x.be ≤ y.en
            · have d2 : decide (x.be ≤ y.en) = true := by simpa using h2
              have HZ : Hid (cntR (L.take (k + 1)) x.be = r + 1) := Lib.hid (by rw [HTK.out, cntR_snoc, if_pos ⟨h1, h2⟩, HR.out])
              go_wp2_with fail
              refine wp_invN [] [] (by kernel_rfl) (by kernel_rfl) (by kernel_rfl) trivial ?_
              with_reducible apply wpV_light
              · simp only [lightOp]
              · intro W hU hF
                have f0 := CS.out W hU
                obtain ⟨⟨e0, e1, e2, e3, e4, e5, e6, e7, e8⟩, ⟨c0, c1, c2, c3, c4, c5, c6, c7, c8⟩⟩ := f0
                clear hU hF
                go_simp
                exact rfl
              simp only [Act.put, List.setIfInBounds_toArray, List.set_cons_zero, List.set_cons_succ]
              with_reducible apply wpV_light
              · simp only [lightOp]
              · intro W hU hF
                have f0 := CS.out W hU
                obtain ⟨⟨e0, e1, e2, e3, e4, e5, e6, e7, e8⟩, ⟨c0, c1, c2, c3, c4, c5, c6, c7, c8⟩⟩ := f0
                clear hU hF
                go_simp
                exact rfl
              simp only [Act.put, List.setIfInBounds_toArray, List.set_cons_zero, List.set_cons_succ]
              with_reducible apply wpV_light
              · simp only [lightOp]
              · intro W hU hF
                have f0 := CS.out W hU
                obtain ⟨⟨e0, e1, e2, e3, e4, e5, e6, e7, e8⟩, ⟨c0, c1, c2, c3, c4, c5, c6, c7, c8⟩⟩ := f0
                clear hU hF
                go_simp
                exact rfl
              simp only [Act.put, List.setIfInBounds_toArray, List.set_cons_zero, List.set_cons_succ]
              with_reducible apply wpV_light
              · simp only [lightOp]
              · intro W hU hF
                have f0 := CS.out W hU
                obtain ⟨⟨e0, e1, e2, e3, e4, e5, e6, e7, e8⟩, ⟨c0, c1, c2, c3, c4, c5, c6, c7, c8⟩⟩ := f0
                clear hU hF
                go_simp
                exact rfl
              simp only [Act.put, List.setIfInBounds_toArray, List.set_cons_zero, List.set_cons_succ]
              with_reducible apply wpV_light
              · simp only [lightOp]
              · intro W hU hF
                have f0 := CS.out W hU
                obtain ⟨⟨e0, e1, e2, e3, e4, e5, e6, e7, e8⟩, ⟨c0, c1, c2, c3, c4, c5, c6, c7, c8⟩⟩ := f0
                clear hU hF
                go_simp
                exact rfl
              simp only [Act.put, List.setIfInBounds_toArray, List.set_cons_zero, List.set_cons_succ]
              with_reducible apply wpV_light
              · simp only [lightOp]
              · intro W hU hF
                have f0 := CS.out W hU
                obtain ⟨⟨e0, e1, e2, e3, e4, e5, e6, e7, e8⟩, ⟨c0, c1, c2, c3, c4, c5, c6, c7, c8⟩⟩ := f0
                clear hU hF
                go_simp
                exact rfl
              simp only [Act.put, List.setIfInBounds_toArray, List.set_cons_zero, List.set_cons_succ]
              with_reducible apply wpV_light
              · simp only [lightOp]
              · intro W hU hF
                have f0 := CS.out W hU
                obtain ⟨⟨e0, e1, e2, e3, e4, e5, e6, e7, e8⟩, ⟨c0, c1, c2, c3, c4, c5, c6, c7, c8⟩⟩ := f0
                clear hU hF
                go_simp
                exact rfl
              simp only [Act.put, List.setIfInBounds_toArray, List.set_cons_zero, List.set_cons_succ]
              with_reducible apply wpV_light
              · simp only [lightOp]
              · intro W hU hF
                have f0 := CS.out W hU
                obtain ⟨⟨e0, e1, e2, e3, e4, e5, e6, e7, e8⟩, ⟨c0, c1, c2, c3, c4, c5, c6, c7, c8⟩⟩ := f0
                clear hU hF
                go_simp
                exact rfl
              simp only [Act.put, List.setIfInBounds_toArray, List.set_cons_zero, List.set_cons_succ]
              with_reducible apply wpV_light
              · simp only [lightOp]
              · intro W hU hF
                have f0 := CS.out W hU
                obtain ⟨⟨e0, e1, e2, e3, e4, e5, e6, e7, e8⟩, ⟨c0, c1, c2, c3, c4, c5, c6, c7, c8⟩⟩ := f0
                clear hU hF
                go_simp
                exact rfl
              simp only [Act.put, List.setIfInBounds_toArray, List.set_cons_zero, List.set_cons_succ]
              with_reducible apply wpV_light
              · simp only [lightOp]
              · intro W hU hF
                have f0 := CS.out W hU
                obtain ⟨⟨e0, e1, e2, e3, e4, e5, e6, e7, e8⟩, ⟨c0, c1, c2, c3, c4, c5, c6, c7, c8⟩⟩ := f0
                clear hU hF
                go_simp
                exact rfl
              simp only [Act.put, List.setIfInBounds_toArray, List.set_cons_zero, List.set_cons_succ]
              with_reducible apply wpV_light
              · simp only [lightOp]
              · intro W hU hF
                have f0 := CS.out W hU
                obtain ⟨⟨e0, e1, e2, e3, e4, e5, e6, e7, e8⟩, ⟨c0, c1, c2, c3, c4, c5, c6, c7, c8⟩⟩ := f0
                clear hU hF
                go_simp
                exact rfl
              simp only [Act.put, List.setIfInBounds_toArray, List.set_cons_zero, List.set_cons_succ]
              with_reducible apply wpV_light
              · simp only [lightOp]
              · intro W hU hF
                have f0 := CS.out W hU
                obtain ⟨⟨e0, e1, e2, e3, e4, e5, e6, e7, e8⟩, ⟨c0, c1, c2, c3, c4, c5, c6, c7, c8⟩⟩ := f0
                clear hU hF
                go_simp
                exact rfl
              simp only [Act.put, List.setIfInBounds_toArray, List.set_cons_zero, List.set_cons_succ]
              with_reducible apply wpV_light
              · simp only [lightOp]
              · intro W hU hF
                have f0 := CS.out W hU
                obtain ⟨⟨e0, e1, e2, e3, e4, e5, e6, e7, e8⟩, ⟨c0, c1, c2, c3, c4, c5, c6, c7, c8⟩⟩ := f0
                clear hU hF
                go_simp
                exact rfl
              simp only [Act.put, List.setIfInBounds_toArray, List.set_cons_zero, List.set_cons_succ]
              with_reducible apply wpV_light
              · simp only [lightOp]
              · intro W hU hF
                have f0 := CS.out W hU
                obtain ⟨⟨e0, e1, e2, e3, e4, e5, e6, e7, e8⟩, ⟨c0, c1, c2, c3, c4, c5, c6, c7, c8⟩⟩ := f0
                clear hU hF
                go_simp
                exact rfl
              simp only [Act.put, List.setIfInBounds_toArray, List.set_cons_zero, List.set_cons_succ]
              with_reducible apply wpV_light
              · simp only [lightOp]
              · intro W hU hF
                have f0 := CS.out W hU
                obtain ⟨⟨e0, e1, e2, e3, e4, e5, e6, e7, e8⟩, ⟨c0, c1, c2, c3, c4, c5, c6, c7, c8⟩⟩ := f0
                clear hU hF
                go_simp
                exact rfl
              simp only [Act.put, List.setIfInBounds_toArray, List.set_cons_zero, List.set_cons_succ]
              with_reducible apply wpV_light
              · simp only [lightOp]
              · intro W hU hF
                have f0 := CS.out W hU
                obtain ⟨⟨e0, e1, e2, e3, e4, e5, e6, e7, e8⟩, ⟨c0, c1, c2, c3, c4, c5, c6, c7, c8⟩⟩ := f0
                clear hU hF
                go_simp
                exact rfl
              simp only [Act.put, List.setIfInBounds_toArray, List.set_cons_zero, List.set_cons_succ]
              with_reducible apply wpV_light
              · simp only [lightOp]
              · intro W hU hF
                have f0 := CS.out W hU
                obtain ⟨⟨e0, e1, e2, e3, e4, e5, e6, e7, e8⟩, ⟨c0, c1, c2, c3, c4, c5, c6, c7, c8⟩⟩ := f0
                clear hU hF
                go_simp
                exact rfl
              simp only [Act.put, List.setIfInBounds_toArray, List.set_cons_zero, List.set_cons_succ]
              with_reducible apply wpV_light
              · simp only [lightOp]
              · intro W hU hF
                have f0 := CS.out W hU
                obtain ⟨⟨e0, e1, e2, e3, e4, e5, e6, e7, e8⟩, ⟨c0, c1, c2, c3, c4, c5, c6, c7, c8⟩⟩ := f0
                clear hU hF
                go_simp
                exact rfl
              simp only [Act.put, List.setIfInBounds_toArray, List.set_cons_zero, List.set_cons_succ]
              with_reducible apply wpV_light
              · simp only [lightOp]
              · intro W hU hF
                have f0 := CS.out W hU
                obtain ⟨⟨e0, e1, e2, e3, e4, e5, e6, e7, e8⟩, ⟨c0, c1, c2, c3, c4, c5, c6, c7, c8⟩⟩ := f0
                clear hU hF
                go_simp
                exact rfl
              simp only [Act.put, List.setIfInBounds_toArray, List.set_cons_zero, List.set_cons_succ]
              with_reducible apply wpV_light
              · simp only [lightOp]
              · intro W hU hF
                have f0 := CS.out W hU
                obtain ⟨⟨e0, e1, e2, e3, e4, e5, e6, e7, e8⟩, ⟨c0, c1, c2, c3, c4, c5, c6, c7, c8⟩⟩ := f0
                clear hU hF
                go_simp
                exact rfl
              simp only [Act.put, List.setIfInBounds_toArray, List.set_cons_zero, List.set_cons_succ]
              with_reducible apply wpV_light
              · simp only [lightOp]
              · intro W hU hF
                have f0 := CS.out W hU
                obtain ⟨⟨e0, e1, e2, e3, e4, e5, e6, e7, e8⟩, ⟨c0, c1, c2, c3, c4, c5, c6, c7, c8⟩⟩ := f0
                clear hU hF
                go_simp
                exact rfl
              simp only [Act.put, List.setIfInBounds_toArray, List.set_cons_zero, List.set_cons_succ]
              with_reducible apply wpV_light
              · simp only [lightOp]
              · intro W hU hF
                have f0 := CS.out W hU
                obtain ⟨⟨e0, e1, e2, e3, e4, e5, e6, e7, e8⟩, ⟨c0, c1, c2, c3, c4, c5, c6, c7, c8⟩⟩ := f0
                clear hU hF
                go_simp
                exact rfl
              simp only [Act.put, List.setIfInBounds_toArray, List.set_cons_zero, List.set_cons_succ]
              with_reducible apply wpV_light
              · simp only [lightOp]
              · intro W hU hF
                have f0 := CS.out W hU
                obtain ⟨⟨e0, e1, e2, e3, e4, e5, e6, e7, e8⟩, ⟨c0, c1, c2, c3, c4, c5, c6, c7, c8⟩⟩ := f0
                clear hU hF
                go_simp
                exact rfl
              simp only [Act.put, List.setIfInBounds_toArray, List.set_cons_zero, List.set_cons_succ]
              with_reducible apply wpV_light
              · simp only [lightOp]
              · intro W hU hF
                have f0 := CS.out W hU
                obtain ⟨⟨e0, e1, e2, e3, e4, e5, e6, e7, e8⟩, ⟨c0, c1, c2, c3, c4, c5, c6, c7, c8⟩⟩ := f0
                clear hU hF
                go_simp
                exact rfl
              simp only [Act.put, List.setIfInBounds_toArray, List.set_cons_zero, List.set_cons_succ]
              with_reducible apply wpV_light
              · simp only [lightOp]
              · intro W hU hF
                have f0 := CS.out W hU
                obtain ⟨⟨e0, e1, e2, e3, e4, e5, e6, e7, e8⟩, ⟨c0, c1, c2, c3, c4, c5, c6, c7, c8⟩⟩ := f0
                clear hU hF
                go_simp
                exact rfl
              simp only [Act.put, List.setIfInBounds_toArray, List.set_cons_zero, List.set_cons_succ]
              with_reducible apply wpV_light
              · simp only [lightOp]
              · intro W hU hF
                have f0 := CS.out W hU
                obtain ⟨⟨e0, e1, e2, e3, e4, e5, e6, e7, e8⟩, ⟨c0, c1, c2, c3, c4, c5, c6, c7, c8⟩⟩ := f0
                clear hU hF
                go_simp
                exact rfl
              simp only [Act.put, List.setIfInBounds_toArray, List.set_cons_zero, List.set_cons_succ]
              with_reducible apply wpV_light
              · simp only [lightOp]
              · intro W hU hF
                have f0 := CS.out W hU
                obtain ⟨⟨e0, e1, e2, e3, e4, e5, e6, e7, e8⟩, ⟨c0, c1, c2, c3, c4, c5, c6, c7, c8⟩⟩ := f0
                clear hU hF
                go_simp
                exact rfl
              simp only [Act.put, List.setIfInBounds_toArray, List.set_cons_zero, List.set_cons_succ]
              with_reducible apply wpV_light
              · simp only [lightOp]
              · intro W hU hF
                have f0 := CS.out W hU
                obtain ⟨⟨e0, e1, e2, e3, e4, e5, e6, e7, e8⟩, ⟨c0, c1, c2, c3, c4, c5, c6, c7, c8⟩⟩ := f0
                clear hU hF
                go_simp
                exact rfl
              simp only [Act.put, List.setIfInBounds_toArray, List.set_cons_zero, List.set_cons_succ]


              refine wpV_end (fun W hU _ hF => ?_)
              have UX : Hid (Upd [] w W) := Lib.hid (KU.out.trans ((Upd.refl [] wk).drew.trans hU))
              clear hU hF
              refine wpT_end ?_
              go_wp2_with fail
              go_roundw
              case rel => exact ⟨k + 1, r + 1, by go_num, by go_num, by omega, by omega, HZ, UX⟩
              case measure => simp [intOf]; omega
            · have d2 : decide (x.be ≤ y.en) = false := by simpa using h2
              have HZ : Hid (cntR (L.take (k + 1)) x.be = r) := Lib.hid (by rw [HTK.out, cntR_snoc, if_neg (fun h => h2 h.2), HR.out])
              go_wp2_with fail
              refine wp_invN [] [] (by kernel_rfl) (by kernel_rfl) (by kernel_rfl) trivial ?_
              with_reducible apply wpV_light
              · simp only [lightOp]
              · intro W hU hF
                have f0 := CS.out W hU
                obtain ⟨⟨e0, e1, e2, e3, e4, e5, e6, e7, e8⟩, ⟨c0, c1, c2, c3, c4, c5, c6, c7, c8⟩⟩ := f0
                clear hU hF
                go_simp
                exact rfl
              simp only [Act.put, List.setIfInBounds_toArray, List.set_cons_zero, List.set_cons_succ]
              with_reducible apply wpV_light
              · simp only [lightOp]
              · intro W hU hF
                have f0 := CS.out W hU
                obtain ⟨⟨e0, e1, e2, e3, e4, e5, e6, e7, e8⟩, ⟨c0, c1, c2, c3, c4, c5, c6, c7, c8⟩⟩ := f0
                clear hU hF
                go_simp
                exact rfl
              simp only [Act.put, List.setIfInBounds_toArray, List.set_cons_zero, List.set_cons_succ]
              with_reducible apply wpV_light
              · simp only [lightOp]
              · intro W hU hF
                have f0 := CS.out W hU
                obtain ⟨⟨e0, e1, e2, e3, e4, e5, e6, e7, e8⟩, ⟨c0, c1, c2, c3, c4, c5, c6, c7, c8⟩⟩ := f0
                clear hU hF
                go_simp
                exact rfl
              simp only [Act.put, List.setIfInBounds_toArray, List.set_cons_zero, List.set_cons_succ]
              with_reducible apply wpV_light
              · simp only [lightOp]
              · intro W hU hF
                have f0 := CS.out W hU
                obtain ⟨⟨e0, e1, e2, e3, e4, e5, e6, e7, e8⟩, ⟨c0, c1, c2, c3, c4, c5, c6, c7, c8⟩⟩ := f0
                clear hU hF
                go_simp
                exact rfl
              simp only [Act.put, List.setIfInBounds_toArray, List.set_cons_zero, List.set_cons_succ]
              with_reducible apply wpV_light
              · simp only [lightOp]
              · intro W hU hF
                have f0 := CS.out W hU
                obtain ⟨⟨e0, e1, e2, e3, e4, e5, e6, e7, e8⟩, ⟨c0, c1, c2, c3, c4, c5, c6, c7, c8⟩⟩ := f0
                clear hU hF
                go_simp
                exact rfl
              simp only [Act.put, List.setIfInBounds_toArray, List.set_cons_zero, List.set_cons_succ]
              with_reducible apply wpV_light
              · simp only [lightOp]
              · intro W hU hF
                have f0 := CS.out W hU
                obtain ⟨⟨e0, e1, e2, e3, e4, e5, e6, e7, e8⟩, ⟨c0, c1, c2, c3, c4, c5, c6, c7, c8⟩⟩ := f0
                clear hU hF
                go_simp
                exact rfl
              simp only [Act.put, List.setIfInBounds_toArray, List.set_cons_zero, List.set_cons_succ]
              with_reducible apply wpV_light
              · simp only [lightOp]
              · intro W hU hF
                have f0 := CS.out W hU
                obtain ⟨⟨e0, e1, e2, e3, e4, e5, e6, e7, e8⟩, ⟨c0, c1, c2, c3, c4, c5, c6, c7, c8⟩⟩ := f0
                clear hU hF
                go_simp
                exact rfl
              simp only [Act.put, List.setIfInBounds_toArray, List.set_cons_zero, List.set_cons_succ]
              with_reducible apply wpV_light
              · simp only [lightOp]
              · intro W hU hF
                have f0 := CS.out W hU
                obtain ⟨⟨e0, e1, e2, e3, e4, e5, e6, e7, e8⟩, ⟨c0, c1, c2, c3, c4, c5, c6, c7, c8⟩⟩ := f0
                clear hU hF
                go_simp
                exact rfl
              simp only [Act.put, List.setIfInBounds_toArray, List.set_cons_zero, List.set_cons_succ]
              with_reducible apply wpV_light
              · simp only [lightOp]
              · intro W hU hF
                have f0 := CS.out W hU
                obtain ⟨⟨e0, e1, e2, e3, e4, e5, e6, e7, e8⟩, ⟨c0, c1, c2, c3, c4, c5, c6, c7, c8⟩⟩ := f0
                clear hU hF
                go_simp
                exact rfl
              simp only [Act.put, List.setIfInBounds_toArray, List.set_cons_zero, List.set_cons_succ]
              with_reducible apply wpV_light
              · simp only [lightOp]
              · intro W hU hF
                have f0 := CS.out W hU
                obtain ⟨⟨e0, e1, e2, e3, e4, e5, e6, e7, e8⟩, ⟨c0, c1, c2, c3, c4, c5, c6, c7, c8⟩⟩ := f0
                clear hU hF
                go_simp
                exact rfl
              simp only [Act.put, List.setIfInBounds_toArray, List.set_cons_zero, List.set_cons_succ]
              with_reducible apply wpV_light
              · simp only [lightOp]
              · intro W hU hF
                have f0 := CS.out W hU
                obtain ⟨⟨e0, e1, e2, e3, e4, e5, e6, e7, e8⟩, ⟨c0, c1, c2, c3, c4, c5, c6, c7, c8⟩⟩ := f0
                clear hU hF
                go_simp
                exact rfl
              simp only [Act.put, List.setIfInBounds_toArray, List.set_cons_zero, List.set_cons_succ]
              with_reducible apply wpV_light
              · simp only [lightOp]
              · intro W hU hF
                have f0 := CS.out W hU
                obtain ⟨⟨e0, e1, e2, e3, e4, e5, e6, e7, e8⟩, ⟨c0, c1, c2, c3, c4, c5, c6, c7, c8⟩⟩ := f0
                clear hU hF
                go_simp
                exact rfl
              simp only [Act.put, List.setIfInBounds_toArray, List.set_cons_zero, List.set_cons_succ]
              with_reducible apply wpV_light
              · simp only [lightOp]
              · intro W hU hF
                have f0 := CS.out W hU
                obtain ⟨⟨e0, e1, e2, e3, e4, e5, e6, e7, e8⟩, ⟨c0, c1, c2, c3, c4, c5, c6, c7, c8⟩⟩ := f0
                clear hU hF
                go_simp
                exact rfl
              simp only [Act.put, List.setIfInBounds_toArray, List.set_cons_zero, List.set_cons_succ]
              with_reducible apply wpV_light
              · simp only [lightOp]
              · intro W hU hF
                have f0 := CS.out W hU
                obtain ⟨⟨e0, e1, e2, e3, e4, e5, e6, e7, e8⟩, ⟨c0, c1, c2, c3, c4, c5, c6, c7, c8⟩⟩ := f0
                clear hU hF
                go_simp
                exact rfl
              simp only [Act.put, List.setIfInBounds_toArray, List.set_cons_zero, List.set_cons_succ]
              with_reducible apply wpV_light
              · simp only [lightOp]
              · intro W hU hF
                have f0 := CS.out W hU
                obtain ⟨⟨e0, e1, e2, e3, e4, e5, e6, e7, e8⟩, ⟨c0, c1, c2, c3, c4, c5, c6, c7, c8⟩⟩ := f0
                clear hU hF
                go_simp
                exact rfl
              simp only [Act.put, List.setIfInBounds_toArray, List.set_cons_zero, List.set_cons_succ]
              with_reducible apply wpV_light
              · simp only [lightOp]
              · intro W hU hF
                have f0 := CS.out W hU
                obtain ⟨⟨e0, e1, e2, e3, e4, e5, e6, e7, e8⟩, ⟨c0, c1, c2, c3, c4, c5, c6, c7, c8⟩⟩ := f0
                clear hU hF
                go_simp
                exact rfl
              simp only [Act.put, List.setIfInBounds_toArray, List.set_cons_zero, List.set_cons_succ]
              with_reducible apply wpV_light
              · simp only [lightOp]
              · intro W hU hF
                have f0 := CS.out W hU
                obtain ⟨⟨e0, e1, e2, e3, e4, e5, e6, e7, e8⟩, ⟨c0, c1, c2, c3, c4, c5, c6, c7, c8⟩⟩ := f0
                clear hU hF
                go_simp
                exact rfl
              simp only [Act.put, List.setIfInBounds_toArray, List.set_cons_zero, List.set_cons_succ]
              with_reducible apply wpV_light
              · simp only [lightOp]
              · intro W hU hF
                have f0 := CS.out W hU
                obtain ⟨⟨e0, e1, e2, e3, e4, e5, e6, e7, e8⟩, ⟨c0, c1, c2, c3, c4, c5, c6, c7, c8⟩⟩ := f0
                clear hU hF
                go_simp
                exact rfl
              simp only [Act.put, List.setIfInBounds_toArray, List.set_cons_zero, List.set_cons_succ]
              with_reducible apply wpV_light
              · simp only [lightOp]
              · intro W hU hF
                have f0 := CS.out W hU
                obtain ⟨⟨e0, e1, e2, e3, e4, e5, e6, e7, e8⟩, ⟨c0, c1, c2, c3, c4, c5, c6, c7, c8⟩⟩ := f0
                clear hU hF
                go_simp
                exact rfl
              simp only [Act.put, List.setIfInBounds_toArray, List.set_cons_zero, List.set_cons_succ]
              with_reducible apply wpV_light
              · simp only [lightOp]
              · intro W hU hF
                have f0 := CS.out W hU
                obtain ⟨⟨e0, e1, e2, e3, e4, e5, e6, e7, e8⟩, ⟨c0, c1, c2, c3, c4, c5, c6, c7, c8⟩⟩ := f0
                clear hU hF
                go_simp
                exact rfl
              simp only [Act.put, List.setIfInBounds_toArray, List.set_cons_zero, List.set_cons_succ]
              with_reducible apply wpV_light
              · simp only [lightOp]
              · intro W hU hF
                have f0 := CS.out W hU
                obtain ⟨⟨e0, e1, e2, e3, e4, e5, e6, e7, e8⟩, ⟨c0, c1, c2, c3, c4, c5, c6, c7, c8⟩⟩ := f0
                clear hU hF
                go_simp
                exact rfl
              simp only [Act.put, List.setIfInBounds_toArray, List.set_cons_zero, List.set_cons_succ]
              with_reducible apply wpV_light
              · simp only [lightOp]
              · intro W hU hF
                have f0 := CS.out W hU
                obtain ⟨⟨e0, e1, e2, e3, e4, e5, e6, e7, e8⟩, ⟨c0, c1, c2, c3, c4, c5, c6, c7, c8⟩⟩ := f0
                clear hU hF
                go_simp
                exact rfl
              simp only [Act.put, List.setIfInBounds_toArray, List.set_cons_zero, List.set_cons_succ]
              with_reducible apply wpV_light
              · simp only [lightOp]
              · intro W hU hF
                have f0 := CS.out W hU
                obtain ⟨⟨e0, e1, e2, e3, e4, e5, e6, e7, e8⟩, ⟨c0, c1, c2, c3, c4, c5, c6, c7, c8⟩⟩ := f0
                clear hU hF
                go_simp
                exact rfl
              simp only [Act.put, List.setIfInBounds_toArray, List.set_cons_zero, List.set_cons_succ]
              with_reducible apply wpV_light
              · simp only [lightOp]
              · intro W hU hF
                have f0 := CS.out W hU
                obtain ⟨⟨e0, e1, e2, e3, e4, e5, e6, e7, e8⟩, ⟨c0, c1, c2, c3, c4, c5, c6, c7, c8⟩⟩ := f0
                clear hU hF
                go_simp
                exact rfl
              simp only [Act.put, List.setIfInBounds_toArray, List.set_cons_zero, List.set_cons_succ]
              with_reducible apply wpV_light
              · simp only [lightOp]
              · intro W hU hF
                have f0 := CS.out W hU
                obtain ⟨⟨e0, e1, e2, e3, e4, e5, e6, e7, e8⟩, ⟨c0, c1, c2, c3, c4, c5, c6, c7, c8⟩⟩ := f0
                clear hU hF
                go_simp
                exact rfl
              simp only [Act.put, List.setIfInBounds_toArray, List.set_cons_zero, List.set_cons_succ]
              with_reducible apply wpV_light
              · simp only [lightOp]
              · intro W hU hF
                have f0 := CS.out W hU
                obtain ⟨⟨e0, e1, e2, e3, e4, e5, e6, e7, e8⟩, ⟨c0, c1, c2, c3, c4, c5, c6, c7, c8⟩⟩ := f0
                clear hU hF
                go_simp
                exact rfl
              simp only [Act.put, List.setIfInBounds_toArray, List.set_cons_zero, List.set_cons_succ]
              with_reducible apply wpV_light
              · simp only [lightOp]
              · intro W hU hF
                have f0 := CS.out W hU
                obtain ⟨⟨e0, e1, e2, e3, e4, e5, e6, e7, e8⟩, ⟨c0, c1, c2, c3, c4, c5, c6, c7, c8⟩⟩ := f0
                clear hU hF
                go_simp
                exact rfl
              simp only [Act.put, List.setIfInBounds_toArray, List.set_cons_zero, List.set_cons_succ]
              with_reducible apply wpV_light
              · simp only [lightOp]
              · intro W hU hF
                have f0 := CS.out W hU
                obtain ⟨⟨e0, e1, e2, e3, e4, e5, e6, e7, e8⟩, ⟨c0, c1, c2, c3, c4, c5, c6, c7, c8⟩⟩ := f0
                clear hU hF
                go_simp
                exact rfl
              simp only [Act.put, List.setIfInBounds_toArray, List.set_cons_zero, List.set_cons_succ]


              refine wpV_end (fun W hU _ hF => ?_)
              have UX : Hid (Upd [] w W) := Lib.hid (KU.out.trans ((Upd.refl [] wk).drew.trans hU))
              clear hU hF
              refine wpT_end ?_
              go_wp2_with fail
              go_roundw
              case rel => exact ⟨k + 1, r, by go_num, by go_num, by omega, by omega, HZ, UX⟩
              case measure => simp [intOf]; omega
          · have d1 : decide (y.be ≤ x.be) = false := by simpa using h1
            have HZ : Hid (cntR (L.take (k + 1)) x.be = r) := Lib.hid (by rw [HTK.out, cntR_snoc, if_neg (fun h => h1 h.1), HR.out])
            go_wp2_with fail
            refine wp_invN [] [] (by kernel_rfl) (by kernel_rfl) (by kernel_rfl) trivial ?_
            with_reducible apply wpV_light
            · simp only [lightOp]
            · intro W hU hF
              have f0 := CS.out W hU
              obtain ⟨⟨e0, e1, e2, e3, e4, e5, e6, e7, e8⟩, ⟨c0, c1, c2, c3, c4, c5, c6, c7, c8⟩⟩ := f0
              clear hU hF
              go_simp
              exact rfl
            simp only [Act.put, List.setIfInBounds_toArray, List.set_cons_zero, List.set_cons_succ]
            with_reducible apply wpV_light
            · simp only [lightOp]
            · intro W hU hF
              have f0 := CS.out W hU
              obtain ⟨⟨e0, e1, e2, e3, e4, e5, e6, e7, e8⟩, ⟨c0, c1, c2, c3, c4, c5, c6, c7, c8⟩⟩ := f0
              clear hU hF
              go_simp
              exact rfl
            simp only [Act.put, List.setIfInBounds_toArray, List.set_cons_zero, List.set_cons_succ]
            with_reducible apply wpV_light
            · simp only [lightOp]
            · intro W hU hF
              have f0 := CS.out W hU
              obtain ⟨⟨e0, e1, e2, e3, e4, e5, e6, e7, e8⟩, ⟨c0, c1, c2, c3, c4, c5, c6, c7, c8⟩⟩ := f0
              clear hU hF
              go_simp
              exact rfl
            simp only [Act.put, List.setIfInBounds_toArray, List.set_cons_zero, List.set_cons_succ]
            with_reducible apply wpV_light
            · simp only [lightOp]
            · intro W hU hF
              have f0 := CS.out W hU
              obtain ⟨⟨e0, e1, e2, e3, e4, e5, e6, e7, e8⟩, ⟨c0, c1, c2, c3, c4, c5, c6, c7, c8⟩⟩ := f0
              clear hU hF
              go_simp
              exact rfl
            simp only [Act.put, List.setIfInBounds_toArray, List.set_cons_zero, List.set_cons_succ]
            with_reducible apply wpV_light
            · simp only [lightOp]
            · intro W hU hF
              have f0 := CS.out W hU
              obtain ⟨⟨e0, e1, e2, e3, e4, e5, e6, e7, e8⟩, ⟨c0, c1, c2, c3, c4, c5, c6, c7, c8⟩⟩ := f0
              clear hU hF
              go_simp
              exact rfl
            simp only [Act.put, List.setIfInBounds_toArray, List.set_cons_zero, List.set_cons_succ]
            with_reducible apply wpV_light
            · simp only [lightOp]
            · intro W hU hF
              have f0 := CS.out W hU
              obtain ⟨⟨e0, e1, e2, e3, e4, e5, e6, e7, e8⟩, ⟨c0, c1, c2, c3, c4, c5, c6, c7, c8⟩⟩ := f0
              clear hU hF
              go_simp
              exact rfl
            simp only [Act.put, List.setIfInBounds_toArray, List.set_cons_zero, List.set_cons_succ]
            with_reducible apply wpV_light
            · simp only [lightOp]
            · intro W hU hF
              have f0 := CS.out W hU
              obtain ⟨⟨e0, e1, e2, e3, e4, e5, e6, e7, e8⟩, ⟨c0, c1, c2, c3, c4, c5, c6, c7, c8⟩⟩ := f0
              clear hU hF
              go_simp
              exact rfl
            simp only [Act.put, List.setIfInBounds_toArray, List.set_cons_zero, List.set_cons_succ]
            with_reducible apply wpV_light
            · simp only [lightOp]
            · intro W hU hF
              have f0 := CS.out W hU
              obtain ⟨⟨e0, e1, e2, e3, e4, e5, e6, e7, e8⟩, ⟨c0, c1, c2, c3, c4, c5, c6, c7, c8⟩⟩ := f0
              clear hU hF
              go_simp
              exact rfl
            simp only [Act.put, List.setIfInBounds_toArray, List.set_cons_zero, List.set_cons_succ]
            with_reducible apply wpV_light
            · simp only [lightOp]
            · intro W hU hF
              have f0 := CS.out W hU
              obtain ⟨⟨e0, e1, e2, e3, e4, e5, e6, e7, e8⟩, ⟨c0, c1, c2, c3, c4, c5, c6, c7, c8⟩⟩ := f0
              clear hU hF
              go_simp
              exact rfl
            simp only [Act.put, List.setIfInBounds_toArray, List.set_cons_zero, List.set_cons_succ]
            with_reducible apply wpV_light
            · simp only [lightOp]
            · intro W hU hF
              have f0 := CS.out W hU
              obtain ⟨⟨e0, e1, e2, e3, e4, e5, e6, e7, e8⟩, ⟨c0, c1, c2, c3, c4, c5, c6, c7, c8⟩⟩ := f0
              clear hU hF
              go_simp
              exact rfl
            simp only [Act.put, List.setIfInBounds_toArray, List.set_cons_zero, List.set_cons_succ]
            with_reducible apply wpV_light
            · simp only [lightOp]
            · intro W hU hF
              have f0 := CS.out W hU
              obtain ⟨⟨e0, e1, e2, e3, e4, e5, e6, e7, e8⟩, ⟨c0, c1, c2, c3, c4, c5, c6, c7, c8⟩⟩ := f0
              clear hU hF
              go_simp
              exact rfl
            simp only [Act.put, List.setIfInBounds_toArray, List.set_cons_zero, List.set_cons_succ]
            with_reducible apply wpV_light
            · simp only [lightOp]
            · intro W hU hF
              have f0 := CS.out W hU
              obtain ⟨⟨e0, e1, e2, e3, e4, e5, e6, e7, e8⟩, ⟨c0, c1, c2, c3, c4, c5, c6, c7, c8⟩⟩ := f0
              clear hU hF
              go_simp
              exact rfl
            simp only [Act.put, List.setIfInBounds_toArray, List.set_cons_zero, List.set_cons_succ]
            with_reducible apply wpV_light
            · simp only [lightOp]
            · intro W hU hF
              have f0 := CS.out W hU
              obtain ⟨⟨e0, e1, e2, e3, e4, e5, e6, e7, e8⟩, ⟨c0, c1, c2, c3, c4, c5, c6, c7, c8⟩⟩ := f0
              clear hU hF
              go_simp
              exact rfl
            simp only [Act.put, List.setIfInBounds_toArray, List.set_cons_zero, List.set_cons_succ]
            with_reducible apply wpV_light
            · simp only [lightOp]
            · intro W hU hF
              have f0 := CS.out W hU
              obtain ⟨⟨e0, e1, e2, e3, e4, e5, e6, e7, e8⟩, ⟨c0, c1, c2, c3, c4, c5, c6, c7, c8⟩⟩ := f0
              clear hU hF
              go_simp
              exact rfl
            simp only [Act.put, List.setIfInBounds_toArray, List.set_cons_zero, List.set_cons_succ]
            refine wpV_skip (by rfl) (by simp only [lightOp]) ?_
            simp only [Act.put, List.setIfInBounds_toArray, List.set_cons_zero, List.set_cons_succ]
            refine wpV_skip (by rfl) (by simp only [lightOp]) ?_
            simp only [Act.put, List.setIfInBounds_toArray, List.set_cons_zero, List.set_cons_succ]
            refine wpV_skip (by rfl) (by simp only [lightOp]) ?_
            simp only [Act.put, List.setIfInBounds_toArray, List.set_cons_zero, List.set_cons_succ]
            refine wpV_skip (by rfl) (by simp only [lightOp]) ?_
            simp only [Act.put, List.setIfInBounds_toArray, List.set_cons_zero, List.set_cons_succ]
            refine wpV_skip (by rfl) (by simp only [lightOp]) ?_
            simp only [Act.put, List.setIfInBounds_toArray, List.set_cons_zero, List.set_cons_succ]
            refine wpV_skip (by rfl) (by simp only [lightOp]) ?_
            simp only [Act.put, List.setIfInBounds_toArray, List.set_cons_zero, List.set_cons_succ]
            refine wpV_skip (by rfl) (by simp only [lightOp]) ?_
            simp only [Act.put, List.setIfInBounds_toArray, List.set_cons_zero, List.set_cons_succ]
            refine wpV_skip (by rfl) (by simp only [lightOp]) ?_
            simp only [Act.put, List.setIfInBounds_toArray, List.set_cons_zero, List.set_cons_succ]
            refine wpV_skip (by rfl) (by simp only [lightOp]) ?_
            simp only [Act.put, List.setIfInBounds_toArray, List.set_cons_zero, List.set_cons_succ]
            refine wpV_skip (by rfl) (by simp only [lightOp]) ?_
            simp only [Act.put, List.setIfInBounds_toArray, List.set_cons_zero, List.set_cons_succ]
            refine wpV_skip (by rfl) (by simp only [lightOp]) ?_
            simp only [Act.put, List.setIfInBounds_toArray, List.set_cons_zero, List.set_cons_succ]
            refine wpV_skip (by rfl) (by simp only [lightOp]) ?_
            simp only [Act.put, List.setIfInBounds_toArray, List.set_cons_zero, List.set_cons_succ]
            refine wpV_skip (by rfl) (by simp only [lightOp]) ?_
            simp only [Act.put, List.setIfInBounds_toArray, List.set_cons_zero, List.set_cons_succ]
            with_reducible apply wpV_light
            · simp only [lightOp]
            · intro W hU hF
              have f0 := CS.out W hU
              obtain ⟨⟨e0, e1, e2, e3, e4, e5, e6, e7, e8⟩, ⟨c0, c1, c2, c3, c4, c5, c6, c7, c8⟩⟩ := f0
              clear hU hF
              go_simp
              exact rfl
            simp only [Act.put, List.setIfInBounds_toArray, List.set_cons_zero, List.set_cons_succ]
            refine wpV_end (fun W hU _ hF => ?_)
            have UX : Hid (Upd [] w W) := Lib.hid (KU.out.trans ((Upd.refl [] wk).drew.trans hU))
            clear hU hF
            refine wpT_end ?_
            go_wp2_with fail
            go_roundw
            case rel => exact ⟨k + 1, r, by go_num, by go_num, by omega, by omega, HZ, UX⟩
            case measure => simp [intOf]; omega
        · obtain rfl : k = n := by omega
          have HRA : Hid (cntR L x.be = r) := Lib.hid (by rw [← HR.out, List.take_of_length_le (by rw [HN.out]; exact Nat.le_refl _)])
          have CS : Hid (∀ W, Upd [] wk.drew W → EnAt W (ad.add (i * 9)) x ∧ EnAt W (ad.add (i * 9)) x) := Lib.hid (fun W hW => ⟨en_all (H.out.upd0 KU.out) HX.out W hW, en_all (H.out.upd0 KU.out) HX.out W hW⟩)
          by_cases h1 : x.be ≤ x.en
          · have d1 : decide (x.be ≤ x.en) = true := by simpa using h1
            by_cases h2 : m < (r : Int)
            · have d2 : decide (m < (r : Int)) = true := by simpa using h2
              have HZ : Hid (overK L (L.take (i + 1)) = r) := Lib.hid (by rw [HTI.out, overK_snoc, HRA.out, HM.out, if_pos ⟨h1, h2⟩])
              go_wp2_with fail
              refine wp_invN [] [] (by kernel_rfl) (by kernel_rfl) (by kernel_rfl) trivial ?_
              with_reducible apply wpV_light
              · simp only [lightOp]
              · intro W hU hF
                have f0 := CS.out W hU
                obtain ⟨⟨e0, e1, e2, e3, e4, e5, e6, e7, e8⟩, ⟨c0, c1, c2, c3, c4, c5, c6, c7, c8⟩⟩ := f0
                clear hU hF
                go_simp
                exact rfl
              simp only [Act.put, List.setIfInBounds_toArray, List.set_cons_zero, List.set_cons_succ]
              with_reducible apply wpV_light
              · simp only [lightOp]
              · intro W hU hF
                have f0 := CS.out W hU
                obtain ⟨⟨e0, e1, e2, e3, e4, e5, e6, e7, e8⟩, ⟨c0, c1, c2, c3, c4, c5, c6, c7, c8⟩⟩ := f0
                clear hU hF
                go_simp
                exact rfl
              simp only [Act.put, List.setIfInBounds_toArray, List.set_cons_zero, List.set_cons_succ]
              with_reducible apply wpV_light
              · simp only [lightOp]
              · intro W hU hF
                have f0 := CS.out W hU
                obtain ⟨⟨e0, e1, e2, e3, e4, e5, e6, e7, e8⟩, ⟨c0, c1, c2, c3, c4, c5, c6, c7, c8⟩⟩ := f0
                clear hU hF
                go_simp
                exact rfl
              simp only [Act.put, List.setIfInBounds_toArray, List.set_cons_zero, List.set_cons_succ]
              with_reducible apply wpV_light
              · simp only [lightOp]
              · intro W hU hF
                have f0 := CS.out W hU
                obtain ⟨⟨e0, e1, e2, e3, e4, e5, e6, e7, e8⟩, ⟨c0, c1, c2, c3, c4, c5, c6, c7, c8⟩⟩ := f0
                clear hU hF
                go_simp
                exact rfl
              simp only [Act.put, List.setIfInBounds_toArray, List.set_cons_zero, List.set_cons_succ]
              with_reducible apply wpV_light
              · simp only [lightOp]
              · intro W hU hF
                have f0 := CS.out W hU
                obtain ⟨⟨e0, e1, e2, e3, e4, e5, e6, e7, e8⟩, ⟨c0, c1, c2, c3, c4, c5, c6, c7, c8⟩⟩ := f0
                clear hU hF
                go_simp
                exact rfl
              simp only [Act.put, List.setIfInBounds_toArray, List.set_cons_zero, List.set_cons_succ]
              with_reducible apply wpV_light
              · simp only [lightOp]
              · intro W hU hF
                have f0 := CS.out W hU
                obtain ⟨⟨e0, e1, e2, e3, e4, e5, e6, e7, e8⟩, ⟨c0, c1, c2, c3, c4, c5, c6, c7, c8⟩⟩ := f0
                clear hU hF
                go_simp
                exact rfl
              simp only [Act.put, List.setIfInBounds_toArray, List.set_cons_zero, List.set_cons_succ]
              with_reducible apply wpV_light
              · simp only [lightOp]
              · intro W hU hF
                have f0 := CS.out W hU
                obtain ⟨⟨e0, e1, e2, e3, e4, e5, e6, e7, e8⟩, ⟨c0, c1, c2, c3, c4, c5, c6, c7, c8⟩⟩ := f0
                clear hU hF
                go_simp
                exact rfl
              simp only [Act.put, List.setIfInBounds_toArray, List.set_cons_zero, List.set_cons_succ]
              with_reducible apply wpV_light
              · simp only [lightOp]
              · intro W hU hF
                have f0 := CS.out W hU
                obtain ⟨⟨e0, e1, e2, e3, e4, e5, e6, e7, e8⟩, ⟨c0, c1, c2, c3, c4, c5, c6, c7, c8⟩⟩ := f0
                clear hU hF
                go_simp
                exact rfl
              simp only [Act.put, List.setIfInBounds_toArray, List.set_cons_zero, List.set_cons_succ]
              with_reducible apply wpV_light
              · simp only [lightOp]
              · intro W hU hF
                have f0 := CS.out W hU
                obtain ⟨⟨e0, e1, e2, e3, e4, e5, e6, e7, e8⟩, ⟨c0, c1, c2, c3, c4, c5, c6, c7, c8⟩⟩ := f0
                clear hU hF
                go_simp
                exact rfl
              simp only [Act.put, List.setIfInBounds_toArray, List.set_cons_zero, List.set_cons_succ]
              with_reducible apply wpV_light
              · simp only [lightOp]
              · intro W hU hF
                have f0 := CS.out W hU
                obtain ⟨⟨e0, e1, e2, e3, e4, e5, e6, e7, e8⟩, ⟨c0, c1, c2, c3, c4, c5, c6, c7, c8⟩⟩ := f0
                clear hU hF
                go_simp
                exact rfl
              simp only [Act.put, List.setIfInBounds_toArray, List.set_cons_zero, List.set_cons_succ]
              with_reducible apply wpV_light
              · simp only [lightOp]
              · intro W hU hF
                have f0 := CS.out W hU
                obtain ⟨⟨e0, e1, e2, e3, e4, e5, e6, e7, e8⟩, ⟨c0, c1, c2, c3, c4, c5, c6, c7, c8⟩⟩ := f0
                clear hU hF
                go_simp
                exact rfl
              simp only [Act.put, List.setIfInBounds_toArray, List.set_cons_zero, List.set_cons_succ]
              with_reducible apply wpV_light
              · simp only [lightOp]
              · intro W hU hF
                have f0 := CS.out W hU
                obtain ⟨⟨e0, e1, e2, e3, e4, e5, e6, e7, e8⟩, ⟨c0, c1, c2, c3, c4, c5, c6, c7, c8⟩⟩ := f0
                clear hU hF
                go_simp
                exact rfl
              simp only [Act.put, List.setIfInBounds_toArray, List.set_cons_zero, List.set_cons_succ]
              with_reducible apply wpV_light
              · simp only [lightOp]
              · intro W hU hF
                have f0 := CS.out W hU
                obtain ⟨⟨e0, e1, e2, e3, e4, e5, e6, e7, e8⟩, ⟨c0, c1, c2, c3, c4, c5, c6, c7, c8⟩⟩ := f0
                clear hU hF
                go_simp
                exact rfl
              simp only [Act.put, List.setIfInBounds_toArray, List.set_cons_zero, List.set_cons_succ]
              with_reducible apply wpV_light
              · simp only [lightOp]
              · intro W hU hF
                have f0 := CS.out W hU
                obtain ⟨⟨e0, e1, e2, e3, e4, e5, e6, e7, e8⟩, ⟨c0, c1, c2, c3, c4, c5, c6, c7, c8⟩⟩ := f0
                clear hU hF
                go_simp
                exact rfl
              simp only [Act.put, List.setIfInBounds_toArray, List.set_cons_zero, List.set_cons_succ]
              with_reducible apply wpV_light
              · simp only [lightOp]
              · intro W hU hF
                have f0 := CS.out W hU
                obtain ⟨⟨e0, e1, e2, e3, e4, e5, e6, e7, e8⟩, ⟨c0, c1, c2, c3, c4, c5, c6, c7, c8⟩⟩ := f0
                clear hU hF
                go_simp
                exact rfl
              simp only [Act.put, List.setIfInBounds_toArray, List.set_cons_zero, List.set_cons_succ]
              with_reducible apply wpV_light
              · simp only [lightOp]
              · intro W hU hF
                have f0 := CS.out W hU
                obtain ⟨⟨e0, e1, e2, e3, e4, e5, e6, e7, e8⟩, ⟨c0, c1, c2, c3, c4, c5, c6, c7, c8⟩⟩ := f0
                clear hU hF
                go_simp
                exact rfl
              simp only [Act.put, List.setIfInBounds_toArray, List.set_cons_zero, List.set_cons_succ]
              with_reducible apply wpV_light
              · simp only [lightOp]
              · intro W hU hF
                have f0 := CS.out W hU
                obtain ⟨⟨e0, e1, e2, e3, e4, e5, e6, e7, e8⟩, ⟨c0, c1, c2, c3, c4, c5, c6, c7, c8⟩⟩ := f0
                clear hU hF
                go_simp
                exact rfl
              simp only [Act.put, List.setIfInBounds_toArray, List.set_cons_zero, List.set_cons_succ]
              with_reducible apply wpV_light
              · simp only [lightOp]
              · intro W hU hF
                have f0 := CS.out W hU
                obtain ⟨⟨e0, e1, e2, e3, e4, e5, e6, e7, e8⟩, ⟨c0, c1, c2, c3, c4, c5, c6, c7, c8⟩⟩ := f0
                clear hU hF
                go_simp
                exact rfl
              simp only [Act.put, List.setIfInBounds_toArray, List.set_cons_zero, List.set_cons_succ]


              refine wpV_end (fun W hU _ hF => ?_)
              have UX : Hid (Upd [] w W) := Lib.hid (KU.out.trans ((Upd.refl [] wk).drew.trans hU))
              clear hU hF
              refine wpT_end ?_
              go_wp2_with fail
              go_roundw
              case rel => exact ⟨i + 1, r, by go_num, by go_num, by omega, HZ, UX⟩
              case measure => simp [intOf]; omega
            · have d2 : decide (m < (r : Int)) = false := by simpa using h2
              have HZ : Hid (overK L (L.take (i + 1)) = m) := Lib.hid (by rw [HTI.out, overK_snoc, HRA.out, HM.out, if_neg (fun h => h2 h.2)])
              go_wp2_with fail
              refine wp_invN [] [] (by kernel_rfl) (by kernel_rfl) (by kernel_rfl) trivial ?_
              with_reducible apply wpV_light
              · simp only [lightOp]
              · intro W hU hF
                have f0 := CS.out W hU
                obtain ⟨⟨e0, e1, e2, e3, e4, e5, e6, e7, e8⟩, ⟨c0, c1, c2, c3, c4, c5, c6, c7, c8⟩⟩ := f0
                clear hU hF
                go_simp
                exact rfl
              simp only [Act.put, List.setIfInBounds_toArray, List.set_cons_zero, List.set_cons_succ]
              with_reducible apply wpV_light
              · simp only [lightOp]
              · intro W hU hF
                have f0 := CS.out W hU
                obtain ⟨⟨e0, e1, e2, e3, e4, e5, e6, e7, e8⟩, ⟨c0, c1, c2, c3, c4, c5, c6, c7, c8⟩⟩ := f0
                clear hU hF
                go_simp
                exact rfl
              simp only [Act.put, List.setIfInBounds_toArray, List.set_cons_zero, List.set_cons_succ]
              with_reducible apply wpV_light
              · simp only [lightOp]
              · intro W hU hF
                have f0 := CS.out W hU
                obtain ⟨⟨e0, e1, e2, e3, e4, e5, e6, e7, e8⟩, ⟨c0, c1, c2, c3, c4, c5, c6, c7, c8⟩⟩ := f0
                clear hU hF
                go_simp
                exact rfl
              simp only [Act.put, List.setIfInBounds_toArray, List.set_cons_zero, List.set_cons_succ]
              with_reducible apply wpV_light
              · simp only [lightOp]
              · intro W hU hF
                have f0 := CS.out W hU
                obtain ⟨⟨e0, e1, e2, e3, e4, e5, e6, e7, e8⟩, ⟨c0, c1, c2, c3, c4, c5, c6, c7, c8⟩⟩ := f0
                clear hU hF
                go_simp
                exact rfl
              simp only [Act.put, List.setIfInBounds_toArray, List.set_cons_zero, List.set_cons_succ]
              with_reducible apply wpV_light
              · simp only [lightOp]
              · intro W hU hF
                have f0 := CS.out W hU
                obtain ⟨⟨e0, e1, e2, e3, e4, e5, e6, e7, e8⟩, ⟨c0, c1, c2, c3, c4, c5, c6, c7, c8⟩⟩ := f0
                clear hU hF
                go_simp
                exact rfl
              simp only [Act.put, List.setIfInBounds_toArray, List.set_cons_zero, List.set_cons_succ]
              with_reducible apply wpV_light
              · simp only [lightOp]
              · intro W hU hF
                have f0 := CS.out W hU
                obtain ⟨⟨e0, e1, e2, e3, e4, e5, e6, e7, e8⟩, ⟨c0, c1, c2, c3, c4, c5, c6, c7, c8⟩⟩ := f0
                clear hU hF
                go_simp
                exact rfl
              simp only [Act.put, List.setIfInBounds_toArray, List.set_cons_zero, List.set_cons_succ]
              with_reducible apply wpV_light
              · simp only [lightOp]
              · intro W hU hF
                have f0 := CS.out W hU
                obtain ⟨⟨e0, e1, e2, e3, e4, e5, e6, e7, e8⟩, ⟨c0, c1, c2, c3, c4, c5, c6, c7, c8⟩⟩ := f0
                clear hU hF
                go_simp
                exact rfl
              simp only [Act.put, List.setIfInBounds_toArray, List.set_cons_zero, List.set_cons_succ]
              with_reducible apply wpV_light
              · simp only [lightOp]
              · intro W hU hF
                have f0 := CS.out W hU
                obtain ⟨⟨e0, e1, e2, e3, e4, e5, e6, e7, e8⟩, ⟨c0, c1, c2, c3, c4, c5, c6, c7, c8⟩⟩ := f0
                clear hU hF
                go_simp
                exact rfl
              simp only [Act.put, List.setIfInBounds_toArray, List.set_cons_zero, List.set_cons_succ]
              with_reducible apply wpV_light
              · simp only [lightOp]
              · intro W hU hF
                have f0 := CS.out W hU
                obtain ⟨⟨e0, e1, e2, e3, e4, e5, e6, e7, e8⟩, ⟨c0, c1, c2, c3, c4, c5, c6, c7, c8⟩⟩ := f0
                clear hU hF
                go_simp
                exact rfl
              simp only [Act.put, List.setIfInBounds_toArray, List.set_cons_zero, List.set_cons_succ]
              with_reducible apply wpV_light
              · simp only [lightOp]
              · intro W hU hF
                have f0 := CS.out W hU
                obtain ⟨⟨e0, e1, e2, e3, e4, e5, e6, e7, e8⟩, ⟨c0, c1, c2, c3, c4, c5, c6, c7, c8⟩⟩ := f0
                clear hU hF
                go_simp
                exact rfl
              simp only [Act.put, List.setIfInBounds_toArray, List.set_cons_zero, List.set_cons_succ]
              with_reducible apply wpV_light
              · simp only [lightOp]
              · intro W hU hF
                have f0 := CS.out W hU
                obtain ⟨⟨e0, e1, e2, e3, e4, e5, e6, e7, e8⟩, ⟨c0, c1, c2, c3, c4, c5, c6, c7, c8⟩⟩ := f0
                clear hU hF
                go_simp
                exact rfl
              simp only [Act.put, List.setIfInBounds_toArray, List.set_cons_zero, List.set_cons_succ]
              with_reducible apply wpV_light
              · simp only [lightOp]
              · intro W hU hF
                have f0 := CS.out W hU
                obtain ⟨⟨e0, e1, e2, e3, e4, e5, e6, e7, e8⟩, ⟨c0, c1, c2, c3, c4, c5, c6, c7, c8⟩⟩ := f0
                clear hU hF
                go_simp
                exact rfl
              simp only [Act.put, List.setIfInBounds_toArray, List.set_cons_zero, List.set_cons_succ]
              with_reducible apply wpV_light
              · simp only [lightOp]
              · intro W hU hF
                have f0 := CS.out W hU
                obtain ⟨⟨e0, e1, e2, e3, e4, e5, e6, e7, e8⟩, ⟨c0, c1, c2, c3, c4, c5, c6, c7, c8⟩⟩ := f0
                clear hU hF
                go_simp
                exact rfl
              simp only [Act.put, List.setIfInBounds_toArray, List.set_cons_zero, List.set_cons_succ]
              with_reducible apply wpV_light
              · simp only [lightOp]
              · intro W hU hF
                have f0 := CS.out W hU
                obtain ⟨⟨e0, e1, e2, e3, e4, e5, e6, e7, e8⟩, ⟨c0, c1, c2, c3, c4, c5, c6, c7, c8⟩⟩ := f0
                clear hU hF
                go_simp
                exact rfl
              simp only [Act.put, List.setIfInBounds_toArray, List.set_cons_zero, List.set_cons_succ]
              with_reducible apply wpV_light
              · simp only [lightOp]
              · intro W hU hF
                have f0 := CS.out W hU
                obtain ⟨⟨e0, e1, e2, e3, e4, e5, e6, e7, e8⟩, ⟨c0, c1, c2, c3, c4, c5, c6, c7, c8⟩⟩ := f0
                clear hU hF
                go_simp
                exact rfl
              simp only [Act.put, List.setIfInBounds_toArray, List.set_cons_zero, List.set_cons_succ]
              with_reducible apply wpV_light
              · simp only [lightOp]
              · intro W hU hF
                have f0 := CS.out W hU
                obtain ⟨⟨e0, e1, e2, e3, e4, e5, e6, e7, e8⟩, ⟨c0, c1, c2, c3, c4, c5, c6, c7, c8⟩⟩ := f0
                clear hU hF
                go_simp
                exact rfl
              simp only [Act.put, List.setIfInBounds_toArray, List.set_cons_zero, List.set_cons_succ]
              with_reducible apply wpV_light
              · simp only [lightOp]
              · intro W hU hF
                have f0 := CS.out W hU
                obtain ⟨⟨e0, e1, e2, e3, e4, e5, e6, e7, e8⟩, ⟨c0, c1, c2, c3, c4, c5, c6, c7, c8⟩⟩ := f0
                clear hU hF
                go_simp
                exact rfl
              simp only [Act.put, List.setIfInBounds_toArray, List.set_cons_zero, List.set_cons_succ]
              with_reducible apply wpV_light
              · simp only [lightOp]
              · intro W hU hF
                have f0 := CS.out W hU
                obtain ⟨⟨e0, e1, e2, e3, e4, e5, e6, e7, e8⟩, ⟨c0, c1, c2, c3, c4, c5, c6, c7, c8⟩⟩ := f0
                clear hU hF
                go_simp
                exact rfl
              simp only [Act.put, List.setIfInBounds_toArray, List.set_cons_zero, List.set_cons_succ]


              refine wpV_end (fun W hU _ hF => ?_)
              have UX : Hid (Upd [] w W) := Lib.hid (KU.out.trans ((Upd.refl [] wk).drew.trans hU))
              clear hU hF
              refine wpT_end ?_
              go_wp2_with fail
              go_roundw
              case rel => exact ⟨i + 1, m, by go_num, rfl, by omega, HZ, UX⟩
              case measure => simp [intOf]; omega
          · have d1 : decide (x.be ≤ x.en) = false := by simpa using h1
            have HZ : Hid (overK L (L.take (i + 1)) = m) := Lib.hid (by rw [HTI.out, overK_snoc, HM.out, if_neg (fun h => h1 h.1)])
            go_wp2_with fail
            refine wp_invN [] [] (by kernel_rfl) (by kernel_rfl) (by kernel_rfl) trivial ?_
            with_reducible apply wpV_light
            · simp only [lightOp]
            · intro W hU hF
              have f0 := CS.out W hU
              obtain ⟨⟨e0, e1, e2, e3, e4, e5, e6, e7, e8⟩, ⟨c0, c1, c2, c3, c4, c5, c6, c7, c8⟩⟩ := f0
              clear hU hF
              go_simp
              exact rfl
            simp only [Act.put, List.setIfInBounds_toArray, List.set_cons_zero, List.set_cons_succ]
            with_reducible apply wpV_light
            · simp only [lightOp]
            · intro W hU hF
              have f0 := CS.out W hU
              obtain ⟨⟨e0, e1, e2, e3, e4, e5, e6, e7, e8⟩, ⟨c0, c1, c2, c3, c4, c5, c6, c7, c8⟩⟩ := f0
              clear hU hF
              go_simp
              exact rfl
            simp only [Act.put, List.setIfInBounds_toArray, List.set_cons_zero, List.set_cons_succ]
            with_reducible apply wpV_light
            · simp only [lightOp]
            · intro W hU hF
              have f0 := CS.out W hU
              obtain ⟨⟨e0, e1, e2, e3, e4, e5, e6, e7, e8⟩, ⟨c0, c1, c2, c3, c4, c5, c6, c7, c8⟩⟩ := f0
              clear hU hF
              go_simp
              exact rfl
            simp only [Act.put, List.setIfInBounds_toArray, List.set_cons_zero, List.set_cons_succ]
            with_reducible apply wpV_light
            · simp only [lightOp]
            · intro W hU hF
              have f0 := CS.out W hU
              obtain ⟨⟨e0, e1, e2, e3, e4, e5, e6, e7, e8⟩, ⟨c0, c1, c2, c3, c4, c5, c6, c7, c8⟩⟩ := f0
              clear hU hF
              go_simp
              exact rfl
            simp only [Act.put, List.setIfInBounds_toArray, List.set_cons_zero, List.set_cons_succ]
            with_reducible apply wpV_light
            · simp only [lightOp]
            · intro W hU hF
              have f0 := CS.out W hU
              obtain ⟨⟨e0, e1, e2, e3, e4, e5, e6, e7, e8⟩, ⟨c0, c1, c2, c3, c4, c5, c6, c7, c8⟩⟩ := f0
              clear hU hF
              go_simp
              exact rfl
            simp only [Act.put, List.setIfInBounds_toArray, List.set_cons_zero, List.set_cons_succ]
            with_reducible apply wpV_light
            · simp only [lightOp]
            · intro W hU hF
              have f0 := CS.out W hU
              obtain ⟨⟨e0, e1, e2, e3, e4, e5, e6, e7, e8⟩, ⟨c0, c1, c2, c3, c4, c5, c6, c7, c8⟩⟩ := f0
              clear hU hF
              go_simp
              exact rfl
            simp only [Act.put, List.setIfInBounds_toArray, List.set_cons_zero, List.set_cons_succ]
            with_reducible apply wpV_light
            · simp only [lightOp]
            · intro W hU hF
              have f0 := CS.out W hU
              obtain ⟨⟨e0, e1, e2, e3, e4, e5, e6, e7, e8⟩, ⟨c0, c1, c2, c3, c4, c5, c6, c7, c8⟩⟩ := f0
              clear hU hF
              go_simp
              exact rfl
            simp only [Act.put, List.setIfInBounds_toArray, List.set_cons_zero, List.set_cons_succ]
            with_reducible apply wpV_light
            · simp only [lightOp]
            · intro W hU hF
              have f0 := CS.out W hU
              obtain ⟨⟨e0, e1, e2, e3, e4, e5, e6, e7, e8⟩, ⟨c0, c1, c2, c3, c4, c5, c6, c7, c8⟩⟩ := f0
              clear hU hF
              go_simp
              exact rfl
            simp only [Act.put, List.setIfInBounds_toArray, List.set_cons_zero, List.set_cons_succ]
            with_reducible apply wpV_light
            · simp only [lightOp]
            · intro W hU hF
              have f0 := CS.out W hU
              obtain ⟨⟨e0, e1, e2, e3, e4, e5, e6, e7, e8⟩, ⟨c0, c1, c2, c3, c4, c5, c6, c7, c8⟩⟩ := f0
              clear hU hF
              go_simp
              exact rfl
            simp only [Act.put, List.setIfInBounds_toArray, List.set_cons_zero, List.set_cons_succ]
            with_reducible apply wpV_light
            · simp only [lightOp]
            · intro W hU hF
              have f0 := CS.out W hU
              obtain ⟨⟨e0, e1, e2, e3, e4, e5, e6, e7, e8⟩, ⟨c0, c1, c2, c3, c4, c5, c6, c7, c8⟩⟩ := f0
              clear hU hF
              go_simp
              exact rfl
            simp only [Act.put, List.setIfInBounds_toArray, List.set_cons_zero, List.set_cons_succ]
            with_reducible apply wpV_light
            · simp only [lightOp]
            · intro W hU hF
              have f0 := CS.out W hU
              obtain ⟨⟨e0, e1, e2, e3, e4, e5, e6, e7, e8⟩, ⟨c0, c1, c2, c3, c4, c5, c6, c7, c8⟩⟩ := f0
              clear hU hF
              go_simp
              exact rfl
            simp only [Act.put, List.setIfInBounds_toArray, List.set_cons_zero, List.set_cons_succ]
            with_reducible apply wpV_light
            · simp only [lightOp]
            · intro W hU hF
              have f0 := CS.out W hU
              obtain ⟨⟨e0, e1, e2, e3, e4, e5, e6, e7, e8⟩, ⟨c0, c1, c2, c3, c4, c5, c6, c7, c8⟩⟩ := f0
              clear hU hF
              go_simp
              exact rfl
            simp only [Act.put, List.setIfInBounds_toArray, List.set_cons_zero, List.set_cons_succ]
            with_reducible apply wpV_light
            · simp only [lightOp]
            · intro W hU hF
              have f0 := CS.out W hU
              obtain ⟨⟨e0, e1, e2, e3, e4, e5, e6, e7, e8⟩, ⟨c0, c1, c2, c3, c4, c5, c6, c7, c8⟩⟩ := f0
              clear hU hF
              go_simp
              exact rfl
            simp only [Act.put, List.setIfInBounds_toArray, List.set_cons_zero, List.set_cons_succ]
            with_reducible apply wpV_light
            · simp only [lightOp]
            · intro W hU hF
              have f0 := CS.out W hU
              obtain ⟨⟨e0, e1, e2, e3, e4, e5, e6, e7, e8⟩, ⟨c0, c1, c2, c3, c4, c5, c6, c7, c8⟩⟩ := f0
              clear hU hF
              go_simp
              exact rfl
            simp only [Act.put, List.setIfInBounds_toArray, List.set_cons_zero, List.set_cons_succ]
            refine wpV_skip (by rfl) (by simp only [lightOp]) ?_
            simp only [Act.put, List.setIfInBounds_toArray, List.set_cons_zero, List.set_cons_succ]
            refine wpV_skip (by rfl) (by simp only [lightOp]) ?_
            simp only [Act.put, List.setIfInBounds_toArray, List.set_cons_zero, List.set_cons_succ]
            refine wpV_skip (by rfl) (by simp only [lightOp]) ?_
            simp only [Act.put, List.setIfInBounds_toArray, List.set_cons_zero, List.set_cons_succ]
            with_reducible apply wpV_light
            · simp only [lightOp]
            · intro W hU hF
              have f0 := CS.out W hU
              obtain ⟨⟨e0, e1, e2, e3, e4, e5, e6, e7, e8⟩, ⟨c0, c1, c2, c3, c4, c5, c6, c7, c8⟩⟩ := f0
              clear hU hF
              go_simp
              exact rfl
            simp only [Act.put, List.setIfInBounds_toArray, List.set_cons_zero, List.set_cons_succ]
            refine wpV_end (fun W hU _ hF => ?_)
            have UX : Hid (Upd [] w W) := Lib.hid (KU.out.trans ((Upd.refl [] wk).drew.trans hU))
            clear hU hF
            refine wpT_end ?_
            go_wp2_with fail
            go_roundw
            case rel => exact ⟨i + 1, m, by go_num, rfl, by omega, HZ, UX⟩
            case measure => simp [intOf]; omega
    · obtain rfl : i = n := by omega
      have HR : Hid (overR L = m) := Lib.hid (by rw [← HM.out, List.take_of_length_le (by rw [HN.out]; exact Nat.le_refl _)]; rfl)
      go_wp2_with fail
      go_ret
      rw [HR.out]
      exact ⟨rfl, HU.out⟩
end Go.Proofs.YtiahnlaplkeiaaaDoor

/-
  concordref08.Pairs, concordref27.Same.
-/
import Derived.Test.YthdjbflbhgbckaaDoorDiff
set_option linter.unusedVariables false
namespace Go.Proofs.YthdjbflbhgbckaaDoor
open Go.RowKit Stab Snap
attribute [local go_sem] litStep_value

set_option maxRecDepth 100000 in
set_option maxHeartbeats 2000000 in
theorem pairs_rd (A A' : Option Addr) (n c m c' : Nat) (L M : List (Int × Int)) (w : World) (hv : Rd encPr w (.slice A n c) L) (hu : Rd encPr w (.slice A' m c') M) (hn : L.length = n) (hm : M.length = m) (hL : n ≤ 1000) (hM : m ≤ 1000) :
    Calls Tryd.prog 12 #[.slice A n c, .slice A' m c'] w fun e w' => e = .returned (.bool (decide (L = M))) ∧ Upd [] w w' := by
  have HV := Lib.hid hv
  have HU := Lib.hid hu
  have HN := Lib.hid hn
  have HM := Lib.hid hm
  clear hv hu hn hm
  go_enter Tryd.func12, Tryd.ntmps12
  by_cases hnm : n = m
  · subst hnm
    obtain ⟨r, hr⟩ : ∃ r, decide (L = M) = r := ⟨_, rfl⟩
    rw [hr]
    have HR := Lib.hid hr
    clear hr
    go_wp2_with fail
    go_loopw [5] (fun v wr => ∃ k : Nat, v = .int .i64 k ∧ k ≤ n ∧ Hid (∀ j, j < k → L[j]? = M[j]?) ∧ Hid (Upd [] w wr)) (fun v _ => n - (intOf v).toNat)
    case atStart => exact ⟨0, rfl, by omega, Lib.hid (fun j hj => by omega), Lib.hid (.refl _ _)⟩
    case round =>
      obtain ⟨k, rfl, hk, HS, U1⟩ := hrel
      by_cases hkn : k < n
      · obtain ⟨x, hx⟩ : ∃ x, L[k]? = some x := ⟨_, List.getElem?_eq_getElem (by rw [HN.out]; omega)⟩
        obtain ⟨y, hy⟩ : ∃ y, M[k]? = some y := ⟨_, List.getElem?_eq_getElem (by rw [HM.out]; omega)⟩
        have HX := Lib.hid hx
        have HY := Lib.hid hy
        obtain ⟨ad, rfl, -⟩ := HV.out.at_ hx
        obtain ⟨bd, rfl, -⟩ := HU.out.at_ hy
        have CS : Hid (∀ W, Upd [] wr.drew W → W.cell? (ad.add (k * 2)) = some (.int .i64 x.1) ∧ W.cell? ⟨(ad.add (k * 2)).block, (ad.add (k * 2)).off + 1, none⟩ = some (.int .i64 x.2) ∧ W.cell? (bd.add (k * 2)) = some (.int .i64 y.1) ∧ W.cell? ⟨(bd.add (k * 2)).block, (bd.add (k * 2)).off + 1, none⟩ = some (.int .i64 y.2)) := Lib.hid (fun W hW => by
          have hu : Upd [] w W := U1.out.drew.trans hW
          obtain ⟨ad', e1, _, h1⟩ := (HV.out.upd0 hu).at_ hx
          obtain ⟨bd', e2, _, h2⟩ := (HU.out.upd0 hu).at_ hy
          cases e1
          cases e2
          exact ⟨h1 0 _ rfl, (by have := h1 1 _ rfl; rwa [show k * (encPr).s + 1 = k * 2 + (0 + 1) from rfl, add_more] at this), h2 0 _ rfl, (by have := h2 1 _ rfl; rwa [show k * (encPr).s + 1 = k * 2 + (0 + 1) from rfl, add_more] at this)⟩)
        have q1 : (0 : Int) ≤ (k : Int) := by omega
        have q2 : (k : Int) < (n : Int) := by omega
        clear hx hy
        by_cases hxy : x = y
        · subst hxy
          have SN : Hid (∀ j, j < k + 1 → L[j]? = M[j]?) := Lib.hid (fun j hj => by
            by_cases e : j = k
            · rw [e, HX.out, HY.out]
            · exact HS.out j (by omega))
          go_wp2_with fail
          refine wp_invN [] [] (by kernel_rfl) (by kernel_rfl) (by kernel_rfl) trivial ?_
          with_reducible apply wpV_light
          · simp only [lightOp]
          · intro W hU hF
            have f0 := CS.out W hU
            clear hU hF
            go_simp
            exact rfl
          simp only [Act.put, List.setIfInBounds_toArray, List.set_cons_zero, List.set_cons_succ]
          with_reducible apply wpV_light
          · simp only [lightOp]
          · intro W hU hF
            have f0 := CS.out W hU
            clear hU hF
            go_simp
            exact rfl
          simp only [Act.put, List.setIfInBounds_toArray, List.set_cons_zero, List.set_cons_succ]
          with_reducible apply wpV_light
          · simp only [lightOp]
          · intro W hU hF
            have f0 := CS.out W hU
            clear hU hF
            go_simp
            exact rfl
          simp only [Act.put, List.setIfInBounds_toArray, List.set_cons_zero, List.set_cons_succ]
          with_reducible apply wpV_light
          · simp only [lightOp]
          · intro W hU hF
            have f0 := CS.out W hU
            clear hU hF
            go_simp
            exact rfl
          simp only [Act.put, List.setIfInBounds_toArray, List.set_cons_zero, List.set_cons_succ]
          with_reducible apply wpV_light
          · simp only [lightOp]
          · intro W hU hF
            have f0 := CS.out W hU
            clear hU hF
            go_simp
            exact rfl
          simp only [Act.put, List.setIfInBounds_toArray, List.set_cons_zero, List.set_cons_succ]
          with_reducible apply wpV_light
          · simp only [lightOp]
          · intro W hU hF
            have f0 := CS.out W hU
            clear hU hF
            go_simp
            exact rfl
          simp only [Act.put, List.setIfInBounds_toArray, List.set_cons_zero, List.set_cons_succ]
          with_reducible apply wpV_light
          · simp only [lightOp]
          · intro W hU hF
            have f0 := CS.out W hU
            clear hU hF
            go_simp
            exact rfl
          simp only [Act.put, List.setIfInBounds_toArray, List.set_cons_zero, List.set_cons_succ]
          with_reducible apply wpV_light
          · simp only [lightOp]
          · intro W hU hF
            have f0 := CS.out W hU
            clear hU hF
            go_simp
            exact rfl
          simp only [Act.put, List.setIfInBounds_toArray, List.set_cons_zero, List.set_cons_succ]
          with_reducible apply wpV_light
          · simp only [lightOp]
          · intro W hU hF
            have f0 := CS.out W hU
            clear hU hF
            go_simp
            exact rfl
          simp only [Act.put, List.setIfInBounds_toArray, List.set_cons_zero, List.set_cons_succ]
          refine wpV_end (fun W hU _ _ => ?_)
          have U2 : Hid (Upd [] w W) := Lib.hid (U1.out.drew.trans hU)
          clear hU
          refine wpT_end ?_
          go_wp2_with fail
          go_roundw
          case rel => exact ⟨k + 1, rfl, by omega, Lib.hid SN.out, U2⟩
          case measure => simp [intOf]; omega
        · have NE : Hid (¬ L = M) := Lib.hid (fun e => by
            have h1 := HX.out
            rw [e, HY.out] at h1
            exact hxy (Option.some.inj h1).symm)
          by_cases h0 : x.1 = y.1
          · skip
            have hi : ¬ x.2 = y.2 := fun e => hxy (Prod.ext h0 e)
            clear hxy
            go_wp2_with fail
            refine wp_invN [] [] (by kernel_rfl) (by kernel_rfl) (by kernel_rfl) trivial ?_
            with_reducible apply wpV_light
            · simp only [lightOp]
            · intro W hU hF
              have f0 := CS.out W hU
              clear hU hF
              go_simp
              exact rfl
            simp only [Act.put, List.setIfInBounds_toArray, List.set_cons_zero, List.set_cons_succ]
            with_reducible apply wpV_light
            · simp only [lightOp]
            · intro W hU hF
              have f0 := CS.out W hU
              clear hU hF
              go_simp
              exact rfl
            simp only [Act.put, List.setIfInBounds_toArray, List.set_cons_zero, List.set_cons_succ]
            with_reducible apply wpV_light
            · simp only [lightOp]
            · intro W hU hF
              have f0 := CS.out W hU
              clear hU hF
              go_simp
              exact rfl
            simp only [Act.put, List.setIfInBounds_toArray, List.set_cons_zero, List.set_cons_succ]
            with_reducible apply wpV_light
            · simp only [lightOp]
            · intro W hU hF
              have f0 := CS.out W hU
              clear hU hF
              go_simp
              exact rfl
            simp only [Act.put, List.setIfInBounds_toArray, List.set_cons_zero, List.set_cons_succ]
            with_reducible apply wpV_light
            · simp only [lightOp]
            · intro W hU hF
              have f0 := CS.out W hU
              clear hU hF
              go_simp
              exact rfl
            simp only [Act.put, List.setIfInBounds_toArray, List.set_cons_zero, List.set_cons_succ]
            with_reducible apply wpV_light
            · simp only [lightOp]
            · intro W hU hF
              have f0 := CS.out W hU
              clear hU hF
              go_simp
              exact rfl
            simp only [Act.put, List.setIfInBounds_toArray, List.set_cons_zero, List.set_cons_succ]
            with_reducible apply wpV_light
            · simp only [lightOp]
            · intro W hU hF
              have f0 := CS.out W hU
              clear hU hF
              go_simp
              exact rfl
            simp only [Act.put, List.setIfInBounds_toArray, List.set_cons_zero, List.set_cons_succ]
            with_reducible apply wpV_light
            · simp only [lightOp]
            · intro W hU hF
              have f0 := CS.out W hU
              clear hU hF
              go_simp
              exact rfl
            simp only [Act.put, List.setIfInBounds_toArray, List.set_cons_zero, List.set_cons_succ]
            with_reducible apply wpV_light
            · simp only [lightOp]
            · intro W hU hF
              have f0 := CS.out W hU
              clear hU hF
              go_simp
              exact rfl
            simp only [Act.put, List.setIfInBounds_toArray, List.set_cons_zero, List.set_cons_succ]
            refine wpV_end (fun W hU _ _ => ?_)
            have U2 : Hid (Upd [] w W) := Lib.hid (U1.out.drew.trans hU)
            clear hU
            refine wpT_end ?_
            go_wp2_with fail
            go_ret
            refine ⟨?_, U2.out⟩
            rw [← HR.out, decide_eq_false (NE.out)]
            rfl
          · clear hxy
            go_wp2_with fail
            refine wp_invN [] [] (by kernel_rfl) (by kernel_rfl) (by kernel_rfl) trivial ?_
            with_reducible apply wpV_light
            · simp only [lightOp]
            · intro W hU hF
              have f0 := CS.out W hU
              clear hU hF
              go_simp
              exact rfl
            simp only [Act.put, List.setIfInBounds_toArray, List.set_cons_zero, List.set_cons_succ]
            with_reducible apply wpV_light
            · simp only [lightOp]
            · intro W hU hF
              have f0 := CS.out W hU
              clear hU hF
              go_simp
              exact rfl
            simp only [Act.put, List.setIfInBounds_toArray, List.set_cons_zero, List.set_cons_succ]
            with_reducible apply wpV_light
            · simp only [lightOp]
            · intro W hU hF
              have f0 := CS.out W hU
              clear hU hF
              go_simp
              exact rfl
            simp only [Act.put, List.setIfInBounds_toArray, List.set_cons_zero, List.set_cons_succ]
            with_reducible apply wpV_light
            · simp only [lightOp]
            · intro W hU hF
              have f0 := CS.out W hU
              clear hU hF
              go_simp
              exact rfl
            simp only [Act.put, List.setIfInBounds_toArray, List.set_cons_zero, List.set_cons_succ]
            with_reducible apply wpV_light
            · simp only [lightOp]
            · intro W hU hF
              have f0 := CS.out W hU
              clear hU hF
              go_simp
              exact rfl
            simp only [Act.put, List.setIfInBounds_toArray, List.set_cons_zero, List.set_cons_succ]
            with_reducible apply wpV_light
            · simp only [lightOp]
            · intro W hU hF
              have f0 := CS.out W hU
              clear hU hF
              go_simp
              exact rfl
            simp only [Act.put, List.setIfInBounds_toArray, List.set_cons_zero, List.set_cons_succ]
            with_reducible apply wpV_light
            · simp only [lightOp]
            · intro W hU hF
              have f0 := CS.out W hU
              clear hU hF
              go_simp
              exact rfl
            simp only [Act.put, List.setIfInBounds_toArray, List.set_cons_zero, List.set_cons_succ]
            with_reducible apply wpV_light
            · simp only [lightOp]
            · intro W hU hF
              have f0 := CS.out W hU
              clear hU hF
              go_simp
              exact rfl
            simp only [Act.put, List.setIfInBounds_toArray, List.set_cons_zero, List.set_cons_succ]
            with_reducible apply wpV_light
            · simp only [lightOp]
            · intro W hU hF
              have f0 := CS.out W hU
              clear hU hF
              go_simp
              exact rfl
            simp only [Act.put, List.setIfInBounds_toArray, List.set_cons_zero, List.set_cons_succ]
            refine wpV_end (fun W hU _ _ => ?_)
            have U2 : Hid (Upd [] w W) := Lib.hid (U1.out.drew.trans hU)
            clear hU
            refine wpT_end ?_
            go_wp2_with fail
            go_ret
            refine ⟨?_, U2.out⟩
            rw [← HR.out, decide_eq_false (NE.out)]
            rfl
      · go_wp2_with fail
        go_ret
        have : k = n := by omega
        subst this
        refine ⟨?_, U1.out⟩
        rw [← HR.out, decide_eq_true (List.ext_getElem? (fun j => by
          rcases Nat.lt_or_ge j k with h | h
          · exact HS.out j h
          · rw [List.getElem?_eq_none (by rw [HN.out]; exact h), List.getElem?_eq_none (by rw [HM.out]; exact h)]))]
        rfl
  · have hnm' : ¬ (n : Int) = m := by omega
    obtain ⟨r, hr⟩ : ∃ r, decide (L = M) = r := ⟨_, rfl⟩
    have hr' : r = false := by
      rw [← hr, decide_eq_false_iff_not]
      intro e
      have := HN.out
      rw [e, HM.out] at this
      omega
    rw [hr, hr']
    clear hr hr'
    go_wp2_with fail
    go_ret
    exact ⟨rfl, .refl _ _⟩
set_option maxRecDepth 100000 in
set_option maxHeartbeats 2000000 in
theorem turns_rd (A A' : Option Addr) (n c m c' : Nat) (L M : List (Tn)) (w : World) (hv : Rd encTn w (.slice A n c) L) (hu : Rd encTn w (.slice A' m c') M) (hn : L.length = n) (hm : M.length = m) (hL : n ≤ 1000) (hM : m ≤ 1000) :
    Calls Tryd.prog 17 #[.slice A n c, .slice A' m c'] w fun e w' => e = .returned (.bool (decide (L = M))) ∧ Upd [] w w' := by
  have HV := Lib.hid hv
  have HU := Lib.hid hu
  have HN := Lib.hid hn
  have HM := Lib.hid hm
  clear hv hu hn hm
  go_enter Tryd.func17, Tryd.ntmps17
  by_cases hnm : n = m
  · subst hnm
    obtain ⟨r, hr⟩ : ∃ r, decide (L = M) = r := ⟨_, rfl⟩
    rw [hr]
    have HR := Lib.hid hr
    clear hr
    go_wp2_with fail
    go_loopw [5] (fun v wr => ∃ k : Nat, v = .int .i64 k ∧ k ≤ n ∧ Hid (∀ j, j < k → L[j]? = M[j]?) ∧ Hid (Upd [] w wr)) (fun v _ => n - (intOf v).toNat)
    case atStart => exact ⟨0, rfl, by omega, Lib.hid (fun j hj => by omega), Lib.hid (.refl _ _)⟩
    case round =>
      obtain ⟨k, rfl, hk, HS, U1⟩ := hrel
      by_cases hkn : k < n
      · obtain ⟨x, hx⟩ : ∃ x, L[k]? = some x := ⟨_, List.getElem?_eq_getElem (by rw [HN.out]; omega)⟩
        obtain ⟨y, hy⟩ : ∃ y, M[k]? = some y := ⟨_, List.getElem?_eq_getElem (by rw [HM.out]; omega)⟩
        have HX := Lib.hid hx
        have HY := Lib.hid hy
        obtain ⟨ad, rfl, -⟩ := HV.out.at_ hx
        obtain ⟨bd, rfl, -⟩ := HU.out.at_ hy
        have CS : Hid (∀ W, Upd [] wr.drew W → W.cell? (ad.add (k * 4)) = some (.int .i64 x.1) ∧ W.cell? ⟨(ad.add (k * 4)).block, (ad.add (k * 4)).off + 1, none⟩ = some (.int .i64 x.2.1) ∧ W.cell? ⟨(ad.add (k * 4)).block, (ad.add (k * 4)).off + 2, none⟩ = some (.int .i64 x.2.2.1) ∧ W.cell? ⟨(ad.add (k * 4)).block, (ad.add (k * 4)).off + 3, none⟩ = some (.int .i64 x.2.2.2) ∧ W.cell? (bd.add (k * 4)) = some (.int .i64 y.1) ∧ W.cell? ⟨(bd.add (k * 4)).block, (bd.add (k * 4)).off + 1, none⟩ = some (.int .i64 y.2.1) ∧ W.cell? ⟨(bd.add (k * 4)).block, (bd.add (k * 4)).off + 2, none⟩ = some (.int .i64 y.2.2.1) ∧ W.cell? ⟨(bd.add (k * 4)).block, (bd.add (k * 4)).off + 3, none⟩ = some (.int .i64 y.2.2.2)) := Lib.hid (fun W hW => by
          have hu : Upd [] w W := U1.out.drew.trans hW
          obtain ⟨ad', e1, _, h1⟩ := (HV.out.upd0 hu).at_ hx
          obtain ⟨bd', e2, _, h2⟩ := (HU.out.upd0 hu).at_ hy
          cases e1
          cases e2
          exact ⟨h1 0 _ rfl, (by have := h1 1 _ rfl; rwa [show k * (encTn).s + 1 = k * 4 + (0 + 1) from rfl, add_more] at this), (by have := h1 2 _ rfl; rwa [show k * (encTn).s + 2 = k * 4 + (1 + 1) from rfl, add_more] at this), (by have := h1 3 _ rfl; rwa [show k * (encTn).s + 3 = k * 4 + (2 + 1) from rfl, add_more] at this), h2 0 _ rfl, (by have := h2 1 _ rfl; rwa [show k * (encTn).s + 1 = k * 4 + (0 + 1) from rfl, add_more] at this), (by have := h2 2 _ rfl; rwa [show k * (encTn).s + 2 = k * 4 + (1 + 1) from rfl, add_more] at this), (by have := h2 3 _ rfl; rwa [show k * (encTn).s + 3 = k * 4 + (2 + 1) from rfl, add_more] at this)⟩)
        have q1 : (0 : Int) ≤ (k : Int) := by omega
        have q2 : (k : Int) < (n : Int) := by omega
        clear hx hy
        by_cases hxy : x = y
        · subst hxy
          have SN : Hid (∀ j, j < k + 1 → L[j]? = M[j]?) := Lib.hid (fun j hj => by
            by_cases e : j = k
            · rw [e, HX.out, HY.out]
            · exact HS.out j (by omega))
          go_wp2_with fail
          refine wp_invN [] [] (by kernel_rfl) (by kernel_rfl) (by kernel_rfl) trivial ?_
          with_reducible apply wpV_light
          · simp only [lightOp]
          · intro W hU hF
            have f0 := CS.out W hU
            clear hU hF
            go_simp
            exact rfl
          simp only [Act.put, List.setIfInBounds_toArray, List.set_cons_zero, List.set_cons_succ]
          with_reducible apply wpV_light
          · simp only [lightOp]
          · intro W hU hF
            have f0 := CS.out W hU
            clear hU hF
            go_simp
            exact rfl
          simp only [Act.put, List.setIfInBounds_toArray, List.set_cons_zero, List.set_cons_succ]
          with_reducible apply wpV_light
          · simp only [lightOp]
          · intro W hU hF
            have f0 := CS.out W hU
            clear hU hF
            go_simp
            exact rfl
          simp only [Act.put, List.setIfInBounds_toArray, List.set_cons_zero, List.set_cons_succ]
          with_reducible apply wpV_light
          · simp only [lightOp]
          · intro W hU hF
            have f0 := CS.out W hU
            clear hU hF
            go_simp
            exact rfl
          simp only [Act.put, List.setIfInBounds_toArray, List.set_cons_zero, List.set_cons_succ]
          with_reducible apply wpV_light
          · simp only [lightOp]
          · intro W hU hF
            have f0 := CS.out W hU
            clear hU hF
            go_simp
            exact rfl
          simp only [Act.put, List.setIfInBounds_toArray, List.set_cons_zero, List.set_cons_succ]
          with_reducible apply wpV_light
          · simp only [lightOp]
          · intro W hU hF
            have f0 := CS.out W hU
            clear hU hF
            go_simp
            exact rfl
          simp only [Act.put, List.setIfInBounds_toArray, List.set_cons_zero, List.set_cons_succ]
          with_reducible apply wpV_light
          · simp only [lightOp]
          · intro W hU hF
            have f0 := CS.out W hU
            clear hU hF
            go_simp
            exact rfl
          simp only [Act.put, List.setIfInBounds_toArray, List.set_cons_zero, List.set_cons_succ]
          with_reducible apply wpV_light
          · simp only [lightOp]
          · intro W hU hF
            have f0 := CS.out W hU
            clear hU hF
            go_simp
            exact rfl
          simp only [Act.put, List.setIfInBounds_toArray, List.set_cons_zero, List.set_cons_succ]
          with_reducible apply wpV_light
          · simp only [lightOp]
          · intro W hU hF
            have f0 := CS.out W hU
            clear hU hF
            go_simp
            exact rfl
          simp only [Act.put, List.setIfInBounds_toArray, List.set_cons_zero, List.set_cons_succ]
          refine wpV_end (fun W hU _ _ => ?_)
          have U2 : Hid (Upd [] w W) := Lib.hid (U1.out.drew.trans hU)
          clear hU
          refine wpT_end ?_
          go_wp2_with fail
          go_roundw
          case rel => exact ⟨k + 1, rfl, by omega, Lib.hid SN.out, U2⟩
          case measure => simp [intOf]; omega
        · have NE : Hid (¬ L = M) := Lib.hid (fun e => by
            have h1 := HX.out
            rw [e, HY.out] at h1
            exact hxy (Option.some.inj h1).symm)
          by_cases h0 : x.1 = y.1
          · skip
            by_cases h1 : x.2.1 = y.2.1
            · skip
              by_cases h2 : x.2.2.1 = y.2.2.1
              · skip
                have hi : ¬ x.2.2.2 = y.2.2.2 := fun e => hxy (Prod.ext h0 (Prod.ext h1 (Prod.ext h2 e)))
                clear hxy
                go_wp2_with fail
                refine wp_invN [] [] (by kernel_rfl) (by kernel_rfl) (by kernel_rfl) trivial ?_
                with_reducible apply wpV_light
                · simp only [lightOp]
                · intro W hU hF
                  have f0 := CS.out W hU
                  clear hU hF
                  go_simp
                  exact rfl
                simp only [Act.put, List.setIfInBounds_toArray, List.set_cons_zero, List.set_cons_succ]
                with_reducible apply wpV_light
                · simp only [lightOp]
                · intro W hU hF
                  have f0 := CS.out W hU
                  clear hU hF
                  go_simp
                  exact rfl
                simp only [Act.put, List.setIfInBounds_toArray, List.set_cons_zero, List.set_cons_succ]
                with_reducible apply wpV_light
                · simp only [lightOp]
                · intro W hU hF
                  have f0 := CS.out W hU
                  clear hU hF
                  go_simp
                  exact rfl
                simp only [Act.put, List.setIfInBounds_toArray, List.set_cons_zero, List.set_cons_succ]
                with_reducible apply wpV_light
                · simp only [lightOp]
                · intro W hU hF
                  have f0 := CS.out W hU
                  clear hU hF
                  go_simp
                  exact rfl
                simp only [Act.put, List.setIfInBounds_toArray, List.set_cons_zero, List.set_cons_succ]
                with_reducible apply wpV_light
                · simp only [lightOp]
                · intro W hU hF
                  have f0 := CS.out W hU
                  clear hU hF
                  go_simp
                  exact rfl
                simp only [Act.put, List.setIfInBounds_toArray, List.set_cons_zero, List.set_cons_succ]
                with_reducible apply wpV_light
                · simp only [lightOp]
                · intro W hU hF
                  have f0 := CS.out W hU
                  clear hU hF
                  go_simp
                  exact rfl
                simp only [Act.put, List.setIfInBounds_toArray, List.set_cons_zero, List.set_cons_succ]
                with_reducible apply wpV_light
                · simp only [lightOp]
                · intro W hU hF
                  have f0 := CS.out W hU
                  clear hU hF
                  go_simp
                  exact rfl
                simp only [Act.put, List.setIfInBounds_toArray, List.set_cons_zero, List.set_cons_succ]
                with_reducible apply wpV_light
                · simp only [lightOp]
                · intro W hU hF
                  have f0 := CS.out W hU
                  clear hU hF
                  go_simp
                  exact rfl
                simp only [Act.put, List.setIfInBounds_toArray, List.set_cons_zero, List.set_cons_succ]
                with_reducible apply wpV_light
                · simp only [lightOp]
                · intro W hU hF
                  have f0 := CS.out W hU
                  clear hU hF
                  go_simp
                  exact rfl
                simp only [Act.put, List.setIfInBounds_toArray, List.set_cons_zero, List.set_cons_succ]
                refine wpV_end (fun W hU _ _ => ?_)
                have U2 : Hid (Upd [] w W) := Lib.hid (U1.out.drew.trans hU)
                clear hU
                refine wpT_end ?_
                go_wp2_with fail
                go_ret
                refine ⟨?_, U2.out⟩
                rw [← HR.out, decide_eq_false (NE.out)]
                rfl
              · clear hxy
                go_wp2_with fail
                refine wp_invN [] [] (by kernel_rfl) (by kernel_rfl) (by kernel_rfl) trivial ?_
                with_reducible apply wpV_light
                · simp only [lightOp]
                · intro W hU hF
                  have f0 := CS.out W hU
                  clear hU hF
                  go_simp
                  exact rfl
                simp only [Act.put, List.setIfInBounds_toArray, List.set_cons_zero, List.set_cons_succ]
                with_reducible apply wpV_light
                · simp only [lightOp]
                · intro W hU hF
                  have f0 := CS.out W hU
                  clear hU hF
                  go_simp
                  exact rfl
                simp only [Act.put, List.setIfInBounds_toArray, List.set_cons_zero, List.set_cons_succ]
                with_reducible apply wpV_light
                · simp only [lightOp]
                · intro W hU hF
                  have f0 := CS.out W hU
                  clear hU hF
                  go_simp
                  exact rfl
                simp only [Act.put, List.setIfInBounds_toArray, List.set_cons_zero, List.set_cons_succ]
                with_reducible apply wpV_light
                · simp only [lightOp]
                · intro W hU hF
                  have f0 := CS.out W hU
                  clear hU hF
                  go_simp
                  exact rfl
                simp only [Act.put, List.setIfInBounds_toArray, List.set_cons_zero, List.set_cons_succ]
                with_reducible apply wpV_light
                · simp only [lightOp]
                · intro W hU hF
                  have f0 := CS.out W hU
                  clear hU hF
                  go_simp
                  exact rfl
                simp only [Act.put, List.setIfInBounds_toArray, List.set_cons_zero, List.set_cons_succ]
                with_reducible apply wpV_light
                · simp only [lightOp]
                · intro W hU hF
                  have f0 := CS.out W hU
                  clear hU hF
                  go_simp
                  exact rfl
                simp only [Act.put, List.setIfInBounds_toArray, List.set_cons_zero, List.set_cons_succ]
                with_reducible apply wpV_light
                · simp only [lightOp]
                · intro W hU hF
                  have f0 := CS.out W hU
                  clear hU hF
                  go_simp
                  exact rfl
                simp only [Act.put, List.setIfInBounds_toArray, List.set_cons_zero, List.set_cons_succ]
                with_reducible apply wpV_light
                · simp only [lightOp]
                · intro W hU hF
                  have f0 := CS.out W hU
                  clear hU hF
                  go_simp
                  exact rfl
                simp only [Act.put, List.setIfInBounds_toArray, List.set_cons_zero, List.set_cons_succ]
                with_reducible apply wpV_light
                · simp only [lightOp]
                · intro W hU hF
                  have f0 := CS.out W hU
                  clear hU hF
                  go_simp
                  exact rfl
                simp only [Act.put, List.setIfInBounds_toArray, List.set_cons_zero, List.set_cons_succ]
                refine wpV_end (fun W hU _ _ => ?_)
                have U2 : Hid (Upd [] w W) := Lib.hid (U1.out.drew.trans hU)
                clear hU
                refine wpT_end ?_
                go_wp2_with fail
                go_ret
                refine ⟨?_, U2.out⟩
                rw [← HR.out, decide_eq_false (NE.out)]
                rfl
            · clear hxy
              go_wp2_with fail
              refine wp_invN [] [] (by kernel_rfl) (by kernel_rfl) (by kernel_rfl) trivial ?_
              with_reducible apply wpV_light
              · simp only [lightOp]
              · intro W hU hF
                have f0 := CS.out W hU
                clear hU hF
                go_simp
                exact rfl
              simp only [Act.put, List.setIfInBounds_toArray, List.set_cons_zero, List.set_cons_succ]
              with_reducible apply wpV_light
              · simp only [lightOp]
              · intro W hU hF
                have f0 := CS.out W hU
                clear hU hF
                go_simp
                exact rfl
              simp only [Act.put, List.setIfInBounds_toArray, List.set_cons_zero, List.set_cons_succ]
              with_reducible apply wpV_light
              · simp only [lightOp]
              · intro W hU hF
                have f0 := CS.out W hU
                clear hU hF
                go_simp
                exact rfl
              simp only [Act.put, List.setIfInBounds_toArray, List.set_cons_zero, List.set_cons_succ]
              with_reducible apply wpV_light
              · simp only [lightOp]
              · intro W hU hF
                have f0 := CS.out W hU
                clear hU hF
                go_simp
                exact rfl
              simp only [Act.put, List.setIfInBounds_toArray, List.set_cons_zero, List.set_cons_succ]
              with_reducible apply wpV_light
              · simp only [lightOp]
              · intro W hU hF
                have f0 := CS.out W hU
                clear hU hF
                go_simp
                exact rfl
              simp only [Act.put, List.setIfInBounds_toArray, List.set_cons_zero, List.set_cons_succ]
              with_reducible apply wpV_light
              · simp only [lightOp]
              · intro W hU hF
                have f0 := CS.out W hU
                clear hU hF
                go_simp
                exact rfl
              simp only [Act.put, List.setIfInBounds_toArray, List.set_cons_zero, List.set_cons_succ]
              with_reducible apply wpV_light
              · simp only [lightOp]
              · intro W hU hF
                have f0 := CS.out W hU
                clear hU hF
                go_simp
                exact rfl
              simp only [Act.put, List.setIfInBounds_toArray, List.set_cons_zero, List.set_cons_succ]
              with_reducible apply wpV_light
              · simp only [lightOp]
              · intro W hU hF
                have f0 := CS.out W hU
                clear hU hF
                go_simp
                exact rfl
              simp only [Act.put, List.setIfInBounds_toArray, List.set_cons_zero, List.set_cons_succ]
              with_reducible apply wpV_light
              · simp only [lightOp]
              · intro W hU hF
                have f0 := CS.out W hU
                clear hU hF
                go_simp
                exact rfl
              simp only [Act.put, List.setIfInBounds_toArray, List.set_cons_zero, List.set_cons_succ]
              refine wpV_end (fun W hU _ _ => ?_)
              have U2 : Hid (Upd [] w W) := Lib.hid (U1.out.drew.trans hU)
              clear hU
              refine wpT_end ?_
              go_wp2_with fail
              go_ret
              refine ⟨?_, U2.out⟩
              rw [← HR.out, decide_eq_false (NE.out)]
              rfl
          · clear hxy
            go_wp2_with fail
            refine wp_invN [] [] (by kernel_rfl) (by kernel_rfl) (by kernel_rfl) trivial ?_
            with_reducible apply wpV_light
            · simp only [lightOp]
            · intro W hU hF
              have f0 := CS.out W hU
              clear hU hF
              go_simp
              exact rfl
            simp only [Act.put, List.setIfInBounds_toArray, List.set_cons_zero, List.set_cons_succ]
            with_reducible apply wpV_light
            · simp only [lightOp]
            · intro W hU hF
              have f0 := CS.out W hU
              clear hU hF
              go_simp
              exact rfl
            simp only [Act.put, List.setIfInBounds_toArray, List.set_cons_zero, List.set_cons_succ]
            with_reducible apply wpV_light
            · simp only [lightOp]
            · intro W hU hF
              have f0 := CS.out W hU
              clear hU hF
              go_simp
              exact rfl
            simp only [Act.put, List.setIfInBounds_toArray, List.set_cons_zero, List.set_cons_succ]
            with_reducible apply wpV_light
            · simp only [lightOp]
            · intro W hU hF
              have f0 := CS.out W hU
              clear hU hF
              go_simp
              exact rfl
            simp only [Act.put, List.setIfInBounds_toArray, List.set_cons_zero, List.set_cons_succ]
            with_reducible apply wpV_light
            · simp only [lightOp]
            · intro W hU hF
              have f0 := CS.out W hU
              clear hU hF
              go_simp
              exact rfl
            simp only [Act.put, List.setIfInBounds_toArray, List.set_cons_zero, List.set_cons_succ]
            with_reducible apply wpV_light
            · simp only [lightOp]
            · intro W hU hF
              have f0 := CS.out W hU
              clear hU hF
              go_simp
              exact rfl
            simp only [Act.put, List.setIfInBounds_toArray, List.set_cons_zero, List.set_cons_succ]
            with_reducible apply wpV_light
            · simp only [lightOp]
            · intro W hU hF
              have f0 := CS.out W hU
              clear hU hF
              go_simp
              exact rfl
            simp only [Act.put, List.setIfInBounds_toArray, List.set_cons_zero, List.set_cons_succ]
            with_reducible apply wpV_light
            · simp only [lightOp]
            · intro W hU hF
              have f0 := CS.out W hU
              clear hU hF
              go_simp
              exact rfl
            simp only [Act.put, List.setIfInBounds_toArray, List.set_cons_zero, List.set_cons_succ]
            with_reducible apply wpV_light
            · simp only [lightOp]
            · intro W hU hF
              have f0 := CS.out W hU
              clear hU hF
              go_simp
              exact rfl
            simp only [Act.put, List.setIfInBounds_toArray, List.set_cons_zero, List.set_cons_succ]
            refine wpV_end (fun W hU _ _ => ?_)
            have U2 : Hid (Upd [] w W) := Lib.hid (U1.out.drew.trans hU)
            clear hU
            refine wpT_end ?_
            go_wp2_with fail
            go_ret
            refine ⟨?_, U2.out⟩
            rw [← HR.out, decide_eq_false (NE.out)]
            rfl
      · go_wp2_with fail
        go_ret
        have : k = n := by omega
        subst this
        refine ⟨?_, U1.out⟩
        rw [← HR.out, decide_eq_true (List.ext_getElem? (fun j => by
          rcases Nat.lt_or_ge j k with h | h
          · exact HS.out j h
          · rw [List.getElem?_eq_none (by rw [HN.out]; exact h), List.getElem?_eq_none (by rw [HM.out]; exact h)]))]
        rfl
  · have hnm' : ¬ (n : Int) = m := by omega
    obtain ⟨r, hr⟩ : ∃ r, decide (L = M) = r := ⟨_, rfl⟩
    have hr' : r = false := by
      rw [← hr, decide_eq_false_iff_not]
      intro e
      have := HN.out
      rw [e, HM.out] at this
      omega
    rw [hr, hr']
    clear hr hr'
    go_wp2_with fail
    go_ret
    exact ⟨rfl, .refl _ _⟩
end Go.Proofs.YthdjbflbhgbckaaDoor

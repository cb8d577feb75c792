/-
  concordref08.Ints.
-/
import Derived.Test.YtiahnlaplkeiaaaDoorAppV
import Derived.Test.YtiahnlaplkeiaaaDoorProg
set_option linter.unusedVariables false
namespace Go.Proofs.YtiahnlaplkeiaaaDoor
open Go.RowKit
attribute [local go_sem] litStep_value

/-- The same so far. -/
def sameI (L M : List Int) (k : Nat) : Prop := ∀ j, j < k → L.getD j 0 = M.getD j 0
theorem sameI_all {L M : List Int} {n : Nat} (hl : L.length = n) (hm : M.length = n) (h : sameI L M n) : L = M := by
  apply List.ext_getElem (by rw [hl, hm])
  intro i h1 h2
  have := h i (by omega)
  rwa [List.getD_eq_getElem?_getD, List.getD_eq_getElem?_getD, List.getElem?_eq_getElem h1, List.getElem?_eq_getElem h2] at this
set_option maxRecDepth 100000 in
set_option maxHeartbeats 2000000 in
theorem ints_ok (B B' : Nat) (L M : List Int) (v u : Value) (w : World) (hv : w.ownsRow B 3 1 v L.length (L.map (Value.int .i64))) (hu : w.ownsRow B' 3 1 u M.length (M.map (Value.int .i64))) (hL : L.length ≤ 1000000) (hM : M.length ≤ 1000000) :
    Calls Tryd.prog 13 #[v, u] w fun e w' => e = .returned (.bool (decide (L = M))) ∧ Upd [] w w' := by
  obtain ⟨A, c, rfl, hnc, hcm⟩ := own_slice hv
  obtain ⟨A', c', rfl, hnc', hcm'⟩ := own_slice hu
  obtain ⟨n, hn⟩ : ∃ n, L.length = n := ⟨_, rfl⟩
  obtain ⟨m, hm⟩ : ∃ m, M.length = m := ⟨_, rfl⟩
  rw [hn] at hv hL hnc ⊢
  rw [hm] at hu hM hnc' ⊢
  have HV := Lib.hid hv
  have HU := Lib.hid hu
  have HN := Lib.hid hn
  have HM := Lib.hid hm
  clear hv hu hn hm
  obtain ⟨r, hr⟩ : ∃ r, decide (L = M) = r := ⟨_, rfl⟩
  have HR := Lib.hid hr
  rw [hr]
  clear hr
  go_enter Tryd.func13, Tryd.ntmps13
  by_cases hnm : n = m
  · subst hnm
    have d : ((n : Int) != (n : Int)) = false := by simp
    go_wp2_with fail
    go_loopw [5] (fun v wr => ∃ k : Nat, v = .int .i64 k ∧ k ≤ n ∧ Hid (sameI L M k) ∧ Hid (Upd [] w wr)) (fun v _ => n - (intOf v).toNat)
    case atStart => exact ⟨0, rfl, by omega, Lib.hid (fun j hj => by omega), Lib.hid (.refl _ _)⟩
    case round =>
      obtain ⟨k, rfl, hk, HS, U1⟩ := hrel
      by_cases hkn : k < n
      · obtain ⟨x, hx⟩ : ∃ x, L[k]? = some x := ⟨_, List.getElem?_eq_getElem (by rw [HN.out]; omega)⟩
        obtain ⟨y, hy⟩ : ∃ y, M[k]? = some y := ⟨_, List.getElem?_eq_getElem (by rw [HM.out]; omega)⟩
        have HX := Lib.hid hx
        have HY := Lib.hid hy
        obtain ⟨g, cg, cur, e1, _⟩ := own_form HV.out (by omega)
        obtain ⟨g', cg', cur', e2, _⟩ := own_form HU.out (by omega)
        injection e1 with e1 _ e1'
        injection e2 with e2 _ e2'
        subst e1 e2 e1' e2'
        have CS : Hid (∀ W, Upd [] wr.drew W → W.cell? ⟨g, k, none⟩ = some (.int .i64 x) ∧ W.cell? ⟨g', k, none⟩ = some (.int .i64 y)) := Lib.hid (fun W hW => by
          have hu : Upd [] w W := U1.out.drew.trans hW
          exact ⟨own_cell (own_upd0 HV.out hu) k _ (by rw [List.getElem?_map, HX.out]; rfl), own_cell (own_upd0 HU.out hu) k _ (by rw [List.getElem?_map, HY.out]; rfl)⟩)
        have q1 : (0 : Int) ≤ (k : Int) := by omega
        have q2 : (k : Int) < (n : Int) := by omega
        clear hx hy
        go_wp2_with fail
        refine wp_invN [] [] (by kernel_rfl) (by kernel_rfl) (by kernel_rfl) trivial ?_
        with_reducible apply wpV_light
        · simp only [lightOp]
        · intro W hU hF
          have f0 := CS.out W hU
          clear hU hF
          go_simp
          exact rfl
        simp only [Act.put, List.setIfInBounds_toArray, List.set_cons_zero, List.set_cons_succ]
        with_reducible apply wpV_light
        · simp only [lightOp]
        · intro W hU hF
          have f0 := CS.out W hU
          clear hU hF
          go_simp
          exact rfl
        simp only [Act.put, List.setIfInBounds_toArray, List.set_cons_zero, List.set_cons_succ]
        with_reducible apply wpV_light
        · simp only [lightOp]
        · intro W hU hF
          have f0 := CS.out W hU
          clear hU hF
          go_simp
          exact rfl
        simp only [Act.put, List.setIfInBounds_toArray, List.set_cons_zero, List.set_cons_succ]
        with_reducible apply wpV_light
        · simp only [lightOp]
        · intro W hU hF
          have f0 := CS.out W hU
          clear hU hF
          go_simp
          exact rfl
        simp only [Act.put, List.setIfInBounds_toArray, List.set_cons_zero, List.set_cons_succ]
        with_reducible apply wpV_light
        · simp only [lightOp]
        · intro W hU hF
          have f0 := CS.out W hU
          clear hU hF
          go_simp
          exact rfl
        simp only [Act.put, List.setIfInBounds_toArray, List.set_cons_zero, List.set_cons_succ]
        with_reducible apply wpV_light
        · simp only [lightOp]
        · intro W hU hF
          have f0 := CS.out W hU
          clear hU hF
          go_simp
          exact rfl
        simp only [Act.put, List.setIfInBounds_toArray, List.set_cons_zero, List.set_cons_succ]
        with_reducible apply wpV_light
        · simp only [lightOp]
        · intro W hU hF
          have f0 := CS.out W hU
          clear hU hF
          go_simp
          exact rfl
        simp only [Act.put, List.setIfInBounds_toArray, List.set_cons_zero, List.set_cons_succ]
        with_reducible apply wpV_light
        · simp only [lightOp]
        · intro W hU hF
          have f0 := CS.out W hU
          clear hU hF
          go_simp
          exact rfl
        simp only [Act.put, List.setIfInBounds_toArray, List.set_cons_zero, List.set_cons_succ]
        with_reducible apply wpV_light
        · simp only [lightOp]
        · intro W hU hF
          have f0 := CS.out W hU
          clear hU hF
          go_simp
          exact rfl
        simp only [Act.put, List.setIfInBounds_toArray, List.set_cons_zero, List.set_cons_succ]
        refine wpV_end (fun W hU _ _ => ?_)
        have U2 : Hid (Upd [] w W) := Lib.hid (U1.out.drew.trans hU)
        clear hU
        refine wpT_end ?_
        by_cases hxy : x = y
        · have dd : (x != y) = false := by simpa using hxy
          have HS2 : Hid (sameI L M (k + 1)) := Lib.hid (fun j hj => by
            rcases Nat.lt_or_ge j k with h1 | h1
            · exact HS.out j h1
            · obtain rfl : j = k := by omega
              rw [List.getD_eq_getElem?_getD, List.getD_eq_getElem?_getD, HX.out, HY.out, hxy])
          clear hxy
          go_wp2_with fail
          go_roundw
          case rel => exact ⟨k + 1, by go_num, by omega, HS2, U2⟩
          case measure => simp [intOf]; omega
        · have dd : (x != y) = true := by simpa using hxy
          have HZ : Hid (r = false) := Lib.hid (by
            rw [← HR.out, decide_eq_false_iff_not]
            intro e
            have h1 := HX.out
            rw [e, HY.out] at h1
            injection h1 with h1
            exact hxy h1.symm)
          clear hxy
          go_wp2_with fail
          go_ret
          exact ⟨by rw [HZ.out]; rfl, U2.out⟩
      · obtain rfl : k = n := by omega
        have HZ : Hid (r = true) := Lib.hid (by rw [← HR.out, decide_eq_true_iff]; exact sameI_all HN.out HM.out HS.out)
        go_wp2_with fail
        go_ret
        exact ⟨by rw [HZ.out]; rfl, U1.out⟩
  · have d : ((n : Int) != (m : Int)) = true := by simp; omega
    have HZ : Hid (r = false) := Lib.hid (by rw [← HR.out, decide_eq_false_iff_not]; intro e; exact hnm (by rw [← HN.out, ← HM.out, e]))
    go_wp2_with fail
    go_ret
    exact ⟨by rw [HZ.out]; rfl, .refl _ _⟩
end Go.Proofs.YtiahnlaplkeiaaaDoor

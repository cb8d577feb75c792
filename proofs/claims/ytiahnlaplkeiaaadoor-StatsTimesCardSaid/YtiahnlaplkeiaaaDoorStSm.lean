/-
  concordlaw30.small; stats.Mean.
-/
import Derived.Test.YtiahnlaplkeiaaaDoorSt2
set_option linter.unusedVariables false
namespace Go.Proofs.YtiahnlaplkeiaaaDoor
open Go.RowKit St
attribute [local go_sem] litStep_value

def smallP (l : List En) : Prop := (∀ x ∈ l, EB x) ∧ l.length ≤ 60
instance (x : En) : Decidable (EB x) := by unfold EB; infer_instance
instance (l : List En) : Decidable (smallP l) := by unfold smallP; infer_instance
set_option maxRecDepth 100000 in
set_option maxHeartbeats 2000000 in
theorem small_ok (A : Option Addr) (n c : Nat) (L : List En) (w : World) (h : Rd encE w (.slice A n c) L) (hn : L.length = n) (hl : n ≤ 9223372036854775807) :
    Calls Tryd.prog 6 #[.slice A n c] w fun e w' => e = .returned (.bool (decide (smallP L))) ∧ Upd [] w w' := by
  have H := Lib.hid h
  have HN := Lib.hid hn
  obtain ⟨r, hr⟩ : ∃ r, decide (smallP L) = r := ⟨_, rfl⟩
  have HR := Lib.hid hr
  rw [hr]
  clear h hn hr
  go_enter Tryd.func6, Tryd.ntmps6
  go_wp2_with fail
  go_loopw [7] (fun v wr => ∃ k : Nat, v = .int .i64 k ∧ k ≤ n ∧ Hid (∀ x ∈ L.take k, EB x) ∧ Hid (Upd [] w wr)) (fun v _ => n - (intOf v).toNat)
  case atStart => exact ⟨0, rfl, by omega, Lib.hid (by simp), Lib.hid (.refl _ _)⟩
  case round =>
    obtain ⟨k, rfl, hk, KE, KU⟩ := hrel
    by_cases hkn : k < n
    · obtain ⟨x, hx⟩ : ∃ x, L[k]? = some x := ⟨_, List.getElem?_eq_getElem (by rw [HN.out]; exact hkn)⟩
      obtain ⟨ad, rfl, hlt, e0, e1, e2, e3, e4, e5, e6, e7, e8⟩ := en_cells (H.out.upd0 KU.out) hx
      have HX := Lib.hid (List.mem_of_getElem? hx)
      have HT := Lib.hid (take_snoc hx)
      obtain ⟨th, ix, st, wr', be, en, kd, er, ta, tn, tc⟩ := x
      have q1 : (0 : Int) ≤ (k : Int) := by omega
      have q2 : (k : Int) < (n : Int) := by omega
      clear hx
      by_cases h1 : be < -1000000
      · have d1 : decide (be < (-1000000 : Int)) = true := by simpa using h1
        have HF : Hid (r = false) := Lib.hid (by rw [← HR.out, decide_eq_false_iff_not]; rintro ⟨h1, _⟩; obtain ⟨g1, g2, g3, g4⟩ := h1 _ HX.out; simp only at g1 g2 g3 g4; omega)
        go_wp2_with fail
        go_ret
        rw [HF.out]
        exact ⟨rfl, KU.out.alloc _⟩
      have d1 : decide (be < (-1000000 : Int)) = false := by simpa using h1
      by_cases h2 : 1000000 < be
      · have d2 : decide ((1000000 : Int) < be) = true := by simpa using h2
        have HF : Hid (r = false) := Lib.hid (by rw [← HR.out, decide_eq_false_iff_not]; rintro ⟨h1, _⟩; obtain ⟨g1, g2, g3, g4⟩ := h1 _ HX.out; simp only at g1 g2 g3 g4; omega)
        go_wp2_with fail
        go_ret
        rw [HF.out]
        exact ⟨rfl, KU.out.alloc _⟩
      have d2 : decide ((1000000 : Int) < be) = false := by simpa using h2
      by_cases h3 : en < -1000000
      · have d3 : decide (en < (-1000000 : Int)) = true := by simpa using h3
        have HF : Hid (r = false) := Lib.hid (by rw [← HR.out, decide_eq_false_iff_not]; rintro ⟨h1, _⟩; obtain ⟨g1, g2, g3, g4⟩ := h1 _ HX.out; simp only at g1 g2 g3 g4; omega)
        go_wp2_with fail
        go_ret
        rw [HF.out]
        exact ⟨rfl, KU.out.alloc _⟩
      have d3 : decide (en < (-1000000 : Int)) = false := by simpa using h3
      by_cases h4 : 1000000 < en
      · have d4 : decide ((1000000 : Int) < en) = true := by simpa using h4
        have HF : Hid (r = false) := Lib.hid (by rw [← HR.out, decide_eq_false_iff_not]; rintro ⟨h1, _⟩; obtain ⟨g1, g2, g3, g4⟩ := h1 _ HX.out; simp only at g1 g2 g3 g4; omega)
        go_wp2_with fail
        go_ret
        rw [HF.out]
        exact ⟨rfl, KU.out.alloc _⟩
      have d4 : decide ((1000000 : Int) < en) = false := by simpa using h4
      have EX : Hid (EB ⟨th, ix, st, wr', be, en, kd, er, ta, tn, tc⟩) := Lib.hid ⟨by simp only; omega, by simp only; omega, by simp only; omega, by simp only; omega⟩
      go_wp2_with fail
      go_roundw
      case rel =>
        refine ⟨k + 1, by go_num, by omega, Lib.hid ?_, Lib.hid (KU.out.alloc _)⟩
        rw [HT.out]
        intro y hy
        rcases List.mem_append.1 hy with hy | hy
        · exact KE.out y hy
        · obtain rfl := List.mem_singleton.1 hy
          exact EX.out
      case measure => simp [intOf]; omega
    · obtain rfl : k = n := by omega
      have HA : Hid (∀ x ∈ L, EB x) := Lib.hid (by have := KE.out; rwa [List.take_of_length_le (by rw [HN.out]; exact Nat.le_refl _)] at this)
      have HF : Hid (r = decide ((k : Int) ≤ 60)) := Lib.hid (by rw [← HR.out, decide_eq_decide]; unfold smallP; rw [HN.out]; exact ⟨fun h => by omega, fun h => ⟨HA.out, by omega⟩⟩)
      go_wp2_with fail
      go_ret
      rw [HF.out]
      exact ⟨rfl, KU.out⟩

set_option maxRecDepth 100000 in
set_option maxHeartbeats 2000000 in
theorem mean_ok (t : Tal) (n : Nat) (w : World) (ht : Sm t n) (hn : n ≤ 1000) :
    Calls Tryd.prog 16 #[talV t] w fun e w' => e = .returned (.int .i64 (if 0 < n ∧ 0 ≤ t.tm then t.tm / n else 0)) ∧ Upd [] w w' := by
  unfold talV
  obtain ⟨dn, wo, ab, bl, cp, fl, tm, lg⟩ := t
  obtain ⟨⟨h1, h1'⟩, ⟨h2, h2'⟩, ⟨h3, h3'⟩, ⟨h4, h4'⟩, ⟨h5, h5'⟩, ⟨h6, h6'⟩, ⟨h7, h7'⟩, ⟨h8, h8'⟩, h9⟩ := ht
  simp only at h1 h1' h2 h2' h3 h3' h4 h4' h5 h5' h6 h6' h7 h7' h8 h8' h9
  have w1 : dn ≤ 1000 := by omega
  have w3 : ab ≤ 1000 := by omega
  have w4 : bl ≤ 1000 := by omega
  have w5 : cp ≤ 1000 := by omega
  have w6 : fl ≤ 1000 := by omega
  have w7 : tm ≤ 2000000000 := by omega
  have w8 : -2000000000 ≤ tm := by omega
  have H9 := Lib.hid h9
  obtain ⟨r, hr⟩ : ∃ r : Int, (if 0 < n ∧ 0 ≤ tm then tm / n else 0) = r := ⟨_, rfl⟩
  have HR := Lib.hid hr
  simp only
  rw [hr]
  clear h1' h2' h3' h4' h5' h6' h7 h7' h8' hn h9 hr
  by_cases c1 : dn + ab + bl + cp + fl < 1
  · have d1 : decide (dn + ab + bl + cp + fl < 1) = true := by simpa using c1
    go_enter Tryd.func16, Tryd.ntmps16
    go_wp2_with fail
    go_ret
    rw [show r = 0 by rw [← HR.out, if_neg (by have := H9.out; omega)]]
    exact ⟨rfl, (Upd.refl [] w).alloc _⟩
  · have d1 : decide (dn + ab + bl + cp + fl < 1) = false := by simpa using c1
    by_cases c2 : tm < 0
    · have d2 : decide (tm < 0) = true := by simpa using c2
      go_enter Tryd.func16, Tryd.ntmps16
      go_wp2_with fail
      go_ret
      rw [show r = 0 by rw [← HR.out, if_neg (by omega)]]
      exact ⟨rfl, (Upd.refl [] w).alloc _⟩
    · have d2 : decide (tm < 0) = false := by simpa using c2
      have z : ¬ dn + ab + bl + cp + fl = 0 := by omega
      have hq : Hid (tm / (dn + ab + bl + cp + fl) = r) := Lib.hid (by rw [← HR.out, H9.out, if_pos (by have := H9.out; omega)])
      go_enter Tryd.func16, Tryd.ntmps16
      go_wp2_with fail
      go_ret
      rw [← hq.out]
      exact ⟨rfl, (Upd.refl [] w).alloc _⟩
end Go.Proofs.YtiahnlaplkeiaaaDoor

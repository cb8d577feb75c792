/-
  slices.BinarySearch of ints.
-/
import Derived.Test.YtjlpogmoebmkdaaDoorMdl2
set_option linter.unusedVariables false
namespace Go.Proofs.YtjlpogmoebmkdaaDoor
open Go.RowKit Assoc MP
attribute [local go_sem] litStep_value

theorem isNaN_int (x : Int) (w : World) : Calls Tryd.prog 49 #[.int .i64 x] w fun e w' => e = .returned (.bool false) ∧ w = w' := by
  go_enter Tryd.func49, Tryd.ntmps49
  go_wp2_with fail
  go_ret
  exact ⟨by simp, rfl⟩
theorem isNaN_cmp (x : Int) (w : World) : Calls Tryd.prog 61 #[.int .i64 x] w fun e w' => e = .returned (.bool false) ∧ w = w' := by
  go_enter Tryd.func61, Tryd.ntmps61
  go_wp2_with fail
  go_ret
  exact ⟨by simp, rfl⟩
set_option maxRecDepth 100000 in
theorem less_int (x y : Int) (w : World) : Calls Tryd.prog 48 #[.int .i64 x, .int .i64 y] w fun e w' => e = .returned (.bool (decide (x < y))) ∧ w = w' := by
  go_enter Tryd.func48, Tryd.ntmps48
  go_wp2_with fail
  refine (isNaN_cmp x w).mono ?_; rintro e w' ⟨rfl, rfl⟩
  go_wp2_with fail
  go_ret
  exact ⟨rfl, rfl⟩
def BinPost (xs : List Int) (k : Int) (w : World) (e : Ending) (w' : World) : Prop := ∃ i b, e = .returned (.tuple #[.int .i64 (i : Nat), .bool b]) ∧ i ≤ xs.length ∧ (∀ j, j < i → xs.getD j 0 < k) ∧ (∀ j, i ≤ j → j < xs.length → k ≤ xs.getD j 0) ∧ Upd [] w w'
set_option maxRecDepth 100000 in
set_option maxHeartbeats 2000000 in
theorem bin_ok (B : Nat) (xs : List Int) (v : Value) (k : Int) (w : World) (h : Ow encK 3 w B v xs) (hs : xs.Pairwise (· < ·)) (hl : xs.length ≤ 1000) :
    Calls Tryd.prog 30 #[v, .int .i64 k] w fun e w' => BinPost xs k w e w' := by
  obtain ⟨A, c, rfl, hnc, hcm⟩ := own_slice h
  obtain ⟨n, hn⟩ : ∃ n, xs.length = n := ⟨_, rfl⟩
  have HO : Hid (w.ownsRow B 3 1 (.slice A n c) n (flat encK xs)) := Lib.hid (by have := h; unfold Ow at this; rw [hn] at this; exact this)
  have HN := Lib.hid hn
  have HS := Lib.hid hs
  rw [hn] at hl hnc ⊢
  clear h hn hs
  go_enter Tryd.func30, Tryd.ntmps30
  go_wp2_with fail
  go_loopw [7, 8] (fun vi vj wr => ∃ i j : Nat, vi = .int .i64 i ∧ vj = .int .i64 j ∧ i ≤ j ∧ j ≤ n ∧ Hid (∀ p, p < i → xs.getD p 0 < k) ∧ Hid (∀ p, j ≤ p → p < n → k ≤ xs.getD p 0) ∧ Hid (Upd [] w wr)) (fun vi vj _ => ((intOf vj).toNat - (intOf vi).toNat))
  case atStart => exact ⟨0, n, rfl, rfl, by omega, by omega, Lib.hid (fun p hp => by omega), Lib.hid (fun p hp hpn => by omega), Lib.hid (.refl _ _)⟩
  case round =>
    obtain ⟨i, j, rfl, rfl, hij, hjn, HA, HB, HU⟩ := hrel
    by_cases hlt : i < j
    · have q0 : (i : Int) < (j : Int) := by omega
      obtain ⟨m, hm⟩ : ∃ m : Nat, ((i : Int) + (j : Int)) / 2 = (m : Int) := ⟨((i + j) / 2 : Nat), by omega⟩
      have m1 : i ≤ m := by omega
      have m2 : m < j := by omega
      obtain ⟨g, cg, cur, e1, _⟩ := own_form HO.out (by omega)
      injection e1 with e1 _ e1'
      subst e1 e1'
      obtain ⟨y, hy⟩ : ∃ y, xs[m]? = some y := ⟨_, List.getElem?_eq_getElem (by rw [HN.out]; omega)⟩
      have HY := Lib.hid hy
      have OW := Lib.hid (own_upd0 HO.out HU.out)
      have e0 : wr.cell? ⟨g, m, none⟩ = some (.int .i64 y) := by
        have := own_cell OW.out _ _ ((flat_get (E := encK) hy (j := 0) (by decide)).trans rfl)
        rwa [show m * encK.s + 0 = m by simp [encI]] at this
      have HG : Hid (xs.getD m 0 = y) := Lib.hid (by rw [List.getD_eq_getElem?_getD, hy]; rfl)
      have q1 : (0 : Int) ≤ (m : Int) := by omega
      have q2 : (m : Int) < (n : Int) := by omega
      clear hy
      go_wp2_with fail
      refine (less_int y k wr).mono ?_; rintro e w' ⟨rfl, rfl⟩
      by_cases hyk : y < k
      · have d : decide (y < k) = true := by simpa using hyk
        have HA2 : Hid (∀ p, p < m + 1 → xs.getD p 0 < k) := Lib.hid (fun p hp => by
          rcases Nat.lt_or_ge p m with h1 | h1
          · have h2 := List.pairwise_iff_getElem.1 HS.out p m (by rw [HN.out]; omega) (by rw [HN.out]; omega) h1
            rw [List.getD_eq_getElem?_getD, List.getElem?_eq_getElem (by rw [HN.out]; omega)]
            have h3 := (List.getElem?_eq_some_iff.1 HY.out).2
            rw [h3] at h2
            simp only [Option.getD_some]
            omega
          · obtain rfl : p = m := by omega
            rw [HG.out]; exact hyk)
        rw [d]
        clear hyk d e0
        go_wp2_with fail
        go_roundw
        case rel => exact ⟨m + 1, j, by go_num, rfl, by omega, by omega, HA2, HB, HU⟩
        case measure => simp [intOf]; omega
      · have d : decide (y < k) = false := by simpa using hyk
        have HB2 : Hid (∀ p, m ≤ p → p < n → k ≤ xs.getD p 0) := Lib.hid (fun p hp hpn => by
          rcases Nat.lt_or_ge m p with h1 | h1
          · have h2 := List.pairwise_iff_getElem.1 HS.out m p (by rw [HN.out]; omega) (by rw [HN.out]; omega) h1
            rw [List.getD_eq_getElem?_getD, List.getElem?_eq_getElem (by rw [HN.out]; omega)]
            have h3 := (List.getElem?_eq_some_iff.1 HY.out).2
            rw [h3] at h2
            simp only [Option.getD_some]
            omega
          · obtain rfl : p = m := by omega
            rw [HG.out]; omega)
        rw [d]
        clear hyk d e0
        go_wp2_with fail
        go_roundw
        case rel => exact ⟨i, m, rfl, rfl, by omega, by omega, HA, HB2, HU⟩
        case measure => simp [intOf]; omega
    · obtain rfl : i = j := by omega
      by_cases hin : i < n
      · obtain ⟨g, cg, cur, e1, _⟩ := own_form HO.out (by omega)
        injection e1 with e1 _ e1'
        subst e1 e1'
        obtain ⟨y, hy⟩ : ∃ y, xs[i]? = some y := ⟨_, List.getElem?_eq_getElem (by rw [HN.out]; omega)⟩
        have OW := Lib.hid (own_upd0 HO.out HU.out)
        have e0 : wr.cell? ⟨g, i, none⟩ = some (.int .i64 y) := by
          have := own_cell OW.out _ _ ((flat_get (E := encK) hy (j := 0) (by decide)).trans rfl)
          rwa [show i * encK.s + 0 = i by simp [encI]] at this
        have q1 : (0 : Int) ≤ (i : Int) := by omega
        have q2 : (i : Int) < (n : Int) := by omega
        clear hy
        by_cases hyk : y = k
        · have d : (y == k) = true := by simpa using hyk
          clear hyk
          go_wp2_with fail
          go_ret2
          unfold BinPost
          exact ⟨i, _, rfl, by rw [HN.out]; exact hjn, HA.out, by rw [HN.out]; exact HB.out, HU.out⟩
        · have d : (y == k) = false := by simpa using hyk
          clear hyk
          go_wp2_with fail
          refine (isNaN_int y _).mono ?_; rintro e w' ⟨rfl, rfl⟩
          go_wp2_with fail
          go_ret2
          unfold BinPost
          exact ⟨i, _, rfl, by rw [HN.out]; exact hjn, HA.out, by rw [HN.out]; exact HB.out, HU.out⟩
      · have q2 : ¬ (i : Int) < (n : Int) := by omega
        go_wp2_with fail
        go_ret2
        unfold BinPost
        exact ⟨i, _, rfl, by rw [HN.out]; exact hjn, HA.out, by rw [HN.out]; exact HB.out, HU.out⟩
end Go.Proofs.YtjlpogmoebmkdaaDoor

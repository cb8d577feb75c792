/-
  concordref09.in, concordref09.arg.
-/
import Derived.Test.YtblfklnnojhadaaDoorRightA
set_option linter.unusedVariables false
namespace Go.Proofs.YtblfklnnojhadaaDoor
open Go.RowKit

def inB (k : Int) (xs : List Int) : Bool := xs.contains k
theorem in_ok (k : Int) (v : Value) (n : Nat) (xs : List Int) (w : World) (hs : Src w 1 v n (xs.map (Value.int .i64))) (hn : n ≤ 1000000) :
    Calls Tryd.prog 39 #[.int .i64 k, v] w fun e w' => e = .returned (.bool (inB k xs)) ∧ w = w' := by
  have hl : xs.length = n := by simpa using hs.1
  obtain ⟨_, A, c, rfl, hc⟩ := hs
  have HC := Lib.hid hc
  have HL := Lib.hid hl
  clear hc hl
  go_enter Tryd.func39, Tryd.ntmps39
  go_wp2_with fail
  go_loop [5] (fun u => ∃ i : Nat, u = .int .i64 i ∧ i ≤ n ∧ Hid (∀ j, j < i → xs.getD j 0 ≠ k)) (fun u => n - (intOf u).toNat)
  case atStart => exact ⟨0, rfl, by omega, Lib.hid (by intro j hj; omega)⟩
  case round =>
    obtain ⟨i, rfl, hi, HD⟩ := hrel
    by_cases hin : i < n
    · obtain ⟨x, hx⟩ : ∃ x, xs[i]? = some x := ⟨_, List.getElem?_eq_getElem (by rw [HL.out]; exact hin)⟩
      obtain ⟨ad, rfl, _, f1⟩ := HC.out i (.int .i64 x) (by simp [hx])
      have HX := Lib.hid hx
      clear hx
      by_cases hxk : x = k
      · subst hxk
        have HR : Hid (inB x xs = true) := Lib.hid (by unfold inB; simp; exact List.mem_of_getElem? HX.out)
        go_wp2_with fail
        go_ret
        rw [HR.out]
        exact ⟨rfl, rfl⟩
      · have e1 : (x == k) = false := by simpa using hxk
        have HN := Lib.hid hxk
        clear hxk
        go_wp2_with fail
        go_round
        case rel =>
          refine ⟨i + 1, by go_num, by omega, Lib.hid ?_⟩
          intro j hj
          rcases Nat.lt_or_eq_of_le (Nat.le_of_lt_succ hj) with h | h
          · exact HD.out j h
          · subst h
            rw [List.getD_eq_getElem?_getD, HX.out]
            exact HN.out
        case measure => simp [intOf]; omega
    · obtain rfl : n = i := by omega
      have HR : Hid (inB k xs = false) := Lib.hid (by
        unfold inB
        rw [List.contains_eq_mem]
        simp only [decide_eq_false_iff_not]
        intro hm
        obtain ⟨j, hj, e⟩ := List.getElem_of_mem hm
        have := HD.out j (by rw [← HL.out]; exact hj)
        rw [List.getD_eq_getElem?_getD, List.getElem?_eq_getElem hj] at this
        exact this e)
      go_wp2_with fail
      go_ret
      rw [HR.out]
      exact ⟨rfl, rfl⟩

set_option maxHeartbeats 1000000 in
theorem rarg_ok (r n : Int) (there : Bool) (w : World) : Calls Tryd.prog 44 #[.agg #[.int .i64 r, .int .i64 n], .bool there] w fun e w' => e = .returned (.bool (argB r n there)) ∧ Upd [] w w' := by
  cases there with
  | false =>
    have HR : Hid (argB r n false = (r == 0 && n == 0)) := Lib.hid (by unfold argB; rw [Bool.eq_iff_iff]; simp)
    go_enter Tryd.func44, Tryd.ntmps44
    go_wp2_with fail
    all_goals
      go_ret
      exact ⟨by rw [HR.out]; simp [*], (Upd.refl [] w).alloc _⟩
  | true =>
    by_cases h1 : 0 ≤ r
    · by_cases h2 : r ≤ 8
      · by_cases h3 : -999 ≤ n
        · by_cases h4 : n ≤ 999
          · have HR : Hid (argB r n true = true) := Lib.hid (by unfold argB; simp [h1, h2, h3, h4])
            go_enter Tryd.func44, Tryd.ntmps44
            go_wp2_with fail
            go_ret
            rw [HR.out]
            exact ⟨rfl, (Upd.refl [] w).alloc _⟩
          · have HR : Hid (argB r n true = false) := Lib.hid (by unfold argB; simp [h4])
            have e4 : decide (n ≤ 999) = false := by simpa using h4
            go_enter Tryd.func44, Tryd.ntmps44
            go_wp2_with fail
            go_ret
            rw [HR.out]
            exact ⟨rfl, (Upd.refl [] w).alloc _⟩
        · have HR : Hid (argB r n true = false) := Lib.hid (by unfold argB; simp [h3])
          have e3 : decide (-999 ≤ n) = false := by simpa using h3
          go_enter Tryd.func44, Tryd.ntmps44
          go_wp2_with fail
          go_ret
          rw [HR.out]
          exact ⟨rfl, (Upd.refl [] w).alloc _⟩
      · have HR : Hid (argB r n true = false) := Lib.hid (by unfold argB; simp [h2])
        have e2 : decide (r ≤ 8) = false := by simpa using h2
        go_enter Tryd.func44, Tryd.ntmps44
        go_wp2_with fail
        go_ret
        rw [HR.out]
        exact ⟨rfl, (Upd.refl [] w).alloc _⟩
    · have HR : Hid (argB r n true = false) := Lib.hid (by unfold argB; simp [h1])
      have e1 : decide (0 ≤ r) = false := by simpa using h1
      go_enter Tryd.func44, Tryd.ntmps44
      go_wp2_with fail
      go_ret
      rw [HR.out]
      exact ⟨rfl, (Upd.refl [] w).alloc _⟩
end Go.Proofs.YtblfklnnojhadaaDoor

/-
  cmp.Compare and cmp.Or at int: by contracts.
-/
import Derived.Test.YtiahnlaplkeiaaaDoorBase
import Derived.Test.YtiahnlaplkeiaaaDoorProg
namespace Go.Proofs.YtiahnlaplkeiaaaDoor
open Go.RowKit

/-- What cmp.Compare says of two ints. -/
def cmpI (a b : Int) : Int := if a < b then -1 else if b < a then 1 else 0

theorem isNaN_ok (a : Int) (w : World) : Calls Tryd.prog 42 #[.int .i64 a] w fun e w' => e = .returned (.bool false) ∧ w = w' := by
  have h : (a != a) = false := by simp
  go_enter Tryd.func42, Tryd.ntmps42
  go_wp2_with fail
  go_ret
  exact ⟨rfl, rfl⟩

theorem compare_ok (a b : Int) (w : World) : Calls Tryd.prog 29 #[.int .i64 a, .int .i64 b] w fun e w' => e = .returned (.int .i64 (cmpI a b)) ∧ w = w' := by
  have hc : ∀ v, v = cmpI a b → Calls Tryd.prog 29 #[.int .i64 a, .int .i64 b] w (fun e w' => e = .returned (.int .i64 v) ∧ w = w') → Calls Tryd.prog 29 #[.int .i64 a, .int .i64 b] w fun e w' => e = .returned (.int .i64 (cmpI a b)) ∧ w = w' := by
    rintro v rfl h; exact h
  rcases Int.lt_trichotomy a b with h | h | h
  · refine hc (-1) (by unfold cmpI; rw [if_pos h]) ?_
    go_enter Tryd.func29, Tryd.ntmps29
    go_wp2_with ((go_at_call 42); (refine (isNaN_ok _ _).mono ?_); (rintro e w' ⟨rfl, rfl⟩))
    go_ret
    exact ⟨rfl, rfl⟩
  · have h1 : ¬ a < b := by omega
    have h2 : ¬ b < a := by omega
    refine hc 0 (by unfold cmpI; rw [if_neg h1, if_neg h2]) ?_
    clear h
    go_enter Tryd.func29, Tryd.ntmps29
    go_wp2_with ((go_at_call 42); (refine (isNaN_ok _ _).mono ?_); (rintro e w' ⟨rfl, rfl⟩))
    go_ret
    exact ⟨rfl, rfl⟩
  · have h1 : ¬ a < b := by omega
    refine hc 1 (by unfold cmpI; rw [if_neg h1, if_pos h]) ?_
    go_enter Tryd.func29, Tryd.ntmps29
    go_wp2_with ((go_at_call 42); (refine (isNaN_ok _ _).mono ?_); (rintro e w' ⟨rfl, rfl⟩))
    go_ret
    exact ⟨rfl, rfl⟩

/-- What cmp.Or says of some ints: the first that is not 0. -/
def orL : List Int → Int
  | [] => 0
  | a :: l => if a = 0 then orL l else a
theorem orL_drop (xs : List Int) (k : Nat) (x : Int) (h : xs[k]? = some x) : orL (xs.drop k) = if x = 0 then orL (xs.drop (k + 1)) else x := by
  obtain ⟨hk, rfl⟩ := List.getElem?_eq_some_iff.1 h
  rw [List.drop_eq_getElem_cons hk]
  rfl

set_option maxHeartbeats 400000 in
theorem or_ok (g c : Nat) (xs : List Int) (w : World) (hb : Blk w g 3 (xs.map (Value.int .i64)).toArray) (hn : xs.length ≤ 1000) :
    Calls Tryd.prog 28 #[.slice (some ⟨g, 0, none⟩) xs.length c] w fun e w' => e = .returned (.int .i64 (orL xs)) ∧ w = w' := by
  generalize hX : orL xs = X
  have HX := Lib.hid hX
  clear hX
  obtain ⟨n, HN⟩ : ∃ n, Hid (xs.length = n) := ⟨_, rfl⟩
  rw [HN.out]
  rw [HN.out] at hn
  go_enter Tryd.func28, Tryd.ntmps28
  go_wp2_with fail
  go_loop [8] (fun v => ∃ k : Nat, k ≤ n ∧ v = .int .i64 k ∧ Hid (orL (xs.drop k) = X)) (fun v => n - (intOf v).toNat)
  case atStart => exact ⟨0, by omega, rfl, Lib.hid (by simpa using HX.out)⟩
  case round =>
    obtain ⟨k, hk, rfl, hX⟩ := hrel
    by_cases hlt : k < n
    · obtain ⟨x, hx⟩ : ∃ x, xs[k]? = some x := ⟨_, List.getElem?_eq_getElem (by have := HN.out; omega)⟩
      have f1 : w.cell? ⟨g, k, none⟩ = some (.int .i64 x) := by rw [hb.cell]; simp [hx]
      have hd := orL_drop xs k x hx
      rw [hX.out] at hd
      have HD := Lib.hid hd
      clear hd hx
      by_cases h0 : x = 0
      · subst h0
        go_wp2_with fail
        go_round
        case rel => exact ⟨k + 1, by omega, by go_num, Lib.hid (by rw [HD.out]; rfl)⟩
        case measure => simp [intOf]; omega
      · have h1 : (x != 0) = true := by simpa using h0
        have H0 := Lib.hid h0
        clear h0
        go_wp2_with fail
        go_ret
        exact ⟨by rw [HD.out, if_neg H0.out]; rfl, rfl⟩
    · have : k = n := by omega
      subst this
      have hz : X = 0 := by rw [← hX.out, List.drop_eq_nil_of_le (by have := HN.out; omega)]; rfl
      have HZ := Lib.hid hz
      clear hz
      go_wp2_with fail
      go_ret
      exact ⟨by rw [HZ.out]; rfl, rfl⟩
end Go.Proofs.YtiahnlaplkeiaaaDoor

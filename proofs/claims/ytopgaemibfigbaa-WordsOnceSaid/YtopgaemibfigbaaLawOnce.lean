/-
  WordsOnce, the walk.
-/
import Derived.Test.YtopgaemibfigbaaPlay
namespace Go.Proofs.Ytopgaemibfigbaa
open Go.RowKit

theorem idx8 (i : Int) : 0 ≤ (wrap64 (i.tmod 8 + 8)).tmod 8 ∧ (wrap64 (i.tmod 8 + 8)).tmod 8 < 8 := by
  have h1 : -8 < i.tmod 8 ∧ i.tmod 8 < 8 := by
    rcases Int.le_total 0 i with h | h
    · rw [Int.tmod_eq_emod_of_nonneg h]; omega
    · obtain ⟨j, rfl⟩ : ∃ j, i = -j := ⟨-i, by omega⟩
      rw [Int.neg_tmod, Int.tmod_eq_emod_of_nonneg (by omega)]; omega
  have h2 : wrap64 (i.tmod 8 + 8) = i.tmod 8 + 8 := IntWalk.wrap64_in _ (by omega)
  rw [h2, Int.tmod_eq_emod_of_nonneg (by omega)]
  omega

set_option maxHeartbeats 1000000 in
theorem law_once (A : Option Addr) (n c : Nat) (i old x y : Int) (w : World) (hl : Acts w A n) (hm : n ≤ 9223372036854775807) :
    Calls Try.prog 3 #[.slice A n c, .int .i64 i, .int .u64 old, .int .u64 x, .int .u64 y] w fun e w' => e = .returned (.bool true) ∧ Upd [] w w' := by
  go_enter Try.func3, Try.ntmps3
  go_wp2_with fail
  refine (play_any A n c w hl hm).mono ?_; rintro e w1 ⟨v, rfl, hp, u1⟩
  clear hl
  rcases hp with rfl | ⟨a, b, ws, cnt, rfl, hA, hws, hc0, hc1, ha, hb⟩
  · go_wp2_with fail
    refine (alive_ok _).mono ?_; rintro e w2 ⟨rfl, u2⟩
    go_wp2_with fail
    go_ret
    exact ⟨rfl, u1.trans u2⟩
  · have HW := Lib.hid hws
    clear hws
    go_wp2_with fail
    have hr := idx8 i
    generalize (wrap64 (i.tmod 8 + 8)).tmod 8 = r at hr ⊢
    obtain ⟨z, hz⟩ : ∃ z, ws[r.toNat]? = some z := ⟨_, List.getElem?_eq_getElem (by have := HW.out; omega)⟩
    have HZ := Lib.hid hz
    clear hz
    refine (load_ok a b ws cnt r z _ hA (by omega) hr.1 HZ.out).mono ?_; rintro e w2 ⟨rfl, hA2, u2⟩
    clear hA
    have hset : ∀ v : Int, (ws.set r.toNat v)[r.toNat]? = some v := fun v => by rw [List.getElem?_set]; have := HW.out; simp; omega
    have HS := Lib.hid hset
    clear hset
    have fin : ∀ w3 w4 w5 w6, Upd [a, b] w2 w3 → Upd [a, b] w3 w4 → Upd [a] w4 w5 → Upd [] w5 w6 → Upd [] w w6 := fun w3 w4 w5 w6 h3 h4 h5 h6 =>
      u1.trans' (((u2.mono (by simp)).trans (h3.trans (h4.trans (h5.mono (by simp))))).trans (h6.mono (by simp))) (by simp; omega)
    have FIN := Lib.hid fin
    clear fin
    by_cases e1 : z = old
    · subst e1
      by_cases e2 : x = z
      · subst e2
        go_wp2_with fail
        refine (cas_ok a b ws _ r x x x _ hA2 (by omega) hr.1 HZ.out).mono ?_; rintro e w3 ⟨rfl, hA3, u3⟩
        rw [if_pos rfl] at hA3
        go_wp2_with fail
        refine (cas_ok a b _ _ r x y x _ hA3 (by omega) hr.1 (HS.out x)).mono ?_; rintro e w4 ⟨rfl, hA4, u4⟩
        rw [if_pos rfl] at hA4
        go_wp2_with fail
        refine (load_ok a b _ _ r y _ hA4 (by omega) hr.1 (by rw [List.set_set]; exact HS.out y)).mono ?_; rintro e w5 ⟨rfl, hA5, u5⟩
        clear hA2 hA3 hA4 hA5
        go_wp2_with fail
        refine (no_nil _).mono ?_; rintro e w' ⟨rfl, rfl⟩
        go_wp2_with fail
        refine (no_nil _).mono ?_; rintro e w' ⟨rfl, rfl⟩
        go_wp2_with fail
        refine (no_nil _).mono ?_; rintro e w' ⟨rfl, rfl⟩
        go_wp2_with fail
        refine (no_nil _).mono ?_; rintro e w' ⟨rfl, rfl⟩
        go_wp2_with fail
        refine (alive_ok _).mono ?_; rintro e w6 ⟨rfl, u6⟩
        go_wp2_with fail
        go_ret
        exact ⟨rfl, FIN.out _ _ _ _ u3 u4 u5 u6⟩
      · have hb : (x == z) = false := by simpa using e2
        have E2 := Lib.hid e2
        clear e2
        go_wp2_with fail
        refine (cas_ok a b ws _ r z x z _ hA2 (by omega) hr.1 HZ.out).mono ?_; rintro e w3 ⟨rfl, hA3, u3⟩
        rw [if_pos rfl] at hA3
        go_wp2_with fail
        refine (cas_ok a b _ _ r z y x _ hA3 (by omega) hr.1 (HS.out x)).mono ?_; rintro e w4 ⟨rfl, hA4, u4⟩
        rw [if_neg E2.out] at hA4
        go_wp2_with fail
        refine (load_ok a b _ _ r x _ hA4 (by omega) hr.1 (HS.out x)).mono ?_; rintro e w5 ⟨rfl, hA5, u5⟩
        clear hA2 hA3 hA4 hA5
        go_wp2_with fail
        refine (no_nil _).mono ?_; rintro e w' ⟨rfl, rfl⟩
        go_wp2_with fail
        refine (no_nil _).mono ?_; rintro e w' ⟨rfl, rfl⟩
        go_wp2_with fail
        refine (no_nil _).mono ?_; rintro e w' ⟨rfl, rfl⟩
        go_wp2_with fail
        refine (no_nil _).mono ?_; rintro e w' ⟨rfl, rfl⟩
        go_wp2_with fail
        refine (alive_ok _).mono ?_; rintro e w6 ⟨rfl, u6⟩
        go_wp2_with fail
        go_ret
        exact ⟨rfl, FIN.out _ _ _ _ u3 u4 u5 u6⟩
    · have hb : (z == old) = false := by simpa using e1
      have E1 := Lib.hid e1
      clear e1
      go_wp2_with fail
      refine (cas_ok a b ws _ r old x z _ hA2 (by omega) hr.1 HZ.out).mono ?_; rintro e w3 ⟨rfl, hA3, u3⟩
      rw [if_neg E1.out] at hA3
      go_wp2_with fail
      refine (cas_ok a b _ _ r old y z _ hA3 (by omega) hr.1 HZ.out).mono ?_; rintro e w4 ⟨rfl, hA4, u4⟩
      rw [if_neg E1.out] at hA4
      go_wp2_with fail
      refine (load_ok a b _ _ r z _ hA4 (by omega) hr.1 HZ.out).mono ?_; rintro e w5 ⟨rfl, hA5, u5⟩
      clear hA2 hA3 hA4 hA5
      go_wp2_with fail
      refine (no_nil _).mono ?_; rintro e w' ⟨rfl, rfl⟩
      go_wp2_with fail
      refine (no_nil _).mono ?_; rintro e w' ⟨rfl, rfl⟩
      go_wp2_with fail
      refine (no_nil _).mono ?_; rintro e w' ⟨rfl, rfl⟩
      go_wp2_with fail
      refine (no_nil _).mono ?_; rintro e w' ⟨rfl, rfl⟩
      go_wp2_with fail
      refine (alive_ok _).mono ?_; rintro e w6 ⟨rfl, u6⟩
      go_wp2_with fail
      go_ret
      exact ⟨rfl, FIN.out _ _ _ _ u3 u4 u5 u6⟩
end Go.Proofs.Ytopgaemibfigbaa

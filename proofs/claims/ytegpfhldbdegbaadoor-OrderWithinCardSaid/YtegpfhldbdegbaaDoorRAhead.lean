/-
  concordref12.Ahead by its contract.
-/
import Derived.Test.YtegpfhldbdegbaaDoorAtts
import Derived.Test.YtegpfhldbdegbaaDoorOSort
import Derived.Deep.RegionHeld3
set_option linter.unusedVariables false
set_option linter.unusedSimpArgs false
namespace Go.Proofs.YtegpfhldbdegbaaDoor
open Go.RowKit
/-- What Ahead says. -/
def rAh (a3 b3 : Int) (a4 b4 : Bool) (a6 b6 i j : Int) : Bool := if a3 = b3 then (if a4 = b4 then (if a6 = b6 then decide (i < j) else decide (a6 < b6)) else a4) else decide (a3 < b3)
theorem rAh_ahd (L : List Att) (i j : Nat) : rAh (L.getD i default).st (L.getD j default).st (L.getD i default).wr (L.getD j default).wr (L.getD i default).en (L.getD j default).en i j = ahd L i j := by
  rw [Bool.eq_iff_iff, ahd_iff]
  unfold rAh rk
  generalize L.getD i default = x
  generalize L.getD j default = y
  obtain ⟨_, _, s1, d1, _, e1⟩ := x
  obtain ⟨_, _, s2, d2, _, e2⟩ := y
  dsimp only
  by_cases h1 : s1 = s2
  · rw [if_pos h1]
    cases d1 <;> cases d2 <;> simp [h1]
    all_goals
      by_cases h3 : e1 = e2
      · rw [if_pos h3]; simp [h3]
      · rw [if_neg h3]; simp; omega
  · rw [if_neg h1]; simp; omega
theorem ret_bool {a b : Bool} (h : a = b) : Ending.returned (.bool a) = .returned (.bool b) := by rw [h]
set_option maxHeartbeats 2000000 in
theorem rahead_walk (ad : Addr) (n c i j : Nat) (hi : i < n) (hj : j < n) (a1 a2 a3 : Int) (a4 : Bool) (a5 a6 b1 b2 b3 : Int) (b4 : Bool) (b5 b6 : Int) (w : World)
  (x1 : w.cell? (ad.add (i * 6)) = some (.int .i64 a1)) (x2 : w.cell? ⟨(ad.add (i * 6)).block, (ad.add (i * 6)).off + 1, none⟩ = some (.int .i64 a2)) (x3 : w.cell? ⟨(ad.add (i * 6)).block, (ad.add (i * 6)).off + 2, none⟩ = some (.int .i64 a3)) (x4 : w.cell? ⟨(ad.add (i * 6)).block, (ad.add (i * 6)).off + 3, none⟩ = some (.bool a4)) (x5 : w.cell? ⟨(ad.add (i * 6)).block, (ad.add (i * 6)).off + 4, none⟩ = some (.int .i64 a5)) (x6 : w.cell? ⟨(ad.add (i * 6)).block, (ad.add (i * 6)).off + 5, none⟩ = some (.int .i64 a6)) (y1 : w.cell? (ad.add (j * 6)) = some (.int .i64 b1)) (y2 : w.cell? ⟨(ad.add (j * 6)).block, (ad.add (j * 6)).off + 1, none⟩ = some (.int .i64 b2)) (y3 : w.cell? ⟨(ad.add (j * 6)).block, (ad.add (j * 6)).off + 2, none⟩ = some (.int .i64 b3)) (y4 : w.cell? ⟨(ad.add (j * 6)).block, (ad.add (j * 6)).off + 3, none⟩ = some (.bool b4)) (y5 : w.cell? ⟨(ad.add (j * 6)).block, (ad.add (j * 6)).off + 4, none⟩ = some (.int .i64 b5)) (y6 : w.cell? ⟨(ad.add (j * 6)).block, (ad.add (j * 6)).off + 5, none⟩ = some (.int .i64 b6)) :
  Calls Tryd.prog 10 #[.slice (some ad) n c, .int .i64 i, .int .i64 j] w fun e w' => e = .returned (.bool (rAh a3 b3 a4 b4 a6 b6 i j)) ∧ Upd [] w w' := by
  by_cases h3 : a3 = b3
  · subst h3
    by_cases h4 : a4 = b4
    · subst h4
      by_cases h6 : a6 = b6
      · subst h6
        have n0 := World.new_ne w _ x1
        have n1 := World.new_ne w _ x2
        have n2 := World.new_ne w _ x3
        have n3 := World.new_ne w _ x4
        have n4 := World.new_ne w _ x5
        have n5 := World.new_ne w _ x6
        have n6 := World.new_ne w _ y1
        have n7 := World.new_ne w _ y2
        have n8 := World.new_ne w _ y3
        have n9 := World.new_ne w _ y4
        have n10 := World.new_ne w _ y5
        have n11 := World.new_ne w _ y6
        go_enter Tryd.func10, Tryd.ntmps10
        go_wp2_with fail
        go_region_held3 (fun W => W.cell? (ad.add (i * 6)) = some (.int .i64 a1) ∧ W.cell? ⟨(ad.add (i * 6)).block, (ad.add (i * 6)).off + 1, none⟩ = some (.int .i64 a2) ∧ W.cell? ⟨(ad.add (i * 6)).block, (ad.add (i * 6)).off + 2, none⟩ = some (.int .i64 a3) ∧ W.cell? ⟨(ad.add (i * 6)).block, (ad.add (i * 6)).off + 3, none⟩ = some (.bool a4) ∧ W.cell? ⟨(ad.add (i * 6)).block, (ad.add (i * 6)).off + 4, none⟩ = some (.int .i64 a5) ∧ W.cell? ⟨(ad.add (i * 6)).block, (ad.add (i * 6)).off + 5, none⟩ = some (.int .i64 a6) ∧ W.cell? (ad.add (j * 6)) = some (.int .i64 b1) ∧ W.cell? ⟨(ad.add (j * 6)).block, (ad.add (j * 6)).off + 1, none⟩ = some (.int .i64 b2) ∧ W.cell? ⟨(ad.add (j * 6)).block, (ad.add (j * 6)).off + 2, none⟩ = some (.int .i64 a3) ∧ W.cell? ⟨(ad.add (j * 6)).block, (ad.add (j * 6)).off + 3, none⟩ = some (.bool a4) ∧ W.cell? ⟨(ad.add (j * 6)).block, (ad.add (j * 6)).off + 4, none⟩ = some (.int .i64 b5) ∧ W.cell? ⟨(ad.add (j * 6)).block, (ad.add (j * 6)).off + 5, none⟩ = some (.int .i64 a6)) (go_keep) (fail)
        all_goals go_wp2_with fail
        all_goals
          go_ret
          exact ⟨ret_bool (by simp [rAh]), (((Upd.refl [] w).alloc _).alloc _).drew⟩
      · have e6 : (a6 != b6) = true := by simpa using h6
        have H6 := Lib.hid h6
        clear h6
        have n0 := World.new_ne w _ x1
        have n1 := World.new_ne w _ x2
        have n2 := World.new_ne w _ x3
        have n3 := World.new_ne w _ x4
        have n4 := World.new_ne w _ x5
        have n5 := World.new_ne w _ x6
        have n6 := World.new_ne w _ y1
        have n7 := World.new_ne w _ y2
        have n8 := World.new_ne w _ y3
        have n9 := World.new_ne w _ y4
        have n10 := World.new_ne w _ y5
        have n11 := World.new_ne w _ y6
        go_enter Tryd.func10, Tryd.ntmps10
        go_wp2_with fail
        go_region_held3 (fun W => W.cell? (ad.add (i * 6)) = some (.int .i64 a1) ∧ W.cell? ⟨(ad.add (i * 6)).block, (ad.add (i * 6)).off + 1, none⟩ = some (.int .i64 a2) ∧ W.cell? ⟨(ad.add (i * 6)).block, (ad.add (i * 6)).off + 2, none⟩ = some (.int .i64 a3) ∧ W.cell? ⟨(ad.add (i * 6)).block, (ad.add (i * 6)).off + 3, none⟩ = some (.bool a4) ∧ W.cell? ⟨(ad.add (i * 6)).block, (ad.add (i * 6)).off + 4, none⟩ = some (.int .i64 a5) ∧ W.cell? ⟨(ad.add (i * 6)).block, (ad.add (i * 6)).off + 5, none⟩ = some (.int .i64 a6) ∧ W.cell? (ad.add (j * 6)) = some (.int .i64 b1) ∧ W.cell? ⟨(ad.add (j * 6)).block, (ad.add (j * 6)).off + 1, none⟩ = some (.int .i64 b2) ∧ W.cell? ⟨(ad.add (j * 6)).block, (ad.add (j * 6)).off + 2, none⟩ = some (.int .i64 a3) ∧ W.cell? ⟨(ad.add (j * 6)).block, (ad.add (j * 6)).off + 3, none⟩ = some (.bool a4) ∧ W.cell? ⟨(ad.add (j * 6)).block, (ad.add (j * 6)).off + 4, none⟩ = some (.int .i64 b5) ∧ W.cell? ⟨(ad.add (j * 6)).block, (ad.add (j * 6)).off + 5, none⟩ = some (.int .i64 b6)) (go_keep) (fail)
        all_goals go_wp2_with fail
        all_goals
          go_ret
          exact ⟨ret_bool (by simp [rAh, H6.out]), (((Upd.refl [] w).alloc _).alloc _).drew⟩
    · obtain ⟨rfl, rfl⟩ | ⟨rfl, rfl⟩ : (a4 = true ∧ b4 = false) ∨ (a4 = false ∧ b4 = true) := by cases a4 <;> cases b4 <;> simp_all
      · clear h4
        have n0 := World.new_ne w _ x1
        have n1 := World.new_ne w _ x2
        have n2 := World.new_ne w _ x3
        have n3 := World.new_ne w _ x4
        have n4 := World.new_ne w _ x5
        have n5 := World.new_ne w _ x6
        have n6 := World.new_ne w _ y1
        have n7 := World.new_ne w _ y2
        have n8 := World.new_ne w _ y3
        have n9 := World.new_ne w _ y4
        have n10 := World.new_ne w _ y5
        have n11 := World.new_ne w _ y6
        go_enter Tryd.func10, Tryd.ntmps10
        go_wp2_with fail
        go_region_held3 (fun W => W.cell? (ad.add (i * 6)) = some (.int .i64 a1) ∧ W.cell? ⟨(ad.add (i * 6)).block, (ad.add (i * 6)).off + 1, none⟩ = some (.int .i64 a2) ∧ W.cell? ⟨(ad.add (i * 6)).block, (ad.add (i * 6)).off + 2, none⟩ = some (.int .i64 a3) ∧ W.cell? ⟨(ad.add (i * 6)).block, (ad.add (i * 6)).off + 3, none⟩ = some (.bool true) ∧ W.cell? ⟨(ad.add (i * 6)).block, (ad.add (i * 6)).off + 4, none⟩ = some (.int .i64 a5) ∧ W.cell? ⟨(ad.add (i * 6)).block, (ad.add (i * 6)).off + 5, none⟩ = some (.int .i64 a6) ∧ W.cell? (ad.add (j * 6)) = some (.int .i64 b1) ∧ W.cell? ⟨(ad.add (j * 6)).block, (ad.add (j * 6)).off + 1, none⟩ = some (.int .i64 b2) ∧ W.cell? ⟨(ad.add (j * 6)).block, (ad.add (j * 6)).off + 2, none⟩ = some (.int .i64 a3) ∧ W.cell? ⟨(ad.add (j * 6)).block, (ad.add (j * 6)).off + 3, none⟩ = some (.bool false) ∧ W.cell? ⟨(ad.add (j * 6)).block, (ad.add (j * 6)).off + 4, none⟩ = some (.int .i64 b5) ∧ W.cell? ⟨(ad.add (j * 6)).block, (ad.add (j * 6)).off + 5, none⟩ = some (.int .i64 b6)) (go_keep) (fail)
        all_goals go_wp2_with fail
        all_goals
          go_ret
          exact ⟨ret_bool (by simp [rAh]), (((Upd.refl [] w).alloc _).alloc _).drew⟩
      · clear h4
        have n0 := World.new_ne w _ x1
        have n1 := World.new_ne w _ x2
        have n2 := World.new_ne w _ x3
        have n3 := World.new_ne w _ x4
        have n4 := World.new_ne w _ x5
        have n5 := World.new_ne w _ x6
        have n6 := World.new_ne w _ y1
        have n7 := World.new_ne w _ y2
        have n8 := World.new_ne w _ y3
        have n9 := World.new_ne w _ y4
        have n10 := World.new_ne w _ y5
        have n11 := World.new_ne w _ y6
        go_enter Tryd.func10, Tryd.ntmps10
        go_wp2_with fail
        go_region_held3 (fun W => W.cell? (ad.add (i * 6)) = some (.int .i64 a1) ∧ W.cell? ⟨(ad.add (i * 6)).block, (ad.add (i * 6)).off + 1, none⟩ = some (.int .i64 a2) ∧ W.cell? ⟨(ad.add (i * 6)).block, (ad.add (i * 6)).off + 2, none⟩ = some (.int .i64 a3) ∧ W.cell? ⟨(ad.add (i * 6)).block, (ad.add (i * 6)).off + 3, none⟩ = some (.bool false) ∧ W.cell? ⟨(ad.add (i * 6)).block, (ad.add (i * 6)).off + 4, none⟩ = some (.int .i64 a5) ∧ W.cell? ⟨(ad.add (i * 6)).block, (ad.add (i * 6)).off + 5, none⟩ = some (.int .i64 a6) ∧ W.cell? (ad.add (j * 6)) = some (.int .i64 b1) ∧ W.cell? ⟨(ad.add (j * 6)).block, (ad.add (j * 6)).off + 1, none⟩ = some (.int .i64 b2) ∧ W.cell? ⟨(ad.add (j * 6)).block, (ad.add (j * 6)).off + 2, none⟩ = some (.int .i64 a3) ∧ W.cell? ⟨(ad.add (j * 6)).block, (ad.add (j * 6)).off + 3, none⟩ = some (.bool true) ∧ W.cell? ⟨(ad.add (j * 6)).block, (ad.add (j * 6)).off + 4, none⟩ = some (.int .i64 b5) ∧ W.cell? ⟨(ad.add (j * 6)).block, (ad.add (j * 6)).off + 5, none⟩ = some (.int .i64 b6)) (go_keep) (fail)
        all_goals go_wp2_with fail
        all_goals
          go_ret
          exact ⟨ret_bool (by simp [rAh]), (((Upd.refl [] w).alloc _).alloc _).drew⟩
  · have e3 : (a3 != b3) = true := by simpa using h3
    have H3 := Lib.hid h3
    clear h3
    have n0 := World.new_ne w _ x1
    have n1 := World.new_ne w _ x2
    have n2 := World.new_ne w _ x3
    have n3 := World.new_ne w _ x4
    have n4 := World.new_ne w _ x5
    have n5 := World.new_ne w _ x6
    have n6 := World.new_ne w _ y1
    have n7 := World.new_ne w _ y2
    have n8 := World.new_ne w _ y3
    have n9 := World.new_ne w _ y4
    have n10 := World.new_ne w _ y5
    have n11 := World.new_ne w _ y6
    go_enter Tryd.func10, Tryd.ntmps10
    go_wp2_with fail
    go_region_held3 (fun W => W.cell? (ad.add (i * 6)) = some (.int .i64 a1) ∧ W.cell? ⟨(ad.add (i * 6)).block, (ad.add (i * 6)).off + 1, none⟩ = some (.int .i64 a2) ∧ W.cell? ⟨(ad.add (i * 6)).block, (ad.add (i * 6)).off + 2, none⟩ = some (.int .i64 a3) ∧ W.cell? ⟨(ad.add (i * 6)).block, (ad.add (i * 6)).off + 3, none⟩ = some (.bool a4) ∧ W.cell? ⟨(ad.add (i * 6)).block, (ad.add (i * 6)).off + 4, none⟩ = some (.int .i64 a5) ∧ W.cell? ⟨(ad.add (i * 6)).block, (ad.add (i * 6)).off + 5, none⟩ = some (.int .i64 a6) ∧ W.cell? (ad.add (j * 6)) = some (.int .i64 b1) ∧ W.cell? ⟨(ad.add (j * 6)).block, (ad.add (j * 6)).off + 1, none⟩ = some (.int .i64 b2) ∧ W.cell? ⟨(ad.add (j * 6)).block, (ad.add (j * 6)).off + 2, none⟩ = some (.int .i64 b3) ∧ W.cell? ⟨(ad.add (j * 6)).block, (ad.add (j * 6)).off + 3, none⟩ = some (.bool b4) ∧ W.cell? ⟨(ad.add (j * 6)).block, (ad.add (j * 6)).off + 4, none⟩ = some (.int .i64 b5) ∧ W.cell? ⟨(ad.add (j * 6)).block, (ad.add (j * 6)).off + 5, none⟩ = some (.int .i64 b6)) (go_keep) (fail)
    all_goals go_wp2_with fail
    all_goals
      go_ret
      exact ⟨ret_bool (by simp [rAh, H3.out]), (((Upd.refl [] w).alloc _).alloc _).drew⟩

/-- Ahead by places. -/
theorem rahead_at (A : Option Addr) (n c : Nat) (L : List Att) (w : World) (h : Atts w A L) (hn : L.length = n) (i j : Nat) (hi : i < n) (hj : j < n) :
    Calls Tryd.prog 10 #[.slice A n c, .int .i64 i, .int .i64 j] w fun e w' => e = .returned (.bool (ahd L i j)) ∧ Upd [] w w' := by
  obtain ⟨ad, rfl, c1, c2, c3, c4, c5, c6, _⟩ := h i _ (List.getElem?_eq_getElem (by omega))
  obtain ⟨ad', e, d1, d2, d3, d4, d5, d6, _⟩ := h j _ (List.getElem?_eq_getElem (by omega))
  obtain rfl := Option.some.inj e
  rw [← rAh_ahd]
  rw [List.getD_eq_getElem?_getD, List.getD_eq_getElem?_getD, List.getElem?_eq_getElem (show i < L.length by omega), List.getElem?_eq_getElem (show j < L.length by omega)]
  exact rahead_walk ad n c i j hi hj _ _ _ _ _ _ _ _ _ _ _ _ w c1 c2 c3 c4 c5 c6 d1 d2 d3 d4 d5 d6
end Go.Proofs.YtegpfhldbdegbaaDoor

/-
  stats.Quantile.
-/
import Derived.Test.YtiahnlaplkeiaaaDoorStBy
import Derived.Test.YtiahnlaplkeiaaaDoorSortJ
set_option linter.unusedVariables false
namespace Go.Proofs.YtiahnlaplkeiaaaDoor
open Go.RowKit St
attribute [local go_sem] litStep_value

set_option maxRecDepth 100000 in
set_option maxHeartbeats 4000000 in
theorem quantile_ok (A : Option Addr) (n c : Nat) (L : List En) (p : Int) (w : World) (h : Rd encE w (.slice A n c) L) (hn : L.length = n) (hl : n ≤ 100) (he : ∀ x ∈ L, EB x) :
    Calls Tryd.prog 11 #[.slice A n c, .int .i64 p] w fun e w' => e = .returned (.int .i64 (quantL L p)) ∧ Upd [] w w' := by
  have H := Lib.hid h
  have HN := Lib.hid hn
  have HE := Lib.hid he
  clear h hn he
  by_cases h0 : n = 0
  · subst h0
    have HQ : Hid (quantL L p = 0) := Lib.hid (by unfold quantL; rw [if_pos HN.out])
    go_enter Tryd.func11, Tryd.ntmps11
    go_wp2_with fail
    go_ret
    rw [HQ.out]
    exact ⟨rfl, .refl _ _⟩
  have d0 : ((n : Int) == 0) = false := by
    have : ¬ (n : Int) = 0 := by omega
    simpa using this
  go_enter Tryd.func11, Tryd.ntmps11
  go_wp2_with fail
  go_loopw [5, 13] (fun vl v wr => ∃ k : Nat, v = .int .i64 k ∧ k ≤ n ∧ Hid (OwI wr w.heap.size vl k ((L.take k).map took)) ∧ Hid (Upd [] w wr)) (fun _ v _ => n - (intOf v).toNat)
  case atStart => exact ⟨0, rfl, by omega, Lib.hid (own_nil _ _ _ _), Lib.hid (.refl _ _)⟩
  case round =>
    obtain ⟨k, rfl, hk, KO, KU⟩ := hrel
    by_cases hkn : k < n
    · obtain ⟨x, hx⟩ : ∃ x, L[k]? = some x := ⟨_, List.getElem?_eq_getElem (by rw [HN.out]; exact hkn)⟩
      obtain ⟨f1, f2, f3, f4⟩ := HE.out _ (List.mem_of_getElem? hx)
      have HT := Lib.hid (take_snoc hx)
      obtain ⟨ad, rfl, hlt, e0, e1, e2, e3, e4, e5, e6, e7, e8⟩ := en_cells (H.out.upd0 KU.out) hx
      obtain ⟨th, ix, st, wr', be, en, kd, er, ta, tn, tc⟩ := x
      simp only at f1 f2 f3 f4
      have q1 : (0 : Int) ≤ (k : Int) := by omega
      have q2 : (k : Int) < (n : Int) := by omega
      clear hx
      go_wp2_with (at_builtin; refine stopped ?_)
      refine Lib.hid ?_
      refine wpList_app _ (by rfl) (.tmp 17) (.tmp 25) _ (by rfl) elem_int u5 _ (by rfl) (by rfl) (own_upd0 (own_upd0 KO.out ((Upd.refl [] wr).alloc _)) ((Upd.refl [] _).alloc _)) (.of_blk (q := wr.heap.size + 1) (by have := Blk.new (wr.alloc (.cells #[.int .i64 th, .int .i64 ix, .int .i64 st, .bool wr', .int .i64 be, .int .i64 en, .int .i64 kd, .slice ta tn tc, .int .i64 er] 45)) 3 #[.int .i64 (en - be)]; simpa using this) (m := 1) 1 rfl) (by intro u hu; simp at hu; subst hu; rfl) (by simp only [maxLen]; omega) (by omega) (Nat.le_trans KU.out.size (by simp; omega)) ?_
      intro v7 w7 o7 u7 b7
      have U7 : Hid (Upd [] w w7) := Lib.hid (KU.out.trans' ((((Upd.refl _ wr).alloc _).alloc _).trans u7) (fun k hk => .inr (own_lt KO.out (by simpa using hk)).1))
      have O7 : Hid (OwI w7 w.heap.size v7 (k + 1) ((L.take (k + 1)).map took)) := Lib.hid (by
        rw [HT.out]
        unfold OwI
        rw [List.map_append, List.map_append]
        exact o7)
      clear o7 u7 b7 e0 e1 e2 e3 e4 e5 e6 e7 e8
      go_wp2_with fail
      go_roundw
      case rel => exact ⟨k + 1, by go_num, by omega, O7, U7⟩
      case measure => simp [intOf]; omega
    · obtain rfl : k = n := by omega
      have FT : Hid (L.take k = L) := Lib.hid (List.take_of_length_le (by rw [HN.out]; exact Nat.le_refl _))
      rw [FT.out] at KO
      go_wp2_with fail
      refine (sortI_ok KO.out (by omega)).mono ?_
      rintro e w2 ⟨rfl, o2, u2⟩
      have O2 : Hid (OwI w2 w.heap.size u5 k (tooks L)) := Lib.hid o2
      have U2 : Hid (Upd [] w w2) := Lib.hid (KU.out.trans' u2 (fun k hk => .inr (own_lt KO.out (by simpa using hk)).1))
      clear o2 u2 KO
      obtain ⟨g, cg, cur, rfl, hg, _⟩ := own_form O2.out (by omega)
      have TL : Hid ((tooks L).length = k) := Lib.hid (by rw [tooks_len, HN.out])
      obtain ⟨i, hi⟩ : ∃ i : Nat, qIx k p = i := ⟨(qIx k p).toNat, by have := qIx_rng (n := k) (by omega) p; omega⟩
      have ir := qIx_rng (n := k) (by omega) p
      have mx : max 0 (wrap64 (wrap64 ((wrap64 (wrap64 ((k : Int) * max 0 (min p 1000)) + 999)).tdiv 1000) - 1)) = (i : Int) := by
        have e : max 0 (min p 1000) = clampP p := rfl
        have r := clampP_rng p
        have m1 : 0 ≤ (k : Int) * clampP p := Int.mul_nonneg (by omega) (by omega)
        have m2 : (k : Int) * clampP p ≤ k * 1000 := Int.mul_le_mul_of_nonneg_left (by omega) (by omega)
        have w1 : ∀ z : Int, -9000000 ≤ z → z ≤ 9000000 → wrap64 z = z := fun z _ _ => by unfold wrap64; omega
        rw [e, w1 ((k : Int) * clampP p) (by omega) (by omega), w1 ((k : Int) * clampP p + 999) (by omega) (by omega), Int.tdiv_eq_ediv_of_nonneg (by omega), w1 (((k : Int) * clampP p + 999) / 1000) (by omega) (by omega), w1 (((k : Int) * clampP p + 999) / 1000 - 1) (by omega) (by omega)]
        exact hi
      obtain ⟨y, hy⟩ : ∃ y, (tooks L)[i]? = some y := ⟨_, List.getElem?_eq_getElem (by rw [TL.out]; omega)⟩
      have HR : Hid (quantL L p = y) := Lib.hid (by unfold quantL; rw [HN.out, if_neg h0, hi, List.getD_eq_getElem?_getD]; simp [hy])
      have c0 : w2.cell? ⟨g, i, none⟩ = some (.int .i64 y) := own_cell O2.out i _ (by rw [List.getElem?_map, hy]; rfl)
      have p1 : (0 : Int) ≤ (i : Int) := by omega
      have p2 : (i : Int) < (k : Int) := by omega
      clear hy hi ir
      go_wp2_with fail
      go_ret
      rw [HR.out]
      exact ⟨rfl, U2.out⟩
end Go.Proofs.YtiahnlaplkeiaaaDoor

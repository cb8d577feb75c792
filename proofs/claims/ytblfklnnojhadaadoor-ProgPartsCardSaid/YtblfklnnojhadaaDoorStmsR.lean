/-
  Statements as they lie one behind the other; two transactions behind one another in memory.
-/
import Derived.Test.YtblfklnnojhadaaDoorPAlive
set_option linter.unusedVariables false
namespace Go.Proofs.YtblfklnnojhadaaDoor
open Go.RowKit

def rowsOf (vb ve : Nat → Value) : Nat → List Stm → List Value
  | _, [] => []
  | k, .mk a1 a2 a3 a4 a5 a6 a7 b e :: l => stmCells a1 a2 a3 a4 a5 a6 a7 (vb k) (ve k) ++ rowsOf vb ve (k + 1) l
theorem rowsOf_len (vb ve : Nat → Value) : ∀ (l : List Stm) (k : Nat), (rowsOf vb ve k l).length = l.length * 9
  | [], _ => rfl
  | .mk .. :: l, k => by unfold rowsOf; simp [stmCells, rowsOf_len vb ve l]; omega
theorem rowsOf_get (vb ve : Nat → Value) : ∀ (l : List Stm) (k j : Nat) (u : Value), (rowsOf vb ve k l)[j]? = some u →
    ∃ i r a1 a2 a3 a4 a5 a6 a7 b e, l[i]? = some (.mk a1 a2 a3 a4 a5 a6 a7 b e) ∧ (stmCells a1 a2 a3 a4 a5 a6 a7 (vb (k + i)) (ve (k + i)))[r]? = some u ∧ j = i * 9 + r
  | [], k, j, u, h => by simp [rowsOf] at h
  | .mk a1 a2 a3 a4 a5 a6 a7 b e :: l, k, j, u, h => by
    unfold rowsOf at h
    by_cases hj : j < 9
    · rw [List.getElem?_append_left (by simp [stmCells]; omega)] at h
      exact ⟨0, j, a1, a2, a3, a4, a5, a6, a7, b, e, rfl, h, by omega⟩
    · rw [List.getElem?_append_right (by simp [stmCells]; omega)] at h
      obtain ⟨i, r, b1, b2, b3, b4, b5, b6, b7, b', e', h1, h2, h3⟩ := rowsOf_get vb ve l (k + 1) _ u h
      refine ⟨i + 1, r, b1, b2, b3, b4, b5, b6, b7, b', e', by simpa using h1, ?_, ?_⟩
      · rw [show k + (i + 1) = k + 1 + i by omega]; exact h2
      · simp [stmCells] at h3; omega
def StmsR (w : World) (B : Nat) : List Stm → List Value → Prop
  | [], xs => xs = []
  | .mk a1 a2 a3 a4 a5 a6 a7 b e :: l, xs => ∃ vb ve ys, xs = stmCells a1 a2 a3 a4 a5 a6 a7 vb ve ++ ys ∧ Stms w B vb b ∧ Stms w B ve e ∧ StmsR w B l ys
theorem StmsR.keep {w w' : World} {B B' : Nat} (hk : Below B w w') (hB : B ≤ B') : ∀ {l : List Stm} {xs : List Value}, StmsR w B l xs → StmsR w' B' l xs
  | [], _, h => h
  | .mk .. :: l, xs, ⟨vb, ve, ys, h1, h2, h3, h4⟩ => ⟨vb, ve, ys, h1, (h2.belowW hk).more hB, (h3.belowW hk).more hB, StmsR.keep hk hB h4⟩
theorem StmsR.append {w : World} {B : Nat} : ∀ {l m : List Stm} {xs ys : List Value}, StmsR w B l xs → StmsR w B m ys → StmsR w B (l ++ m) (xs ++ ys)
  | [], m, xs, ys, h, h' => by cases h; exact h'
  | .mk .. :: l, m, xs, ys, ⟨vb, ve, zs, h1, h2, h3, h4⟩, h' => ⟨vb, ve, zs ++ ys, by rw [h1]; simp, h2, h3, StmsR.append h4 h'⟩
theorem StmsR.one {w : World} {B : Nat} : ∀ {l : List Stm} {xs : List Value}, StmsR w B l xs → ∀ u ∈ xs, u.oneCell' = true
  | [], xs, h => by cases h; simp
  | .mk .. :: l, xs, ⟨vb, ve, zs, h1, h2, h3, h4⟩ => by
    intro u hu
    rw [h1] at hu
    rcases List.mem_append.1 hu with h | h
    · obtain ⟨A, n, c, rfl⟩ := h2.slice
      obtain ⟨A', n', c', rfl⟩ := h3.slice
      simp [stmCells] at h
      rcases h with rfl | rfl | rfl | rfl | rfl | rfl | rfl | rfl | rfl <;> rfl
    · exact StmsR.one h4 u h
theorem StmsR.get {w : World} {B : Nat} : ∀ {l : List Stm} {xs : List Value} {i : Nat} {a1 a2 a3 a4 a5 a6 a7 : Int} {b e : List Stm}, StmsR w B l xs → l[i]? = some (.mk a1 a2 a3 a4 a5 a6 a7 b e) →
    ∃ vb ve, Stms w B vb b ∧ Stms w B ve e ∧ ∀ j u, (stmCells a1 a2 a3 a4 a5 a6 a7 vb ve)[j]? = some u → xs[i * 9 + j]? = some u
  | [], xs, i, _, _, _, _, _, _, _, _, _, _, h => by simp at h
  | .mk .. :: l, xs, 0, _, _, _, _, _, _, _, _, _, ⟨vb, ve, ys, h1, h2, h3, h4⟩, h => by
    simp at h
    obtain ⟨rfl, rfl, rfl, rfl, rfl, rfl, rfl, rfl, rfl⟩ := h
    refine ⟨vb, ve, h2, h3, fun j u hj => ?_⟩
    have hj' := (List.getElem?_eq_some_iff.1 hj).1
    rw [h1, List.getElem?_append_left (by omega), Nat.zero_mul, Nat.zero_add]
    exact hj
  | .mk .. :: l, xs, i + 1, _, _, _, _, _, _, _, _, _, ⟨vb, ve, ys, h1, h2, h3, h4⟩, h => by
    obtain ⟨vb', ve', g1, g2, g3⟩ := StmsR.get h4 (by simpa using h)
    refine ⟨vb', ve', g1, g2, fun j u hj => ?_⟩
    rw [h1, List.getElem?_append_right (by simp [stmCells]; omega)]
    rw [show ∀ p : List Value, p.length = 9 → (i + 1) * 9 + j - p.length = i * 9 + j from fun p hp => by omega]
    · exact g3 j u hj
    · simp [stmCells]
theorem stmsR_of {w : World} {B : Nat} {A : Option Addr} {n c : Nat} {l : List Stm} (h : Stms w B (.slice A n c) l) (hB : B ≤ w.heap.size) : ∃ xs, Src w 9 (.slice A n c) n xs ∧ StmsR w B l xs := by
  cases h with
  | mk _ _ _ _ vb ve hn hc hm hcell hb he =>
    refine ⟨rowsOf vb ve 0 l, ⟨by rw [rowsOf_len, hn], A, c, rfl, fun j u hj => ?_⟩, ?_⟩
    · obtain ⟨i, r, a1, a2, a3, a4, a5, a6, a7, b, e, h1, h2, rfl⟩ := rowsOf_get vb ve l 0 j u hj
      rw [Nat.zero_add] at h2
      obtain ⟨ad, rfl, hl, hcc⟩ := hcell i a1 a2 a3 a4 a5 a6 a7 b e h1
      exact ⟨ad, rfl, by omega, hcc r u h2⟩
    · have key : ∀ (l' : List Stm) (k : Nat), (∀ i s, l'[i]? = some s → l[k + i]? = some s) → StmsR w B l' (rowsOf vb ve k l') := by
        intro l'
        induction l' with
        | nil => intro k _; rfl
        | cons s l' ih =>
          intro k hk
          cases s with
          | mk a1 a2 a3 a4 a5 a6 a7 b e =>
            have h0 := hk 0 _ rfl
            exact ⟨vb k, ve k, _, rfl, hb k a1 a2 a3 a4 a5 a6 a7 b e h0, he k a1 a2 a3 a4 a5 a6 a7 b e h0, ih (k + 1) fun i s hi => by rw [show k + 1 + i = k + (i + 1) by omega]; exact hk (i + 1) s (by simpa using hi)⟩
      exact key l 0 fun i s hi => by rw [Nat.zero_add]; exact hi
theorem stms_of_own {w : World} {B B' H n : Nat} {v : Value} {l : List Stm} {xs : List Value} (ho : w.ownsRow B' 39 9 v n xs) (hr : StmsR w B l xs) (hn : n = l.length) (hB : B ≤ H) (hH : w.heap.size ≤ H) : Stms w H v l := by
  obtain ⟨A, c, rfl, h1, h2⟩ := own_slice ho
  obtain ⟨_, A', c', he, hs⟩ := Src.of_own ho
  injection he with he _ _
  subst he
  have vbe : ∀ {i : Nat} {a1 a2 a3 a4 a5 a6 a7 : Int} {b e : List Stm}, l[i]? = some (.mk a1 a2 a3 a4 a5 a6 a7 b e) → Stms w B (xs.getD (i * 9 + 7) .nilIface) b ∧ Stms w B (xs.getD (i * 9 + 8) .nilIface) e ∧
      ∀ j u, (stmCells a1 a2 a3 a4 a5 a6 a7 (xs.getD (i * 9 + 7) .nilIface) (xs.getD (i * 9 + 8) .nilIface))[j]? = some u → xs[i * 9 + j]? = some u := by
    intro i a1 a2 a3 a4 a5 a6 a7 b e hi
    obtain ⟨vb, ve, g1, g2, g3⟩ := hr.get hi
    have e7 : xs.getD (i * 9 + 7) .nilIface = vb := by rw [List.getD_eq_getElem?_getD, g3 7 _ rfl]; rfl
    have e8 : xs.getD (i * 9 + 8) .nilIface = ve := by rw [List.getD_eq_getElem?_getD, g3 8 _ rfl]; rfl
    rw [e7, e8]
    exact ⟨g1, g2, g3⟩
  refine .mk A n c l (fun i => xs.getD (i * 9 + 7) .nilIface) (fun i => xs.getD (i * 9 + 8) .nilIface) hn.symm h1 (by simpa [maxLen] using h2) (fun k a1 a2 a3 a4 a5 a6 a7 b e h => ?_) (fun k a1 a2 a3 a4 a5 a6 a7 b e h => (vbe h).1.more hB) (fun k a1 a2 a3 a4 a5 a6 a7 b e h => (vbe h).2.1.more hB)
  obtain ⟨_, _, g3⟩ := vbe h
  obtain ⟨ad, rfl, hl, c0⟩ := hs (k * 9 + 0) _ (g3 0 _ rfl)
  refine ⟨ad, rfl, by omega, fun j u hj => ?_⟩
  obtain ⟨ad', e, _, cj⟩ := hs (k * 9 + j) u (g3 j u hj)
  cases e
  exact cj
theorem stm_elem : Elem Tryd.prog 22 39 9 104 := .mk' (z := ((Tryd.prog.info? 39).bind (·.zero)).getD undef) Tryd.underlying22 (by kernel_rfl) (by kernel_rfl) (by omega)
theorem list_le_sizes : ∀ (l : List Stm), l.length ≤ sizes l
  | [] => Nat.le_refl _
  | .mk .. :: l => by have := list_le_sizes l; rw [sizes_cons, size_mk]; simp; omega
end Go.Proofs.YtblfklnnojhadaaDoor

/-
  What is wrong with transactions behind one another, and within one another: in lists.
-/
import Derived.Test.YtblfklnnojhadaaDoorRefR
import Derived.Test.YtblfklnnojhadaaDoorWalkP
set_option linter.unusedVariables false
namespace Go.Proofs.YtblfklnnojhadaaDoor
open Go.RowKit

theorem sizeW : ∀ (L : List (Stm × Nat)) (s : Int) (i : Nat), (walkF (σ := Int) (fun s n _ x => (true, (n : Int))) L s i).2.1 = if L = [] then s else (i : Int) + L.length
  | [], s, i => rfl
  | (x, d) :: L, s, i => by
    unfold walkF
    simp only
    rw [sizeW L _ (i + 1)]
    cases L with
    | nil => simp
    | cons y L => simp; omega
theorem sizeR_eq (l : List Stm) : sizeR l = sizes l := by
  unfold sizeR
  rw [sizeW]
  have := lines_sizes _ l 1 (Nat.le_refl _)
  split
  · rename_i h; rw [h] at this; simp at this; omega
  · omega
def maxD (s : Int) (L : List (Stm × Nat)) : Int := L.foldl (fun s p => max s (p.2 : Int)) s
theorem deepW : ∀ (L : List (Stm × Nat)) (s : Int) (i : Nat), (walkF (σ := Int) (fun s _ d _ => (true, max s (d : Int))) L s i).2.1 = maxD s L
  | [], s, i => rfl
  | (x, d) :: L, s, i => by
    unfold walkF
    simp only
    rw [deepW L _ (i + 1)]
    rfl
theorem deepR_eq (l : List Stm) : deepR l = maxD 0 (linesOf 1 l) := deepW _ _ _
theorem maxD_le : ∀ (L : List (Stm × Nat)) (s : Int), s ≤ maxD s L
  | [], s => Int.le_refl _
  | (x, d) :: L, s => by
    have := maxD_le L (max s (d : Int))
    unfold maxD at this ⊢
    rw [List.foldl_cons]
    simp only at this ⊢
    omega
theorem maxD_cons (s : Int) (p : Stm × Nat) (L : List (Stm × Nat)) : maxD s (p :: L) = maxD (max s (p.2 : Int)) L := rfl
theorem maxD_max : ∀ (L : List (Stm × Nat)) (s t : Int), maxD (max s t) L = max s (maxD t L)
  | [], s, t => rfl
  | p :: L, s, t => by
    rw [maxD_cons, maxD_cons, show max (max s t) (p.2 : Int) = max s (max t (p.2 : Int)) by omega, maxD_max L]
theorem maxD_append (L M : List (Stm × Nat)) (s : Int) : maxD s (L ++ M) = maxD (maxD s L) M := by unfold maxD; rw [List.foldl_append]
theorem deepR_append (p q : List Stm) : deepR (p ++ q) = max (deepR p) (deepR q) := by
  rw [deepR_eq, deepR_eq, deepR_eq, lines_append, maxD_append, ← maxD_max]
  have h := maxD_le (linesOf 1 p) 0
  rw [show max (maxD 0 (linesOf 1 p)) 0 = maxD 0 (linesOf 1 p) by omega]
theorem deepR_pos (p : List Stm) : 0 ≤ deepR p := by rw [deepR_eq]; exact maxD_le _ _
theorem maxD_mem : ∀ (L : List (Stm × Nat)) (s : Int), ∀ p ∈ L, (p.2 : Int) ≤ maxD s L
  | [], s, p, h => by simp at h
  | q :: L, s, p, h => by
    rw [maxD_cons]
    rcases List.mem_cons.1 h with rfl | h
    · have := maxD_le L (max s (p.2 : Int)); omega
    · exact maxD_mem L _ p h
theorem maxD_at : ∀ (L : List (Stm × Nat)) (s : Int), maxD s L = s ∨ ∃ p ∈ L, maxD s L = p.2
  | [], s => .inl rfl
  | q :: L, s => by
    rw [maxD_cons]
    rcases maxD_at L (max s (q.2 : Int)) with h | ⟨p, hp, h⟩
    · rw [h]
      by_cases hs : (q.2 : Int) ≤ s
      · exact .inl (by omega)
      · exact .inr ⟨q, List.mem_cons_self .., by omega⟩
    · exact .inr ⟨p, List.mem_cons_of_mem _ hp, h⟩

theorem refR_cons (ks : List Int) (x : Stm) (d : Nat) (l : List (Stm × Nat)) (i : Nat) : refR ks ((x, d) :: l) i = if 100 ≤ i then (8, (i : Int) + 1) else if 8 < d then (10, (i : Int) + 1) else if !rightS ks x then (9, (i : Int) + 1) else refR ks l (i + 1) := rfl
theorem refR_zero (ks : List Int) : ∀ (L : List (Stm × Nat)) (i : Nat), (refR ks L i).1 = 0 → refR ks L i = (0, 0)
  | [], i, _ => rfl
  | (x, d) :: L, i, h => by
    rw [refR_cons] at h ⊢
    split at h
    · cases h
    · rename_i h1
      rw [if_neg h1]
      split at h
      · cases h
      · rename_i h2
        rw [if_neg h2]
        split at h
        · cases h
        · rename_i h3
          rw [if_neg h3]
          exact refR_zero ks L _ h
theorem refR_shift (ks : List Int) : ∀ (L : List (Stm × Nat)) (i j : Nat), i + j + L.length ≤ 100 → refR ks L (i + j) = if (refR ks L j).1 = 0 then (0, 0) else ((refR ks L j).1, (i : Int) + (refR ks L j).2)
  | [], i, j, _ => rfl
  | (x, d) :: L, i, j, h => by
    have hl : ¬ 100 ≤ i + j := by simp at h; omega
    have hl' : ¬ 100 ≤ j := by omega
    rw [refR_cons, refR_cons, if_neg hl, if_neg hl']
    by_cases h2 : 8 < d
    · rw [if_pos h2, if_pos h2]
      simp
      omega
    · rw [if_neg h2, if_neg h2]
      by_cases h3 : (!rightS ks x) = true
      · rw [if_pos h3, if_pos h3]
        simp
        omega
      · rw [if_neg h3, if_neg h3]
        rw [Nat.add_assoc]
        exact refR_shift ks L i (j + 1) (by simp at h; omega)
theorem refR_append (ks : List Int) (M : List (Stm × Nat)) : ∀ (L : List (Stm × Nat)) (i : Nat), i + L.length ≤ 100 → refR ks (L ++ M) i = if (refR ks L i).1 = 0 then refR ks M (i + L.length) else refR ks L i
  | [], i, _ => rfl
  | (x, d) :: L, i, h => by
    have hl : ¬ 100 ≤ i := by simp at h; omega
    rw [List.cons_append, refR_cons, refR_cons, if_neg hl, if_neg hl]
    by_cases h2 : 8 < d
    · rw [if_pos h2, if_pos h2]; rfl
    · rw [if_neg h2, if_neg h2]
      by_cases h3 : (!rightS ks x) = true
      · rw [if_pos h3, if_pos h3]; rfl
      · rw [if_neg h3, if_neg h3, refR_append ks M L (i + 1) (by simp at h; omega)]
        rw [show i + 1 + L.length = i + ((x, d) :: L).length by simp; omega]
theorem refR_bound (ks : List Int) : ∀ (L : List (Stm × Nat)) (i : Nat), 0 ≤ (refR ks L i).2 ∧ (refR ks L i).2 ≤ (i : Int) + L.length
  | [], i => ⟨Int.le_refl _, by show (0 : Int) ≤ _; omega⟩
  | (x, d) :: L, i => by
    rw [refR_cons]
    have := refR_bound ks L (i + 1)
    simp only [List.length_cons]
    split
    · simp only; omega
    · split
      · simp only; omega
      · split
        · simp only; omega
        · omega
theorem right_bound (ks : List Int) (l : List Stm) : 0 ≤ (rightR ks l).2 ∧ (rightR ks l).2 ≤ sizes l := by
  have e : rightR ks l = refR ks (linesOf 1 l) 0 := refR_walk ks _ _
  have h := refR_bound ks (linesOf 1 l) 0
  have hp := lines_sizes _ l 1 (Nat.le_refl _)
  rw [e]
  omega
/-- Two behind one another, if both together are not too many. -/
theorem right_both (ks : List Int) (p q : List Stm) (h : sizes p + sizes q ≤ 100) :
    rightR ks (p ++ q) = if (rightR ks p).1 = 0 then (if (rightR ks q).1 = 0 then (0, 0) else ((rightR ks q).1, (sizes p : Int) + (rightR ks q).2)) else rightR ks p := by
  have e : ∀ l, rightR ks l = refR ks (linesOf 1 l) 0 := fun l => refR_walk ks _ _
  have hp := lines_sizes _ p 1 (Nat.le_refl _)
  have hq := lines_sizes _ q 1 (Nat.le_refl _)
  rw [e, e, e, lines_append, refR_append ks _ _ 0 (by omega), Nat.zero_add, hp]
  rw [show sizes p = sizes p + 0 from rfl, refR_shift ks _ (sizes p) 0 (by omega)]
  simp

/-- The same, each a step deeper. -/
def deeper (L : List (Stm × Nat)) : List (Stm × Nat) := L.map fun p => (p.1, p.2 + 1)
theorem lines_deeper : ∀ (m : Nat) (l : List Stm) (d : Nat), sizes l ≤ m → linesOf (d + 1) l = deeper (linesOf d l) := by
  intro m
  induction m with
  | zero =>
    intro l d h
    cases l with
    | nil => rfl
    | cons s l => rw [sizes_cons] at h; cases s; rw [size_mk] at h; omega
  | succ m ih =>
    intro l
    induction l with
    | nil => intro d _; rfl
    | cons s l ihl =>
      intro d h
      rw [sizes_cons] at h
      cases s with
      | mk a1 a2 a3 a4 a5 a6 a7 b e =>
        rw [size_mk] at h
        rw [lines_cons, lines_cons, line_mk, line_mk, ih b _ (by omega), ih e _ (by omega), ihl d (by omega)]
        simp [deeper]
theorem refR_ok (ks : List Int) : ∀ (L : List (Stm × Nat)) (i : Nat), (refR ks L i).1 = 0 → (L = [] ∨ i + L.length ≤ 100) ∧ ∀ p ∈ L, p.2 ≤ 8 ∧ rightS ks p.1 = true
  | [], i, _ => ⟨.inl rfl, by simp⟩
  | (x, d) :: L, i, h => by
    rw [refR_cons] at h
    split at h
    · cases h
    · rename_i h1
      split at h
      · cases h
      · rename_i h2
        split at h
        · cases h
        · rename_i h3
          obtain ⟨g1, g2⟩ := refR_ok ks L (i + 1) h
          refine ⟨.inr ?_, fun p hp => ?_⟩
          · rcases g1 with rfl | g1
            · simp; omega
            · simp; omega
          · rcases List.mem_cons.1 hp with rfl | hp
            · exact ⟨by simp only; omega, by simpa using h3⟩
            · exact g2 p hp
theorem refR_deeper (ks : List Int) : ∀ (L : List (Stm × Nat)) (i : Nat), (∀ p ∈ L, p.2 ≤ 8 ∧ rightS ks p.1 = true) →
    ((∀ p ∈ L, p.2 < 8) → i + L.length ≤ 100 → (refR ks (deeper L) i).1 = 0) ∧ ((∀ p ∈ L, p.2 < 8) → 100 < i + L.length → L ≠ [] → (refR ks (deeper L) i).1 = 8) ∧ ((∃ p ∈ L, p.2 = 8) → (refR ks (deeper L) i).1 = 8 ∨ (refR ks (deeper L) i).1 = 10)
  | [], i, _ => ⟨fun _ _ => rfl, fun _ _ h => absurd rfl h, fun ⟨p, hp, _⟩ => by simp at hp⟩
  | (x, d) :: L, i, h => by
    have hx := h (x, d) (List.mem_cons_self ..)
    obtain ⟨i1, i2, i3⟩ := refR_deeper ks L (i + 1) fun p hp => h p (List.mem_cons_of_mem _ hp)
    have e : deeper ((x, d) :: L) = (x, d + 1) :: deeper L := rfl
    rw [e, refR_cons]
    have hr : (!rightS ks x) = false := by simpa using hx.2
    refine ⟨fun h1 h2 => ?_, fun h1 h2 _ => ?_, fun h1 => ?_⟩
    · have := h1 (x, d) (List.mem_cons_self ..)
      simp only at this
      rw [if_neg (by simp at h2; omega), if_neg (by omega), hr]
      simp only [Bool.false_eq_true, if_false]
      exact i1 (fun p hp => h1 p (List.mem_cons_of_mem _ hp)) (by simp at h2; omega)
    · have := h1 (x, d) (List.mem_cons_self ..)
      simp only at this
      by_cases h3 : 100 ≤ i
      · rw [if_pos h3]
      · rw [if_neg h3, if_neg (by omega), hr]
        simp only [Bool.false_eq_true, if_false]
        refine i2 (fun p hp => h1 p (List.mem_cons_of_mem _ hp)) (by simp at h2; omega) ?_
        rintro rfl
        simp at h2
        omega
    · by_cases h3 : 100 ≤ i
      · rw [if_pos h3]; exact .inl rfl
      · rw [if_neg h3]
        by_cases h4 : 8 < d + 1
        · rw [if_pos h4]; exact .inr rfl
        · rw [if_neg h4, hr]
          simp only [Bool.false_eq_true, if_false]
          refine i3 ?_
          obtain ⟨p, hp, he⟩ := h1
          rcases List.mem_cons.1 hp with rfl | hp
          · simp only at he; omega
          · exact ⟨p, hp, he⟩
def whole (l : List Stm) : List Stm := [.mk 13 0 0 0 0 0 0 l []]
theorem whole_lines (l : List Stm) : linesOf 1 (whole l) = (.mk 13 0 0 0 0 0 0 l [], 1) :: deeper (linesOf 1 l) := by
  unfold whole
  rw [lines_cons, line_mk, lines_nil, lines_nil, lines_deeper _ l 1 (Nat.le_refl _)]
  simp
theorem maxD_deeper : ∀ (L : List (Stm × Nat)) (s : Int), maxD (s + 1) (deeper L) = maxD s L + 1
  | [], s => rfl
  | p :: L, s => by
    have e : deeper (p :: L) = (p.1, p.2 + 1) :: deeper L := rfl
    rw [e, maxD_cons, maxD_cons, ← maxD_deeper L]
    congr 1
    simp only
    omega
theorem deep_whole (l : List Stm) : deepR (whole l) = deepR l + 1 := by
  rw [deepR_eq, deepR_eq, whole_lines, maxD_cons]
  exact maxD_deeper _ 0
theorem size_whole (l : List Stm) : sizeR (whole l) = sizeR l + 1 := by
  rw [sizeR_eq, sizeR_eq]
  unfold whole
  rw [sizes_cons, size_mk, sizes_nil]
  omega
theorem right_whole (ks : List Int) (l : List Stm) (h : (rightR ks l).1 = 0) : (deepR l = 8 → (rightR ks (whole l)).1 = 10 ∨ (rightR ks (whole l)).1 = 8) ∧ (¬ deepR l = 8 → sizeR l = 100 → (rightR ks (whole l)).1 = 8) ∧ (¬ deepR l = 8 → ¬ sizeR l = 100 → (rightR ks (whole l)).1 = 0) := by
  have e : ∀ l, rightR ks l = refR ks (linesOf 1 l) 0 := fun l => refR_walk ks _ _
  have hn := lines_sizes _ l 1 (Nat.le_refl _)
  rw [e] at h
  rw [e, whole_lines, refR_cons]
  have hr : (!rightS ks (.mk 13 0 0 0 0 0 0 l [])) = false := by
    unfold rightS rightV
    simp [pIs, pColl, pOrd, pA, pB, pReg, pBody, pElse, collB, argB, loopB, regB, bodyB]
  rw [if_neg (by omega), if_neg (by omega), hr]
  simp only [Bool.false_eq_true, if_false, Nat.zero_add]
  obtain ⟨g1, g2⟩ := refR_ok ks _ _ h
  obtain ⟨i1, i2, i3⟩ := refR_deeper ks _ 1 g2
  have hs := sizeR_eq l
  have low : ¬ deepR l = 8 → ∀ p ∈ linesOf 1 l, p.2 < 8 := fun hd p hp => by
    have h1 := maxD_mem (linesOf 1 l) 0 p hp
    have h2 := (g2 p hp).1
    rcases Nat.lt_or_eq_of_le h2 with h3 | h3
    · exact h3
    · exfalso
      apply hd
      rw [deepR_eq]
      rcases maxD_at (linesOf 1 l) 0 with h4 | ⟨q, hq, h4⟩
      · omega
      · have := (g2 q hq).1
        omega
  refine ⟨fun hd => ?_, fun hd h100 => ?_, fun hd h100 => ?_⟩
  · refine (i3 ?_).symm
    rw [deepR_eq] at hd
    rcases maxD_at (linesOf 1 l) 0 with h4 | ⟨q, hq, h4⟩
    · omega
    · exact ⟨q, hq, by omega⟩
  · refine i2 (low hd) (by omega) ?_
    intro h0
    rw [h0] at hn
    simp at hn
    omega
  · refine i1 (low hd) ?_
    rcases g1 with g1 | g1
    · rw [g1]; simp
    · omega
end Go.Proofs.YtblfklnnojhadaaDoor

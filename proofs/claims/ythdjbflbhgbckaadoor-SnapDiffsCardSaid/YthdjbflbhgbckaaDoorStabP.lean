/-
  The stable sort, plainly: insertion, rotation, the symmetric merge. No program in sight.
-/
set_option linter.unusedVariables false
namespace Go.Proofs.YthdjbflbhgbckaaDoor.Stab

abbrev PL := List (Int × Int)
/-- By rising keys; of one key there may be several. -/
def Kle (l : PL) : Prop := l.Pairwise (fun a b => a.1 ≤ b.1)
theorem Kle.nil : Kle [] := List.Pairwise.nil
theorem Kle.one (x : Int × Int) : Kle [x] := List.pairwise_singleton ..
theorem kle_append {l m : PL} : Kle (l ++ m) ↔ Kle l ∧ Kle m ∧ ∀ a ∈ l, ∀ b ∈ m, a.1 ≤ b.1 := List.pairwise_append
theorem kle_cons {x : Int × Int} {l : PL} : Kle (x :: l) ↔ (∀ b ∈ l, x.1 ≤ b.1) ∧ Kle l := List.pairwise_cons
theorem kle_at {l : PL} (h : Kle l) {i j : Nat} (hij : i ≤ j) (hj : j < l.length) : (l.getD i default).1 ≤ (l.getD j default).1 := by
  rcases Nat.lt_or_ge i j with h1 | h1
  · have := (List.pairwise_iff_getElem.1 h) i j (by omega) hj h1
    rwa [List.getD_eq_getElem?_getD, List.getD_eq_getElem?_getD, List.getElem?_eq_getElem (by omega), List.getElem?_eq_getElem hj]
  · obtain rfl : i = j := by omega
    exact Int.le_refl _
/-- One is put into its place. -/
theorem kle_mid {l m : PL} {x : Int × Int} (h : Kle (l ++ m)) (h1 : ∀ y ∈ l, y.1 ≤ x.1) (h2 : ∀ y ∈ m, x.1 ≤ y.1) : Kle (l ++ x :: m) := by
  obtain ⟨a, b, c⟩ := kle_append.1 h
  refine kle_append.2 ⟨a, kle_cons.2 ⟨h2, b⟩, fun y hy z hz => ?_⟩
  rcases List.mem_cons.1 hz with rfl | hz
  · exact h1 y hy
  · exact c y hy z hz
theorem kle_last {l m : PL} {y : Int × Int} (h : Kle (l ++ y :: m)) : ∀ z ∈ l ++ [y], z.1 ≤ y.1 := by
  obtain ⟨a, b, c⟩ := kle_append.1 h
  intro z hz
  rcases List.mem_append.1 hz with hz | hz
  · exact c z hz y (List.mem_cons_self ..)
  · simp at hz; subst hz; exact Int.le_refl _
theorem perm_mid {l m : PL} {x : Int × Int} : (l ++ x :: m).Perm (l ++ m ++ [x]) := by
  have h : (l ++ x :: m).Perm (x :: (l ++ m)) := List.perm_middle
  exact h.trans (List.perm_append_singleton x (l ++ m)).symm
/-- The halves of a merge. -/
theorem kle_halves {X1 X2 Y1 Y2 Z1 Z2 : PL} (h1 : Kle Z1) (h2 : Kle Z2) (p1 : Z1.Perm (X1 ++ Y1)) (p2 : Z2.Perm (X2 ++ Y2)) (hX : Kle (X1 ++ X2)) (hY : Kle (Y1 ++ Y2)) (c1 : ∀ x ∈ X1, ∀ y ∈ Y2, x.1 ≤ y.1) (c2 : ∀ y ∈ Y1, ∀ x ∈ X2, y.1 ≤ x.1) :
    Kle (Z1 ++ Z2) ∧ (Z1 ++ Z2).Perm (X1 ++ X2 ++ (Y1 ++ Y2)) := by
  refine ⟨kle_append.2 ⟨h1, h2, fun a ha b hb => ?_⟩, ?_⟩
  · rcases List.mem_append.1 (p1.mem_iff.1 ha) with ha | ha <;> rcases List.mem_append.1 (p2.mem_iff.1 hb) with hb | hb
    · exact (kle_append.1 hX).2.2 a ha b hb
    · exact c1 a ha b hb
    · exact c2 a ha b hb
    · exact (kle_append.1 hY).2.2 a ha b hb
  · refine (p1.append p2).trans ?_
    have e : (X1 ++ Y1 ++ (X2 ++ Y2)) = X1 ++ ((Y1 ++ X2) ++ Y2) := by simp only [List.append_assoc]
    have e' : (X1 ++ X2 ++ (Y1 ++ Y2)) = X1 ++ ((X2 ++ Y1) ++ Y2) := by simp only [List.append_assoc]
    rw [e, e']
    exact ((List.perm_append_comm).append_right Y2).append_left X1
/-- What the search of a merge keeps: the places from s0 to r0 are tried, those below s are on the left, those from r on on the right. -/
structure Cut (X Y : PL) (a m p s0 r0 s r : Nat) : Prop where
  lo : ∀ c, s0 ≤ c → c < s → (X.getD (c - a) default).1 ≤ (Y.getD (p - c - m) default).1
  hi : ∀ c, r ≤ c → c < r0 → (Y.getD (p - c - m) default).1 < (X.getD (c - a) default).1
theorem Cut.start (X Y : PL) (a m p s0 r0 : Nat) : Cut X Y a m p s0 r0 s0 r0 := ⟨fun c h1 h2 => by omega, fun c h1 h2 => by omega⟩
section
variable {X Y : PL} {a m p s0 r0 s r c b : Nat}
theorem Cut.left (h : Cut X Y a m p s0 r0 s r) (hX : Kle X) (hY : Kle Y) (hlx : X.length = m - a) (hly : Y.length = b - m) (ha : a ≤ s0) (hr0 : r0 ≤ m) (hpm : ∀ c, s0 ≤ c → c < r0 → m ≤ p - c ∧ p - c < b ∧ c ≤ p) (h1 : s ≤ c) (h2 : c < r) (hr : r ≤ r0) (hs : s0 ≤ s)
    (hc : (X.getD (c - a) default).1 ≤ (Y.getD (p - c - m) default).1) : Cut X Y a m p s0 r0 (c + 1) r :=
  ⟨fun d hd1 hd2 => by
    have q1 := hpm c (by omega) (by omega)
    have q2 := hpm d (by omega) (by omega)
    have k1 := kle_at hX (i := d - a) (j := c - a) (by omega) (by omega)
    have k2 := kle_at hY (i := p - c - m) (j := p - d - m) (by omega) (by omega)
    omega, h.hi⟩
theorem Cut.right (h : Cut X Y a m p s0 r0 s r) (hX : Kle X) (hY : Kle Y) (hlx : X.length = m - a) (hly : Y.length = b - m) (ha : a ≤ s0) (hr0 : r0 ≤ m) (hpm : ∀ c, s0 ≤ c → c < r0 → m ≤ p - c ∧ p - c < b ∧ c ≤ p) (h1 : s ≤ c) (h2 : c < r) (hr : r ≤ r0) (hs : s0 ≤ s)
    (hc : (Y.getD (p - c - m) default).1 < (X.getD (c - a) default).1) : Cut X Y a m p s0 r0 s c :=
  ⟨h.lo, fun d hd1 hd2 => by
    have q1 := hpm c (by omega) (by omega)
    have q2 := hpm d (by omega) (by omega)
    have k1 := kle_at hX (i := c - a) (j := d - a) (by omega) (by omega)
    have k2 := kle_at hY (i := p - d - m) (j := p - c - m) (by omega) (by omega)
    omega⟩
theorem mem_take_getD {l : PL} {k : Nat} {x : Int × Int} (h : x ∈ l.take k) : ∃ i, i < k ∧ i < l.length ∧ l.getD i default = x := by
  obtain ⟨i, hi, rfl⟩ := List.getElem_of_mem h
  rw [List.length_take] at hi
  refine ⟨i, by omega, by omega, ?_⟩
  rw [List.getElem_take, List.getD_eq_getElem?_getD, List.getElem?_eq_getElem (by omega)]
  rfl
theorem mem_drop_getD {l : PL} {k : Nat} {x : Int × Int} (h : x ∈ l.drop k) : ∃ i, k ≤ i ∧ i < l.length ∧ l.getD i default = x := by
  obtain ⟨i, hi, rfl⟩ := List.getElem_of_mem h
  rw [List.length_drop] at hi
  refine ⟨k + i, by omega, by omega, ?_⟩
  rw [List.getElem_drop, List.getD_eq_getElem?_getD, List.getElem?_eq_getElem (by omega)]
  rfl
/-- The search's end cuts both rows as the merge wants it. -/
theorem Cut.cuts {mid n : Nat} (h : Cut X Y a m (n - 1) s0 r0 s s) (hX : Kle X) (hY : Kle Y) (hlx : X.length = m - a) (hly : Y.length = b - m) (hn : n = mid + m) (ham : a < m) (hmb : m < b) (hs : s0 ≤ s) (hr : s ≤ r0)
    (hcase : (s0 = n - b ∧ r0 = mid ∧ mid < m ∧ a + b ≤ n) ∨ (s0 = a ∧ r0 = m ∧ m ≤ mid ∧ mid + mid ≤ a + b)) :
    (∀ x ∈ X.take (s - a), ∀ y ∈ Y.drop (n - s - m), x.1 ≤ y.1) ∧ (∀ y ∈ Y.take (n - s - m), ∀ x ∈ X.drop (s - a), y.1 ≤ x.1) := by
  constructor
  · intro x hx y hy
    obtain ⟨i, hi1, hi2, rfl⟩ := mem_take_getD hx
    obtain ⟨j, hj1, hj2, rfl⟩ := mem_drop_getD hy
    have k0 : s0 < s := by rcases hcase with ⟨h1, h2, h3, h4⟩ | ⟨h1, h2, h3, h4⟩ <;> omega
    have k1 := h.lo (s - 1) (by omega) (by omega)
    have k2 := kle_at hX (i := i) (j := s - 1 - a) (by omega) (by omega)
    have k3 := kle_at hY (i := n - 1 - (s - 1) - m) (j := j) (by rcases hcase with ⟨h1, h2, h3, h4⟩ | ⟨h1, h2, h3, h4⟩ <;> omega) (by omega)
    omega
  · intro y hy x hx
    obtain ⟨j, hj1, hj2, rfl⟩ := mem_take_getD hy
    obtain ⟨i, hi1, hi2, rfl⟩ := mem_drop_getD hx
    have k0 : s < r0 := by rcases hcase with ⟨h1, h2, h3, h4⟩ | ⟨h1, h2, h3, h4⟩ <;> omega
    have k1 := h.hi s (Nat.le_refl _) k0
    have k2 := kle_at hX (i := s - a) (j := i) (by omega) (by omega)
    have k3 := kle_at hY (i := j) (j := n - 1 - s - m) (by omega) (by rcases hcase with ⟨h1, h2, h3, h4⟩ | ⟨h1, h2, h3, h4⟩ <;> omega)
    omega
end
/-- Two sorted lists of the same keys and values, each key once, are one. -/
theorem perm_keys {l m : PL} (h : l.Perm m) : (l.map (·.1)).Perm (m.map (·.1)) := h.map _
/-- Two elements of a list change places. -/
def swapL (l : PL) (i j : Nat) : PL := (l.set i (l.getD j default)).set j (l.getD i default)
theorem swapL_len (l : PL) (i j : Nat) : (swapL l i j).length = l.length := by simp [swapL]
theorem swapL_split (P M S : PL) (x y : Int × Int) : swapL (P ++ x :: (M ++ y :: S)) P.length (P.length + 1 + M.length) = P ++ y :: (M ++ x :: S) := by
  unfold swapL
  have e1 : (P ++ x :: (M ++ y :: S)).getD P.length default = x := by simp [List.getD_eq_getElem?_getD]
  have e2 : (P ++ x :: (M ++ y :: S)).getD (P.length + 1 + M.length) default = y := by
    rw [List.getD_eq_getElem?_getD, List.getElem?_append_right (by omega), show P.length + 1 + M.length - P.length = M.length + 1 by omega, List.getElem?_cons_succ, List.getElem?_append_right (by omega)]
    simp
  rw [e1, e2, List.set_append_right _ _ (by omega), Nat.sub_self, List.set_cons_zero, List.set_append_right _ _ (by omega), show P.length + 1 + M.length - P.length = M.length + 1 by omega, List.set_cons_succ, List.set_append_right _ _ (by omega), Nat.sub_self, List.set_cons_zero]
theorem swapL_next (P S : PL) (x y : Int × Int) : swapL (P ++ x :: y :: S) P.length (P.length + 1) = P ++ y :: x :: S := swapL_split P [] S x y
theorem swapL_comm (l : PL) (i j : Nat) : swapL l i j = swapL l j i := by
  unfold swapL
  by_cases h : i = j
  · subst h; rfl
  · exact List.set_comm _ _ h
end Go.Proofs.YthdjbflbhgbckaaDoor.Stab

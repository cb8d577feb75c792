/-
  Heaps in lists, plainly: no Go in sight.
-/
namespace Go.Proofs.YthdjbflbhgbckaaDoor.HeapPlain

/-- What is asked of 'stands ahead': it is not both ways, and 'not behind' goes on. -/
structure Ord {α : Type} (lt : α → α → Bool) : Prop where
  asym : ∀ a b, lt a b = true → lt b a = false
  tran : ∀ a b c, lt b a = false → lt c b = false → lt c a = false

variable {α : Type} [Inhabited α]

def swp (xs : List α) (i j : Nat) : List α := (xs.set i (xs.getD j default)).set j (xs.getD i default)

theorem swp_length (xs : List α) (i j : Nat) : (swp xs i j).length = xs.length := by simp [swp]
theorem swp_getD (xs : List α) (i j k : Nat) (hi : i < xs.length) (hj : j < xs.length) :
    (swp xs i j).getD k default = if k = j then xs.getD i default else if k = i then xs.getD j default else xs.getD k default := by
  unfold swp
  simp only [List.getD_eq_getElem?_getD, List.getElem?_set, List.length_set]
  by_cases h1 : k = j
  · subst h1; simp [hj]
  · rw [if_neg (fun h => h1 h.symm), if_neg h1]
    by_cases h2 : k = i
    · subst h2; simp [hi]
    · rw [if_neg (fun h => h2 h.symm), if_neg h2]
theorem swp_perm (xs : List α) (i j : Nat) (hi : i < xs.length) (hj : j < xs.length) : (swp xs i j).Perm xs := by
  unfold swp
  rw [List.getD_eq_getElem?_getD, List.getD_eq_getElem?_getD, List.getElem?_eq_getElem hi, List.getElem?_eq_getElem hj]
  exact List.set_set_perm hi hj

/-- The first n are a heap. -/
def Hp (lt : α → α → Bool) (n : Nat) (xs : List α) : Prop := ∀ k, 0 < k → k < n → lt (xs.getD k default) (xs.getD ((k - 1) / 2) default) = false
/-- A heap but for what stands at j, which may have to go up. -/
def Up (lt : α → α → Bool) (n : Nat) (xs : List α) (j : Nat) : Prop :=
  (∀ k, 0 < k → k < n → k ≠ j → lt (xs.getD k default) (xs.getD ((k - 1) / 2) default) = false) ∧
  (∀ k, 0 < k → k < n → (k - 1) / 2 = j → 0 < j → lt (xs.getD k default) (xs.getD ((j - 1) / 2) default) = false)
/-- A heap but for what stands at i, which may have to go down. -/
def Dn (lt : α → α → Bool) (n : Nat) (xs : List α) (i : Nat) : Prop :=
  (∀ k, 0 < k → k < n → (k - 1) / 2 ≠ i → lt (xs.getD k default) (xs.getD ((k - 1) / 2) default) = false) ∧
  (∀ k, 0 < k → k < n → (k - 1) / 2 = i → 0 < i → lt (xs.getD k default) (xs.getD ((i - 1) / 2) default) = false)

theorem Up.stop {lt : α → α → Bool} {n : Nat} {xs : List α} {j : Nat} (h : Up lt n xs j) (hj : j = 0 ∨ lt (xs.getD j default) (xs.getD ((j - 1) / 2) default) = false) : Hp lt n xs := by
  intro k h0 hk
  by_cases e : k = j
  · subst e
    rcases hj with hj | hj
    · omega
    · exact hj
  · exact h.1 k h0 hk e

theorem Up.step {lt : α → α → Bool} (o : Ord lt) {n : Nat} {xs : List α} {j : Nat} (h : Up lt n xs j) (hn : n ≤ xs.length) (hj : j < n) (h0 : 0 < j)
    (hl : lt (xs.getD j default) (xs.getD ((j - 1) / 2) default) = true) : Up lt n (swp xs ((j - 1) / 2) j) ((j - 1) / 2) := by
  have hi : (j - 1) / 2 < j := by omega
  constructor
  · intro k k0 kn ke
    rw [swp_getD _ _ _ _ (by omega) (by omega), swp_getD _ _ _ _ (by omega) (by omega)]
    by_cases e1 : k = j
    · subst e1
      rw [if_pos rfl, if_neg (by omega), if_pos rfl]
      exact o.asym _ _ hl
    · rw [if_neg e1, if_neg ke]
      by_cases e2 : (k - 1) / 2 = j
      · rw [if_pos e2]
        exact h.2 k k0 kn e2 h0
      · rw [if_neg e2]
        by_cases e3 : (k - 1) / 2 = (j - 1) / 2
        · rw [if_pos e3]
          have a1 := h.1 k k0 kn e1
          rw [e3] at a1
          exact o.tran _ _ _ (o.asym _ _ hl) a1
        · rw [if_neg e3]
          exact h.1 k k0 kn e1
  · intro k k0 kn ke i0
    rw [swp_getD _ _ _ _ (by omega) (by omega), swp_getD _ _ _ _ (by omega) (by omega)]
    have b1 : ¬ ((j - 1) / 2 - 1) / 2 = j := by omega
    have b2 : ¬ ((j - 1) / 2 - 1) / 2 = (j - 1) / 2 := by omega
    rw [if_neg b1, if_neg b2]
    have p1 := h.1 ((j - 1) / 2) i0 (by omega) (by omega)
    by_cases e1 : k = j
    · subst e1
      rw [if_pos rfl]
      exact p1
    · rw [if_neg e1, if_neg (by omega)]
      have a1 := h.1 k k0 kn e1
      rw [ke] at a1
      exact o.tran _ _ _ p1 a1

theorem Hp.up {lt : α → α → Bool} {xs : List α} (h : Hp lt xs.length xs) (x : α) : Up lt (xs.length + 1) (xs ++ [x]) xs.length := by
  have g : ∀ k, k < xs.length → (xs ++ [x]).getD k default = xs.getD k default := fun k hk => by
    simp only [List.getD_eq_getElem?_getD]
    rw [List.getElem?_append_left hk]
  constructor
  · intro k k0 kn ke
    rw [g k (by omega), g _ (by omega)]
    exact h k k0 (by omega)
  · intro k k0 kn ke
    omega

theorem Dn.stop {lt : α → α → Bool} {n : Nat} {xs : List α} {i : Nat} (h : Dn lt n xs i) (hc : ∀ k, 0 < k → k < n → (k - 1) / 2 = i → lt (xs.getD k default) (xs.getD i default) = false) : Hp lt n xs := by
  intro k k0 kn
  by_cases e : (k - 1) / 2 = i
  · rw [e]; exact hc k k0 kn e
  · exact h.1 k k0 kn e

/-- A heap but for what stands at i, which may have to go either way. -/
def Ex (lt : α → α → Bool) (n : Nat) (xs : List α) (i : Nat) : Prop :=
  (∀ k, 0 < k → k < n → k ≠ i → (k - 1) / 2 ≠ i → lt (xs.getD k default) (xs.getD ((k - 1) / 2) default) = false) ∧
  (∀ k, 0 < k → k < n → (k - 1) / 2 = i → 0 < i → lt (xs.getD k default) (xs.getD ((i - 1) / 2) default) = false)
theorem Dn.ex {lt : α → α → Bool} {n : Nat} {xs : List α} {i : Nat} (h : Dn lt n xs i) : Ex lt n xs i := ⟨fun k a b _ c => h.1 k a b c, h.2⟩
theorem Ex.up {lt : α → α → Bool} {n : Nat} {xs : List α} {i : Nat} (h : Ex lt n xs i) (hc : ∀ k, 0 < k → k < n → (k - 1) / 2 = i → lt (xs.getD k default) (xs.getD i default) = false) : Up lt n xs i := by
  refine ⟨fun k k0 kn ke => ?_, h.2⟩
  by_cases e : (k - 1) / 2 = i
  · rw [e]; exact hc k k0 kn e
  · exact h.1 k k0 kn ke e

theorem Ex.step {lt : α → α → Bool} (o : Ord lt) {n : Nat} {xs : List α} {i j : Nat} (h : Ex lt n xs i) (hn : n ≤ xs.length) (hj : j < n) (h0 : 0 < j) (hp : (j - 1) / 2 = i)
    (hl : lt (xs.getD j default) (xs.getD i default) = true) (hc : ∀ k, 0 < k → k < n → (k - 1) / 2 = i → lt (xs.getD k default) (xs.getD j default) = false) : Dn lt n (swp xs i j) j := by
  have hi : i < j := by omega
  constructor
  · intro k k0 kn ke
    rw [swp_getD _ _ _ _ (by omega) (by omega), swp_getD _ _ _ _ (by omega) (by omega)]
    rw [if_neg ke]
    by_cases e1 : k = j
    · subst e1
      rw [if_pos rfl, if_pos hp]
      exact o.asym _ _ hl
    · rw [if_neg e1]
      by_cases e2 : k = i
      · subst e2
        rw [if_pos rfl, if_neg (by omega)]
        exact h.2 j h0 hj hp k0
      · rw [if_neg e2]
        by_cases e3 : (k - 1) / 2 = i
        · rw [if_pos e3]
          exact hc k k0 kn e3
        · rw [if_neg e3]
          exact h.1 k k0 kn e2 e3
  · intro k k0 kn ke j0
    rw [swp_getD _ _ _ _ (by omega) (by omega), swp_getD _ _ _ _ (by omega) (by omega)]
    rw [if_neg (by omega), if_neg (by omega), if_neg (by omega), if_pos hp]
    have a1 := h.1 k k0 kn (by omega) (by omega)
    rw [ke] at a1
    exact a1

theorem Hp.dn {lt : α → α → Bool} {n : Nat} {xs : List α} (h : Hp lt (n + 1) xs) (hl : xs.length = n + 1) : Dn lt n (swp xs 0 n) 0 := by
  constructor
  · intro k k0 kn ke
    rw [swp_getD _ _ _ _ (by omega) (by omega), swp_getD _ _ _ _ (by omega) (by omega)]
    rw [if_neg (by omega), if_neg (by omega), if_neg (by omega), if_neg ke]
    exact h k k0 (by omega)
  · intro k k0 kn ke h0
    omega

theorem Hp.least {lt : α → α → Bool} (o : Ord lt) (hir : ∀ a, lt a a = false) {n : Nat} {xs : List α} (h : Hp lt n xs) : ∀ k, k < n → lt (xs.getD k default) (xs.getD 0 default) = false := by
  intro k
  induction k using Nat.strongRecOn with
  | _ k ih =>
    intro hk
    by_cases h0 : k = 0
    · subst h0; exact hir _
    · exact o.tran _ _ _ (ih ((k - 1) / 2) (by omega) (by omega)) (h k (by omega) hk)

theorem Hp.mono {lt : α → α → Bool} {n m : Nat} {xs : List α} (h : Hp lt n xs) (hm : m ≤ n) : Hp lt m xs := fun k k0 kn => h k k0 (Nat.lt_of_lt_of_le kn hm)
theorem Hp.take {lt : α → α → Bool} {n : Nat} {xs : List α} (h : Hp lt n xs) : Hp lt n (xs.take n) := by
  intro k k0 kn
  have g : ∀ j, j < n → (xs.take n).getD j default = xs.getD j default := fun j hj => by
    simp only [List.getD_eq_getElem?_getD]
    rw [List.getElem?_take, if_pos hj]
  rw [g k kn, g _ (by omega)]
  exact h k k0 kn
end Go.Proofs.YthdjbflbhgbckaaDoor.HeapPlain

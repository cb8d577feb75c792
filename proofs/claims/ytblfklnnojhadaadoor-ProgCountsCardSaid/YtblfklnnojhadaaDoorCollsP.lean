/-
  Numbers, each once, rising: sorted and freed of neighbours that are the same; or put one by one to their places. No program in sight.
-/
import Derived.Lib.SlicesCompact
set_option linter.unusedVariables false
namespace Go.Proofs.YtblfklnnojhadaaDoor.Colls

def SrtI (l : List Int) : Prop := l.Pairwise (· < ·)
theorem ext_int : ∀ {a b : List Int}, SrtI a → SrtI b → (∀ x, x ∈ a ↔ x ∈ b) → a = b
  | [], [], _, _, _ => rfl
  | [], y :: b, _, _, h => by have := (h y).2 (by simp); simp at this
  | x :: a, [], _, _, h => by have := (h x).1 (by simp); simp at this
  | x :: a, y :: b, ha, hb, h => by
    obtain ⟨a1, a2⟩ := List.pairwise_cons.1 ha
    obtain ⟨b1, b2⟩ := List.pairwise_cons.1 hb
    have hxy : x = y := by
      have h1 := (h x).1 (by simp)
      have h2 := (h y).2 (by simp)
      rcases List.mem_cons.1 h1 with e | e
      · exact e
      · rcases List.mem_cons.1 h2 with e2 | e2
        · exact e2.symm
        · have := b1 x e
          have := a1 y e2
          omega
    subst hxy
    rw [ext_int a2 b2 fun z => ?_]
    have := h z
    constructor
    · intro hz
      have h1 := (h z).1 (List.mem_cons_of_mem _ hz)
      rcases List.mem_cons.1 h1 with e | e
      · have := a1 z hz; omega
      · exact e
    · intro hz
      have h1 := (h z).2 (List.mem_cons_of_mem _ hz)
      rcases List.mem_cons.1 h1 with e | e
      · have := b1 z hz; omega
      · exact e
/-- A number goes to its place, if it is not there. -/
def insI (l : List Int) (c : Int) : List Int := if c ∈ l then l else l.takeWhile (fun x => decide (x < c)) ++ c :: l.dropWhile (fun x => decide (x < c))
theorem tw_lt {l : List Int} {c x : Int} (h : x ∈ l.takeWhile (fun x => decide (x < c))) : x < c := by
  have := List.all_takeWhile (p := fun x => decide (x < c)) (l := l)
  rw [List.all_eq_true] at this
  simpa using this x h
theorem dw_ge : ∀ {l : List Int} {c x : Int}, SrtI l → x ∈ l.dropWhile (fun x => decide (x < c)) → c ≤ x
  | [], c, x, _, h => by simp at h
  | y :: l, c, x, hs, h => by
    obtain ⟨h1, h2⟩ := List.pairwise_cons.1 hs
    rw [List.dropWhile_cons] at h
    by_cases hy : y < c
    · rw [if_pos (by simpa using hy)] at h
      exact dw_ge h2 h
    · rw [if_neg (by simpa using hy)] at h
      rcases List.mem_cons.1 h with rfl | h
      · omega
      · have := h1 x h; omega
theorem srt_ins {l : List Int} (h : SrtI l) (c : Int) : SrtI (insI l c) := by
  unfold insI
  by_cases hc : c ∈ l
  · rw [if_pos hc]; exact h
  · rw [if_neg hc]
    have hd : ∀ x ∈ l.dropWhile (fun x => decide (x < c)), c < x := fun x hx => by
      have h1 := dw_ge h hx
      have h2 : x ∈ l := (List.dropWhile_sublist _).subset hx
      rcases Int.lt_or_eq_of_le h1 with h3 | h3
      · exact h3
      · subst h3; exact absurd h2 hc
    refine List.pairwise_append.2 ⟨h.sublist (List.takeWhile_sublist _), List.pairwise_cons.2 ⟨hd, h.sublist (List.dropWhile_sublist _)⟩, fun x hx y hy => ?_⟩
    have h1 := tw_lt hx
    rcases List.mem_cons.1 hy with rfl | hy
    · exact h1
    · have := hd y hy; omega
theorem mem_ins {l : List Int} {c x : Int} : x ∈ insI l c ↔ x = c ∨ x ∈ l := by
  unfold insI
  by_cases hc : c ∈ l
  · rw [if_pos hc]
    constructor
    · exact .inr
    · rintro (rfl | h)
      · exact hc
      · exact h
  · rw [if_neg hc, List.mem_append, List.mem_cons]
    have : x ∈ l ↔ x ∈ l.takeWhile (fun x => decide (x < c)) ∨ x ∈ l.dropWhile (fun x => decide (x < c)) := by
      conv => lhs; rw [← List.takeWhile_append_dropWhile (p := fun x => decide (x < c)) (l := l)]
      exact List.mem_append
    rw [this]
    constructor
    · rintro (h | h | h)
      · exact .inr (.inl h)
      · exact .inl h
      · exact .inr (.inr h)
    · rintro (h | h | h)
      · exact .inr (.inl h)
      · exact .inl h
      · exact .inr (.inr h)
def allI (cs : List Int) : List Int := cs.foldl insI []
theorem foldl_srt : ∀ (cs : List Int) (l : List Int), SrtI l → SrtI (cs.foldl insI l) ∧ ∀ x, x ∈ cs.foldl insI l ↔ x ∈ l ∨ x ∈ cs
  | [], l, h => ⟨h, fun x => by simp⟩
  | c :: cs, l, h => by
    obtain ⟨h1, h2⟩ := foldl_srt cs (insI l c) (srt_ins h c)
    refine ⟨h1, fun x => ?_⟩
    rw [List.foldl_cons, h2, mem_ins, List.mem_cons]
    constructor
    · rintro ((h | h) | h)
      · exact .inr (.inl h)
      · exact .inl h
      · exact .inr (.inr h)
    · rintro (h | h | h)
      · exact .inl (.inr h)
      · exact .inl (.inl h)
      · exact .inr h
/-- Neighbours that are the same, the first one left: what the library keeps. -/
theorem comp_mem (d : Array Int) : ∀ (m : Nat) (x : Int), x ∈ Lib.compactUpTo d m ↔ ∃ j, j < m ∧ d[j]! = x
  | 0, x => by simp [Lib.compactUpTo]
  | m + 1, x => by
    rw [Lib.compactUpTo_succ, List.mem_append, comp_mem d m x]
    constructor
    · rintro (⟨j, hj, e⟩ | h)
      · exact ⟨j, by omega, e⟩
      · by_cases hk : Lib.keeps d m = true
        · rw [if_pos hk] at h
          exact ⟨m, by omega, (List.mem_singleton.1 h).symm⟩
        · rw [if_neg hk] at h
          simp at h
    · rintro ⟨j, hj, e⟩
      by_cases hjm : j = m
      · subst hjm
        by_cases hk : Lib.keeps d j = true
        · exact .inr (by rw [if_pos hk]; simp [e])
        · have h2 : j ≠ 0 ∧ d[j]! = d[j - 1]! := by
            unfold Lib.keeps at hk
            simp only [decide_eq_true_eq] at hk
            exact ⟨fun h => hk (.inl h), Decidable.byContradiction fun h => hk (.inr h)⟩
          exact .inl ⟨j - 1, by omega, by rw [← h2.2]; exact e⟩
      · exact .inl ⟨j, by omega, e⟩
theorem comp_srt (d : Array Int) (n : Nat) (hd : ∀ i j, i ≤ j → j < n → d[i]! ≤ d[j]!) : ∀ m, m ≤ n → SrtI (Lib.compactUpTo d m)
  | 0, _ => by simp [Lib.compactUpTo, SrtI]
  | m + 1, hm => by
    rw [Lib.compactUpTo_succ]
    by_cases hk : Lib.keeps d m = true
    · rw [if_pos hk]
      refine List.pairwise_append.2 ⟨comp_srt d n hd m (by omega), List.pairwise_singleton _ _, fun x hx y hy => ?_⟩
      obtain rfl := List.mem_singleton.1 hy
      obtain ⟨j, hj, e⟩ := (comp_mem d m x).1 hx
      unfold Lib.keeps at hk
      rcases of_decide_eq_true hk with h | h
      · omega
      · have h1 := hd j (m - 1) (by omega) (by omega)
        have h2 := hd (m - 1) m (by omega) (by omega)
        omega
    · rw [if_neg hk, List.append_nil]
      exact comp_srt d n hd m (by omega)
/-- Sorted and freed of the same: as put one by one. -/
theorem comp_all {cs ss : List Int} (hs : ss.Pairwise (· ≤ ·)) (hp : ss.Perm cs) : Lib.compact ss = allI cs := by
  obtain ⟨h1, h2⟩ := foldl_srt cs [] List.Pairwise.nil
  have hg : ∀ i, i < ss.length → ss.toArray[i]! = ss.getD i 0 := fun i hi => by
    rw [getElem!_pos ss.toArray i (by simpa using hi), List.getD_eq_getElem?_getD, List.getElem?_eq_getElem hi]
    rfl
  refine ext_int (comp_srt _ ss.length (fun i j hij hj => ?_) _ (Nat.le_refl _)) h1 fun x => ?_
  · rw [hg i (by omega), hg j hj]
    rcases Nat.lt_or_eq_of_le hij with h | h
    · have := List.pairwise_iff_getElem.1 hs i j (by omega) hj h
      rw [List.getD_eq_getElem?_getD, List.getD_eq_getElem?_getD, List.getElem?_eq_getElem (by omega), List.getElem?_eq_getElem hj]
      exact this
    · subst h; exact Int.le_refl _
  · unfold Lib.compact allI
    rw [comp_mem, h2, ← hp.mem_iff]
    constructor
    · rintro ⟨j, hj, e⟩
      right
      rw [← e, hg j hj, List.getD_eq_getElem?_getD, List.getElem?_eq_getElem hj]
      exact List.getElem_mem hj
    · rintro (h | h)
      · simp at h
      · obtain ⟨j, hj, e⟩ := List.getElem_of_mem h
        exact ⟨j, hj, by rw [hg j hj, List.getD_eq_getElem?_getD, List.getElem?_eq_getElem hj]; exact e⟩
theorem sort_le (cs : List Int) : (cs.mergeSort fun x y => decide (x ≤ y)).Pairwise (· ≤ ·) := by
  have := List.pairwise_mergeSort (le := fun (x y : Int) => decide (x ≤ y)) (fun a b c h1 h2 => by simp at *; omega) (fun a b => by simp; omega) cs
  exact this.imp (fun h => by simpa using h)
theorem comp_sort (cs : List Int) : Lib.compact (cs.mergeSort fun x y => decide (x ≤ y)) = allI cs := comp_all (sort_le cs) (List.mergeSort_perm _ _)
theorem comp_len (ss : List Int) : (Lib.compact ss).length ≤ ss.length := by
  unfold Lib.compact Lib.compactUpTo
  rw [List.length_map]
  exact Nat.le_trans (List.length_filter_le _ _) (by simp)
/-- A number's place, found by going from the first one on. -/
theorem ins_at {l : List Int} {c : Int} {i : Nat} (hc : c ∉ l) (hi : i ≤ l.length) (h1 : ∀ j, j < i → l.getD j 0 < c) (h2 : l.length = i ∨ ¬ l.getD i 0 < c) : insI l c = l.take i ++ (c :: l.drop i) := by
  unfold insI
  rw [if_neg hc]
  clear hc
  induction l generalizing i with
  | nil => simp at hi; subst hi; rfl
  | cons a l ih =>
    cases i with
    | zero =>
      have : ¬ a < c := h2.elim (fun h => by simp at h) (fun h => by simpa using h)
      rw [List.takeWhile_cons, List.dropWhile_cons, if_neg (by simpa using this), if_neg (by simpa using this)]
      rfl
    | succ i =>
      have h0 : a < c := by have := h1 0 (by omega); simpa using this
      have := ih (by simpa using hi) (fun j hj => by have := h1 (j + 1) (by omega); simpa using this) (h2.imp (fun h => by simpa using h) (fun h => by simpa using h))
      rw [List.takeWhile_cons, List.dropWhile_cons, if_pos (by simpa using h0), if_pos (by simpa using h0), List.cons_append, this]
      rfl
theorem ins_in {l : List Int} {c : Int} (hc : c ∈ l) : insI l c = l := by unfold insI; rw [if_pos hc]
theorem ins_len (l : List Int) (c : Int) : (insI l c).length ≤ l.length + 1 := by
  unfold insI
  by_cases hc : c ∈ l
  · rw [if_pos hc]; omega
  · rw [if_neg hc]
    have : (l.takeWhile (fun x => decide (x < c)) ++ l.dropWhile (fun x => decide (x < c))).length = l.length := by rw [List.takeWhile_append_dropWhile]
    simp only [List.length_append, List.length_cons] at this ⊢
    omega
end Go.Proofs.YtblfklnnojhadaaDoor.Colls

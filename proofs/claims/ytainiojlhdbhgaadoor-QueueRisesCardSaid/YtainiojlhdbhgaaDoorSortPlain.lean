/-
  Sorted lists, plainly: inserting by a strict total order; of one set of things there is one sorted list. No Go in sight.
-/
import Derived.Test.YtainiojlhdbhgaaDoorHeapPlain
namespace Go.Proofs.YtainiojlhdbhgaaDoor
section
variable {α : Type}
/-- A strict total order. -/
structure Tot (lt : α → α → Bool) : Prop where
  irr : ∀ a, lt a a = false
  trans : ∀ a b c, lt a b = true → lt b c = true → lt a c = true
  tri : ∀ a b, a ≠ b → lt a b = true ∨ lt b a = true
variable {lt : α → α → Bool}
theorem Tot.asym (T : Tot lt) (a b : α) (h : lt a b = true) : lt b a = false := by
  cases hb : lt b a with
  | false => rfl
  | true => have := T.trans a b a h hb; rw [T.irr] at this; cases this
theorem Tot.ord (T : Tot lt) : HeapPlain.Ord lt where
  asym := T.asym
  tran := by
    intro a b c h1 h2
    cases h : lt c a with
    | false => rfl
    | true =>
      exfalso
      by_cases e : a = b
      · subst e; rw [h] at h2; cases h2
      · rcases T.tri a b e with h3 | h3
        · have := T.trans c a b h h3; rw [h2] at this; cases this
        · rw [h1] at h3; cases h3
/-- x goes to its place. -/
def insO (lt : α → α → Bool) (l : List α) (x : α) : List α := l.takeWhile (fun y => lt y x) ++ x :: l.dropWhile (fun y => lt y x)
theorem insO_perm (l : List α) (x : α) : (insO lt l x).Perm (x :: l) := by
  unfold insO
  have := List.takeWhile_append_dropWhile (p := fun y => lt y x) (l := l)
  conv => rhs; rw [← this]
  exact List.perm_middle
theorem takeWhile_all (p : α → Bool) : ∀ (l : List α) (a : α), a ∈ l.takeWhile p → p a = true
  | [], a, h => by simp at h
  | b :: l, a, h => by
    rw [List.takeWhile_cons] at h
    split at h
    · rcases List.mem_cons.1 h with rfl | h
      · assumption
      · exact takeWhile_all p l a h
    · simp at h
theorem dropWhile_head (p : α → Bool) : ∀ (l : List α) (b : α) (r : List α), l.dropWhile p = b :: r → p b = false
  | [], _, _, h => by simp at h
  | a :: l, b, r, h => by
    rw [List.dropWhile_cons] at h
    split at h
    · exact dropWhile_head p l b r h
    · rename_i hp
      injection h with h1 h2
      subst h1
      simpa using hp
theorem insO_pairwise (T : Tot lt) {l : List α} {x : α} (h : l.Pairwise (fun a b => lt a b = true)) (hx : x ∉ l) : (insO lt l x).Pairwise (fun a b => lt a b = true) := by
  unfold insO
  have hs : l.takeWhile (fun y => lt y x) ++ l.dropWhile (fun y => lt y x) = l := List.takeWhile_append_dropWhile
  rw [← hs, List.pairwise_append] at h
  obtain ⟨h1, h2, h3⟩ := h
  have hd : ∀ b ∈ l.dropWhile (fun y => lt y x), lt x b = true := by
    intro b hb
    cases hdw : l.dropWhile (fun y => lt y x) with
    | nil => rw [hdw] at hb; simp at hb
    | cons c r =>
      have hc : lt c x = false := dropWhile_head (fun y => lt y x) l c r hdw
      have hxc : lt x c = true := by
        rcases T.tri x c (fun e => hx (by rw [← hs, hdw, e]; simp)) with h | h
        · exact h
        · rw [hc] at h; cases h
      rw [hdw] at hb h2
      rcases List.mem_cons.1 hb with rfl | hb
      · exact hxc
      · exact T.trans _ _ _ hxc ((List.pairwise_cons.1 h2).1 b hb)
  rw [List.pairwise_append]
  refine ⟨h1, List.pairwise_cons.2 ⟨hd, h2⟩, fun a ha b hb => ?_⟩
  have hax := takeWhile_all _ _ _ ha
  rcases List.mem_cons.1 hb with rfl | hb
  · exact hax
  · exact h3 a ha b hb
theorem take_while (p : α → Bool) : ∀ (l : List α) (k : Nat), k ≤ l.length → (∀ j (hj : j < l.length), j < k → p l[j] = true) → (l.length = k ∨ ∃ h : k < l.length, p l[k] = false) → l.takeWhile p = l.take k ∧ l.dropWhile p = l.drop k
  | [], k, _, _, _ => by simp
  | a :: l, 0, _, _, h => by
    rcases h with h | ⟨_, h⟩
    · simp at h
    · have h' : p a = false := h
      simp [h']
  | a :: l, k + 1, hk, ha, h => by
    have h0 : p a = true := ha 0 (by simp) (by omega)
    have := take_while p l k (by simpa using hk) (fun j hj hjk => ha (j + 1) (by simpa using hj) (by omega)) (by
      rcases h with h | ⟨h1, h⟩
      · left; simpa using h
      · exact .inr ⟨by simpa using h1, h⟩)
    simp [h0, this]
/-- The place that a walk from the left finds. -/
theorem insO_at [Inhabited α] (l : List α) (x : α) (k : Nat) (hk : k ≤ l.length) (ha : ∀ j, j < k → lt (l.getD j default) x = true) (hb : l.length = k ∨ lt (l.getD k default) x = false) : insO lt l x = l.take k ++ x :: l.drop k := by
  have := take_while (fun y => lt y x) l k hk (fun j hj hjk => by have := ha j hjk; rwa [List.getD_eq_getElem?_getD, List.getElem?_eq_getElem hj] at this) (by
    rcases hb with h | h
    · exact .inl h
    · rcases Nat.lt_or_ge k l.length with h1 | h1
      · exact .inr ⟨h1, by rwa [List.getD_eq_getElem?_getD, List.getElem?_eq_getElem h1] at h⟩
      · exact .inl (by omega))
  rw [insO, this.1, this.2]
/-- All of some, each gone to its place. -/
def srt (lt : α → α → Bool) (l : List α) : List α := l.foldl (insO lt) []
theorem srt_snoc (l : List α) (x : α) : srt lt (l ++ [x]) = insO lt (srt lt l) x := by simp [srt]
theorem srt_perm (l : List α) : (srt lt l).Perm l := by
  suffices ∀ (l acc : List α), (l.foldl (insO lt) acc).Perm (acc ++ l) by simpa [srt] using this l []
  intro l
  induction l with
  | nil => simp
  | cons x l ih =>
    intro acc
    rw [List.foldl_cons]
    refine (ih _).trans ?_
    refine (List.Perm.append_right l (insO_perm acc x)).trans ?_
    exact List.perm_middle.symm
theorem srt_pairwise (T : Tot lt) (l : List α) (hn : l.Nodup) : (srt lt l).Pairwise (fun a b => lt a b = true) := by
  suffices ∀ (l acc : List α), (acc ++ l).Nodup → acc.Pairwise (fun a b => lt a b = true) → (l.foldl (insO lt) acc).Pairwise (fun a b => lt a b = true) from this l [] (by simpa using hn) .nil
  intro l
  induction l with
  | nil => intro acc _ h; simpa using h
  | cons x l ih =>
    intro acc hn h
    rw [List.foldl_cons]
    have hp : (insO lt acc x ++ l).Perm (acc ++ x :: l) := (List.Perm.append_right l (insO_perm acc x)).trans List.perm_middle.symm
    refine ih _ (hp.nodup_iff.2 hn) (insO_pairwise T h ?_)
    intro hx
    rw [List.nodup_append] at hn
    exact hn.2.2 x hx x (by simp) rfl
theorem sorted_uniq (T : Tot lt) {a b : List α} (hp : a.Perm b) (ha : a.Pairwise (fun a b => lt a b = true)) (hb : b.Pairwise (fun a b => lt a b = true)) : a = b :=
  List.Perm.eq_of_pairwise (fun x y _ _ h1 h2 => by have := T.asym x y h1; rw [h2] at this; cases this) ha hb hp
theorem sorted_nodup (T : Tot lt) {a : List α} (ha : a.Pairwise (fun a b => lt a b = true)) : a.Nodup :=
  ha.imp fun h e => by subst e; rw [T.irr] at h; cases h
theorem srt_eq (T : Tot lt) {os l : List α} (hp : os.Perm l) (ho : os.Pairwise (fun a b => lt a b = true)) : os = srt lt l :=
  sorted_uniq T (hp.trans (srt_perm l).symm) ho (srt_pairwise T l (hp.nodup_iff.1 (sorted_nodup T ho)))
theorem srt_congr (T : Tot lt) {l m : List α} (hp : l.Perm m) (hn : l.Nodup) : srt lt l = srt lt m :=
  srt_eq T ((srt_perm l).trans hp) (srt_pairwise T l hn)
/-- A least one of what is left goes behind what is sorted. -/
theorem sort_step (T : Tot lt) {os ys zs R : List α} {y : α} (hp : (os ++ ys).Perm R) (hn : R.Nodup) (hy : (y :: zs).Perm ys) (hle : ∀ x ∈ ys, lt x y = false) (ho : os.Pairwise (fun a b => lt a b = true)) (hA : ∀ a ∈ os, ∀ b ∈ ys, lt a b = true) :
    ((os ++ [y]) ++ zs).Perm R ∧ (os ++ [y]).Pairwise (fun a b => lt a b = true) ∧ ∀ a ∈ os ++ [y], ∀ b ∈ zs, lt a b = true := by
  have hyy : y ∈ ys := hy.mem_iff.1 (by simp)
  have hzy : ∀ b ∈ zs, b ∈ ys := fun b hb => hy.mem_iff.1 (List.mem_cons_of_mem _ hb)
  have hnd : (y :: zs).Nodup := hy.nodup_iff.2 ((List.nodup_append.1 (hp.nodup_iff.2 hn)).2.1)
  refine ⟨?_, ?_, ?_⟩
  · rw [List.append_assoc]
    exact (List.Perm.append_left os hy).trans hp
  · rw [List.pairwise_append]
    refine ⟨ho, by simp, fun a ha b hb => ?_⟩
    simp only [List.mem_singleton] at hb
    subst hb
    exact hA a ha b hyy
  · intro a ha b hb
    rcases List.mem_append.1 ha with ha | ha
    · exact hA a ha b (hzy b hb)
    · simp only [List.mem_singleton] at ha
      subst ha
      have hne : a ≠ b := fun e => (List.nodup_cons.1 hnd).1 (e ▸ hb)
      rcases T.tri a b hne with h | h
      · exact h
      · rw [hle b (hzy b hb)] at h; cases h
end
end Go.Proofs.YtainiojlhdbhgaaDoor

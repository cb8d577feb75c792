/-
  Merging lists of pairs by rising keys, plainly: of several with one key the first one's value. No program in sight (but the streams' order).
-/
import Derived.Test.YthdjbflbhgbckaaDoorStr
set_option linter.unusedVariables false
namespace Go.Proofs.YthdjbflbhgbckaaDoor.Mrg
open Stab Assoc HeapPlain

theorem get_append (a b : PL) (k : Int) : get (a ++ b) k = (get a k).or (get b k) := by
  induction a with
  | nil => simp [get_nil]
  | cons p a ih =>
    rw [List.cons_append, get_cons, get_cons, ih]
    split <;> simp
theorem get_isSome {l : PL} {k : Int} : (get l k).isSome = true ↔ ∃ p ∈ l, p.1 = k := by
  constructor
  · intro h
    obtain ⟨v, hv⟩ := Option.isSome_iff_exists.1 h
    exact ⟨_, mem_of_get hv, rfl⟩
  · rintro ⟨p, hp, rfl⟩
    cases h : get l p.1 with
    | none => exact absurd rfl (get_none.1 h p hp)
    | some v => rfl
/-- M has the keys of all of L, each with the first one's value. -/
def Uni (L : List PL) (M : PL) : Prop := Srt M ∧ ∀ k, get M k = get L.flatten k
theorem Uni.eq {L : List PL} {M M' : PL} (h : Uni L M) (h' : Uni L M') : M = M' := ext h.1 h'.1 (fun k => (h.2 k).trans (h'.2 k).symm)
theorem Uni.nil : Uni [] [] := ⟨Srt.nil, fun _ => rfl⟩
theorem Uni.one {r : PL} (h : Srt r) : Uni [r] r := ⟨h, fun k => by simp⟩
theorem Uni.twice {r : PL} (h : Srt r) : Uni [r, r] r := ⟨h, fun k => by simp [get_append, Option.or_self]⟩
theorem Uni.parts {A B : List PL} {a b m : PL} (ha : Uni A a) (hb : Uni B b) (h : Uni [a, b] m) : Uni (A ++ B) m :=
  ⟨h.1, fun k => by rw [h.2]; simp [get_append, ha.2, hb.2]⟩
theorem Uni.len {L : List PL} {M : PL} (h : Uni L M) : M.length ≤ L.flatten.length := by
  have h1 : (M.map (·.1)).Nodup := by
    unfold List.Nodup
    rw [List.pairwise_map]
    exact h.1.imp (fun h => by omega)
  have h2 : ∀ k ∈ M.map (·.1), k ∈ L.flatten.map (·.1) := by
    intro k hk
    obtain ⟨p, hp, rfl⟩ := List.mem_map.1 hk
    have : (get L.flatten p.1).isSome = true := by rw [← h.2, get_mem h.1 hp]; rfl
    obtain ⟨q, hq, e⟩ := get_isSome.1 this
    exact List.mem_map.2 ⟨q, hq, e⟩
  have := List.Nodup.length_le_of_subset h1 h2
  rwa [List.length_map, List.length_map] at this
/-- T n of the n-th list is told, R n is not. -/
def told (T : Nat → PL) (N : Nat) : PL := (List.range N).flatMap T
def up (f : Nat → PL) (n : Nat) (l : PL) : Nat → PL := fun k => if k = n then l else f k
theorem up_at (f : Nat → PL) (n : Nat) (l : PL) : up f n l n = l := by simp [up]
theorem up_ne (f : Nat → PL) {n k : Nat} (l : PL) (h : k ≠ n) : up f n l k = f k := by simp [up, h]
structure MInv (L : List PL) (T R : Nat → PL) (ys : List Sm) (acc : PL) : Prop where
  srt : ∀ n, Srt (L.getD n [])
  cut : ∀ n, L.getD n [] = T n ++ R n
  heads : ∀ y ∈ ys, ∃ n : Nat, y.n = n ∧ n < L.length ∧ ∃ rest, R n = (y.k, y.v) :: rest
  others : ∀ n : Nat, (∀ y ∈ ys, y.n ≠ n) → R n = []
  nd : (ys.map (·.n)).Nodup
  front : ∀ m m', ∀ p ∈ T m, ∀ q ∈ R m', p.1 < q.1 ∨ (p.1 = q.1 ∧ m < m')
  asrt : Srt acc
  aget : ∀ k, get acc k = get (told T L.length) k
def rem (R : Nat → PL) (N : Nat) : Nat := ((List.range N).map (fun n => (R n).length)).sum
theorem range_split {n N : Nat} (h : n < N) : List.range N = List.range n ++ (n :: List.range' (n + 1) (N - n - 1)) := by
  obtain ⟨d, rfl⟩ : ∃ d, N = n + (d + 1) := ⟨N - n - 1, by omega⟩
  have e1 : n + (d + 1) - n - 1 = d := by omega
  rw [List.range_eq_range', List.range_eq_range', e1, ← List.range'_append_1, Nat.zero_add, List.range'_succ]
theorem told_split (T : Nat → PL) {n N : Nat} (h : n < N) : told T N = told T n ++ (T n ++ (List.range' (n + 1) (N - n - 1)).flatMap T) := by
  unfold told
  have e := range_split h
  rw [e, List.flatMap_append, List.flatMap_cons]
theorem told_up_lt (T : Nat → PL) {n m : Nat} (l : PL) (h : m ≤ n) : told (up T n l) m = told T m := by
  unfold told
  rw [List.flatMap_def, List.flatMap_def]
  congr 1
  refine List.map_congr_left (fun k hk => up_ne T l ?_)
  have := List.mem_range.1 hk
  omega
theorem after_up (T : Nat → PL) (n : Nat) (l : PL) (c : Nat) : (List.range' (n + 1) c).flatMap (up T n l) = (List.range' (n + 1) c).flatMap T := by
  rw [List.flatMap_def, List.flatMap_def]
  congr 1
  refine List.map_congr_left (fun k hk => up_ne T l ?_)
  have := List.mem_range'_1.1 hk
  omega
theorem mem_told {T : Nat → PL} {N : Nat} {p : Int × Int} : p ∈ told T N ↔ ∃ n, n < N ∧ p ∈ T n := by
  unfold told
  simp [List.mem_flatMap]
theorem rem_up {R : Nat → PL} {n N : Nat} {x : Int × Int} {rest : PL} (h : n < N) (hR : R n = x :: rest) : rem R N = rem (up R n rest) N + 1 := by
  unfold rem
  have e := range_split h
  rw [e]
  simp only [List.map_append, List.map_cons, List.sum_append, List.sum_cons, up_at, hR, List.length_cons]
  have e1 : (List.range n).map (fun k => (up R n rest k).length) = (List.range n).map (fun k => (R k).length) := List.map_congr_left (fun k hk => by rw [up_ne]; have := List.mem_range.1 hk; omega)
  have e2 : (List.range' (n + 1) (N - n - 1)).map (fun k => (up R n rest k).length) = (List.range' (n + 1) (N - n - 1)).map (fun k => (R k).length) := List.map_congr_left (fun k hk => by rw [up_ne]; have := List.mem_range'_1.1 hk; omega)
  rw [e1, e2]
  omega
theorem MInv.perm {L : List PL} {T R : Nat → PL} {ys zs : List Sm} {acc : PL} (h : MInv L T R ys acc) (hp : zs.Perm ys) : MInv L T R zs acc :=
  ⟨h.srt, h.cut, fun y hy => h.heads y (hp.mem_iff.1 hy), fun n hn => h.others n (fun y hy => hn y (hp.mem_iff.2 hy)), (hp.map _).nodup_iff.2 h.nd, h.front, h.asrt, h.aget⟩
section
variable {L : List PL} {T R : Nat → PL} {ys : List Sm} {acc : PL} {y : Sm}
/-- All that are told have keys that are not above the least head's. -/
theorem MInv.below (h : MInv L T R ys acc) {n : Nat} {rest : PL} (hR : R n = (y.k, y.v) :: rest) : ∀ p ∈ acc, p.1 ≤ y.k := by
  intro p hp
  have h1 := get_mem h.asrt hp
  rw [h.aget] at h1
  obtain ⟨m, _, hm⟩ := mem_told.1 (mem_of_get h1)
  have := h.front m n _ hm (y.k, y.v) (by rw [hR]; exact List.mem_cons_self ..)
  rcases this with h | ⟨h, _⟩ <;> simp at h <;> omega
/-- Where a key stands at the end of those told. -/
theorem MInv.there (h : MInv L T R ys acc) {n : Nat} {rest : PL} (hR : R n = (y.k, y.v) :: rest) : (get acc y.k).isSome = true ↔ ∃ p, acc.getLast? = some p ∧ p.1 = y.k := by
  constructor
  · intro hs
    obtain ⟨p, hp, e⟩ := get_isSome.1 hs
    cases hl : acc.getLast? with
    | none => rw [List.getLast?_eq_none_iff.1 hl] at hp; cases hp
    | some q =>
      refine ⟨q, rfl, ?_⟩
      obtain ⟨pre, rfl⟩ := List.getLast?_eq_some_iff.1 hl
      have hb := h.below hR q (by simp)
      rcases List.mem_append.1 hp with hp | hp
      · have := (List.pairwise_append.1 h.asrt).2.2 p hp q (by simp)
        omega
      · simp at hp; subst hp; exact e
  · rintro ⟨p, hp, e⟩
    exact get_isSome.2 ⟨p, List.mem_of_getLast? hp, e⟩
/-- The least head is told. -/
theorem MInv.step (h : MInv L T R ys acc) {rest : PL} {n : Nat} (hy : y ∈ ys) (hn : y.n = n) (hnl : n < L.length) (hR : R n = (y.k, y.v) :: rest) (hmin : ∀ z ∈ ys, ltS z y = false) {zs : List Sm}
    (hz1 : ∀ z ∈ zs, ∃ m : Nat, z.n = m ∧ m < L.length ∧ ∃ r, up R n rest m = (z.k, z.v) :: r) (hz2 : ∀ m : Nat, (∀ z ∈ zs, z.n ≠ m) → up R n rest m = []) (hz3 : (zs.map (·.n)).Nodup) :
    MInv L (up T n (T n ++ [(y.k, y.v)])) (up R n rest) zs (if (get acc y.k).isSome then acc else acc ++ [(y.k, y.v)]) := by
  have hsn := h.srt n
  rw [h.cut n, hR] at hsn
  have hs2 := (List.pairwise_append.1 hsn).2.1
  have hin : (y.k, y.v) ∈ R n := by rw [hR]; exact List.mem_cons_self ..
  refine ⟨h.srt, fun m => ?_, hz1, hz2, hz3, ?_, ?_, ?_⟩
  · by_cases e : m = n
    · subst e
      rw [up_at, up_at, h.cut, hR]
      simp
    · rw [up_ne _ _ e, up_ne _ _ e, h.cut]
  · intro m m' p hp q hq
    have hqR : q ∈ R m' := by
      by_cases e : m' = n
      · subst e; rw [up_at] at hq; rw [hR]; exact List.mem_cons_of_mem _ hq
      · rwa [up_ne _ _ e] at hq
    by_cases em : m = n
    · subst em
      rw [up_at] at hp
      rcases List.mem_append.1 hp with hp | hp
      · exact h.front m m' p hp q hqR
      · simp at hp
        subst hp
        by_cases e : m' = m
        · subst e
          rw [up_at] at hq
          exact .inl ((List.pairwise_cons.1 hs2).1 q hq)
        · have hne : ¬ (∀ z ∈ ys, z.n ≠ m') := fun hc => by rw [h.others m' hc] at hqR; cases hqR
          have hz : ∃ z ∈ ys, z.n = m' := by
            apply Classical.byContradiction
            intro hc
            exact hne (fun z hz he => hc ⟨z, hz, he⟩)
          obtain ⟨z, hz, hzn⟩ := hz
          obtain ⟨m2, e2, _, r2, hr2⟩ := h.heads z hz
          have e3 : m2 = m' := by rw [hzn] at e2; omega
          subst e3
          have hsz := h.srt m2
          rw [h.cut m2, hr2] at hsz
          have hsz2 := (List.pairwise_append.1 hsz).2.1
          have hzq : z.k ≤ q.1 := by
            rw [hr2] at hqR
            rcases List.mem_cons.1 hqR with rfl | hq'
            · exact Int.le_refl _
            · exact Int.le_of_lt ((List.pairwise_cons.1 hsz2).1 q hq')
          have hl : ¬ (z.k < y.k ∨ (z.k = y.k ∧ z.n < y.n)) := by
            intro hc
            have := (ltS_iff z y).2 hc
            rw [hmin z hz] at this
            cases this
          show y.k < q.1 ∨ (y.k = q.1 ∧ m < m2)
          rw [hn, hzn] at hl
          omega
    · rw [up_ne _ _ em] at hp
      exact h.front m m' p hp q hqR
  · split
    · exact h.asrt
    · rename_i hg
      refine List.pairwise_append.2 ⟨h.asrt, List.pairwise_singleton .., fun p hp q hq => ?_⟩
      simp at hq
      subst hq
      have h1 := h.below hR p hp
      rcases Int.lt_or_eq_of_le h1 with h2 | h2
      · exact h2
      · exact absurd (get_isSome.2 ⟨p, hp, h2⟩) hg
  · intro k
    have hT := h.aget
    rw [told_split _ hnl, told_up_lt _ _ (Nat.le_refl _), up_at, after_up]
    have hT2 : ∀ k, get acc k = (get (told T n) k).or ((get (T n) k).or (get ((List.range' (n + 1) (L.length - n - 1)).flatMap T) k)) := fun k => by
      rw [hT, told_split _ hnl, get_append, get_append]
    rw [get_append, get_append, get_append, get_cons, get_nil]
    by_cases hg : (get acc y.k).isSome = true
    · rw [if_pos hg, hT2]
      by_cases e : y.k = k
      · subst e
        rw [hT] at hg
        obtain ⟨p, hp, e⟩ := get_isSome.1 hg
        obtain ⟨m, _, hm⟩ := mem_told.1 hp
        have hf := h.front m n p hm _ hin
        have hmn : m < n := by
          rcases hf with h | ⟨_, h⟩
          · have h : p.1 < y.k := h
            omega
          · exact h
        have : (get (told T n) y.k).isSome = true := get_isSome.2 ⟨p, mem_told.2 ⟨m, hmn, hm⟩, e⟩
        obtain ⟨v, hv⟩ := Option.isSome_iff_exists.1 this
        rw [hv]
        simp
      · simp [e]
    · rw [if_neg hg, get_append, get_cons, get_nil, hT2]
      by_cases e : y.k = k
      · subst e
        have hn' : get acc y.k = none := by simpa using hg
        rw [hT2] at hn'
        simp only [Option.or_eq_none_iff] at hn'
        obtain ⟨a1, a2, a3⟩ := hn'
        rw [a1, a2, a3]
        simp
      · simp [e]
theorem MInv.done (h : MInv L T R [] acc) : Uni L acc := by
  refine ⟨h.asrt, fun k => ?_⟩
  rw [h.aget]
  congr 1
  unfold told
  have e : ∀ n, T n = L.getD n [] := fun n => by rw [h.cut n, h.others n (fun y hy => by cases hy), List.append_nil]
  rw [List.flatMap_def]
  congr 1
  apply List.ext_getElem
  · simp
  · intro i h1 h2
    rw [List.getElem_map, List.getElem_range, e, List.getD_eq_getElem?_getD, List.getElem?_eq_getElem h2]
    rfl
end
/-- Behind the first loop's rounds: the streams of the first k lists. -/
theorem MInv.start {L : List PL} (hs : ∀ r ∈ L, Srt r) {ys : List Sm} (h1 : ∀ y ∈ ys, ∃ n : Nat, y.n = n ∧ n < L.length ∧ ∃ rest, L.getD n [] = (y.k, y.v) :: rest) (h2 : ∀ n : Nat, n < L.length → (∀ y ∈ ys, y.n ≠ n) → L.getD n [] = []) (h3 : (ys.map (·.n)).Nodup) :
    MInv L (fun _ => []) (fun n => L.getD n []) ys [] := by
  refine ⟨fun n => ?_, fun n => rfl, h1, fun n hn => ?_, h3, fun m m' p hp => (by cases hp), Srt.nil, fun k => ?_⟩
  · rcases Nat.lt_or_ge n L.length with h | h
    · rw [List.getD_eq_getElem?_getD, List.getElem?_eq_getElem h]
      exact hs _ (List.getElem_mem h)
    · rw [List.getD_eq_getElem?_getD, List.getElem?_eq_none h]
      exact Srt.nil
  · rcases Nat.lt_or_ge n L.length with h | h
    · exact h2 n h hn
    · show L.getD n [] = []
      rw [List.getD_eq_getElem?_getD, List.getElem?_eq_none h]
      rfl
  · unfold told
    rw [List.flatMap_def]
    have : ∀ N, ((List.range N).map (fun _ => ([] : PL))).flatten = [] := fun N => by simp
    rw [this]
theorem rem_all (L : List PL) : rem (fun n => L.getD n []) L.length = L.flatten.length := by
  unfold rem
  rw [List.length_flatten]
  congr 1
  apply List.ext_getElem
  · simp
  · intro i h1 h2
    simp at h1
    simp [List.getD_eq_getElem?_getD, h1]
/-- The order of streams. -/
theorem ord_s : Ord ltS where
  asym := fun a b h => by
    have := (ltS_iff a b).1 h
    cases hb : ltS b a with
    | false => rfl
    | true => have := (ltS_iff b a).1 hb; omega
  tran := fun a b c h1 h2 => by
    cases hb : ltS c a with
    | false => rfl
    | true =>
      have h3 := (ltS_iff c a).1 hb
      have h4 : ¬ (b.k < a.k ∨ (b.k = a.k ∧ b.n < a.n)) := fun h => by have := (ltS_iff b a).2 h; rw [h1] at this; cases this
      have h5 : ¬ (c.k < b.k ∨ (c.k = b.k ∧ c.n < b.n)) := fun h => by have := (ltS_iff c b).2 h; rw [h2] at this; cases this
      omega
theorem ltS_irr (a : Sm) : ltS a a = false := by
  cases h : ltS a a with
  | false => rfl
  | true => have := (ltS_iff a a).1 h; omega
theorem ex_set {n : Nat} {xs : List Sm} {x : Sm} (h : Hp ltS n xs) : Ex ltS n (xs.set 0 x) 0 := by
  refine ⟨fun k k0 kn _ kp => ?_, fun k k0 kn kp h0 => by omega⟩
  have e : ∀ j, j ≠ 0 → (xs.set 0 x).getD j default = xs.getD j default := fun j hj => by rw [List.getD_eq_getElem?_getD, List.getD_eq_getElem?_getD, List.getElem?_set_ne (Ne.symm hj)]
  rw [e k (by omega), e _ kp]
  exact h k k0 kn
end Go.Proofs.YthdjbflbhgbckaaDoor.Mrg

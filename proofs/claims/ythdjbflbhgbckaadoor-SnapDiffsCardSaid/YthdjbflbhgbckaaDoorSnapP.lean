/-
  Snapshots, plainly: which pairs are one, which key stands twice, what the document makes of them. No program in sight.
-/
import Derived.Test.YthdjbflbhgbckaaDoorAssoc
import Derived.Test.YthdjbflbhgbckaaDoorStabP
set_option linter.unusedVariables false
namespace Go.Proofs.YthdjbflbhgbckaaDoor.Snap
open Assoc Stab

/-- A key that stands twice. -/
def dupK (l : PL) (k : Int) : Prop := 2 ≤ (l.filter (fun p => p.1 == k)).length
def LeastDup (l : PL) (k : Int) : Prop := dupK l k ∧ ∀ k', dupK l k' → k ≤ k'
def NoDup (l : PL) : Prop := ∀ k, ¬ dupK l k
theorem dup_perm {l m : PL} (h : l.Perm m) (k : Int) : dupK l k ↔ dupK m k := by unfold dupK; rw [(h.filter _).length_eq]
theorem least_perm {l m : PL} (h : l.Perm m) {k : Int} (hk : LeastDup l k) : LeastDup m k := ⟨(dup_perm h k).1 hk.1, fun k' h' => hk.2 k' ((dup_perm h k').2 h')⟩
theorem least_one {l : PL} {k k' : Int} (h : LeastDup l k) (h' : LeastDup l k') : k = k' := Int.le_antisymm (h.2 _ h'.1) (h'.2 _ h.1)
theorem filter_none {l : PL} {k : Int} (h : ∀ p ∈ l, p.1 ≠ k) : l.filter (fun p => p.1 == k) = [] := by
  rw [List.filter_eq_nil_iff]
  intro p hp
  simpa using h p hp
theorem dup_cons {l : PL} {p : Int × Int} {k : Int} : dupK (p :: l) k ↔ dupK l k ∨ (p.1 = k ∧ ∃ q ∈ l, q.1 = k) := by
  unfold dupK
  rw [List.filter_cons]
  by_cases h : p.1 = k
  · rw [if_pos (by simpa using h), List.length_cons]
    constructor
    · intro h1
      have h2 : 0 < (l.filter (fun p => p.1 == k)).length := by omega
      obtain ⟨q, hq⟩ := List.exists_mem_of_length_pos h2
      rw [List.mem_filter] at hq
      exact .inr ⟨h, q, hq.1, by simpa using hq.2⟩
    · rintro (h1 | ⟨_, q, hq, e⟩)
      · omega
      · have : q ∈ l.filter (fun p => p.1 == k) := List.mem_filter.2 ⟨hq, by simpa using e⟩
        have := List.length_pos_of_mem this
        omega
  · rw [if_neg (by simpa using h)]
    constructor
    · exact .inl
    · rintro (h1 | ⟨h1, _⟩)
      · exact h1
      · exact absurd h1 h
theorem dup_snoc {l : PL} {p : Int × Int} {k : Int} : dupK (l ++ [p]) k ↔ dupK l k ∨ (p.1 = k ∧ ∃ q ∈ l, q.1 = k) := by
  rw [dup_perm (List.perm_append_singleton p l) k]
  exact dup_cons
theorem nodup_nil : NoDup [] := fun k h => by simp [dupK] at h
theorem kle_srt {l : PL} (h : Kle l) (hd : NoDup l) : Srt l := by
  induction l with
  | nil => exact Srt.nil
  | cons p l ih =>
    obtain ⟨h1, h2⟩ := kle_cons.1 h
    refine List.pairwise_cons.2 ⟨fun q hq => ?_, ih h2 (fun k hk => hd k (dup_cons.2 (.inl hk)))⟩
    rcases Int.lt_or_eq_of_le (h1 q hq) with h3 | h3
    · exact h3
    · exact absurd (dup_cons.2 (.inr ⟨rfl, q, hq, h3.symm⟩)) (hd p.1)
theorem srt_kle {l : PL} (h : Srt l) : Kle l := h.imp (fun h => by omega)
theorem srt_nodup {l : PL} (h : Srt l) : NoDup l := by
  induction l with
  | nil => exact nodup_nil
  | cons p l ih =>
    intro k hk
    rcases dup_cons.1 hk with hk | ⟨e, q, hq, e'⟩
    · exact ih h.tail k hk
    · have := h.head q hq
      omega
/-- No two neighbours have one key. -/
theorem scan_none {Z : PL} (h : Kle Z) (hn : ∀ i, 1 ≤ i → i < Z.length → (Z.getD (i - 1) default).1 ≠ (Z.getD i default).1) : Srt Z := by
  apply List.pairwise_iff_getElem.2
  intro i j hi hj hij
  have h1 := kle_at h (i := i) (j := j - 1) (by omega) (by omega)
  have h2 := kle_at h (i := j - 1) (j := j) (by omega) (by omega)
  have h3 := hn j (by omega) hj
  have e : ∀ x (hx : x < Z.length), (Z.getD x default) = Z[x] := fun x hx => by rw [List.getD_eq_getElem?_getD, List.getElem?_eq_getElem hx]; rfl
  rw [e _ (by omega), e _ (by omega)] at h1
  rw [e _ (by omega), e _ hj] at h2 h3
  show Z[i].1 < Z[j].1
  omega
/-- The first two neighbours with one key. -/
theorem scan_some {Z : PL} (h : Kle Z) {i : Nat} (h1 : 1 ≤ i) (hi : i < Z.length) (he : (Z.getD (i - 1) default).1 = (Z.getD i default).1) (hn : ∀ j, 1 ≤ j → j < i → (Z.getD (j - 1) default).1 ≠ (Z.getD j default).1) : LeastDup Z (Z.getD i default).1 := by
  have e : ∀ x (hx : x < Z.length), (Z.getD x default) = Z[x] := fun x hx => by rw [List.getD_eq_getElem?_getD, List.getElem?_eq_getElem hx]; rfl
  have hsp : Z = Z.take i ++ Z.drop i := (List.take_append_drop i Z).symm
  have hst : Srt (Z.take i) := by
    refine scan_none (h.sublist (List.take_sublist i Z)) fun j hj1 hj2 => ?_
    rw [List.length_take] at hj2
    have := hn j hj1 (by omega)
    simp only [List.getD_eq_getElem?_getD, List.getElem?_take] at this ⊢
    rw [if_pos (by omega), if_pos (by omega)]
    exact this
  constructor
  · unfold dupK
    have hd : Z = Z.take (i - 1) ++ (Z[i - 1] :: Z[i] :: Z.drop (i + 1)) := by
      have a1 := List.drop_eq_getElem_cons (l := Z) (i := i - 1) (by omega)
      rw [show i - 1 + 1 = i by omega] at a1
      have a2 := List.drop_eq_getElem_cons (l := Z) (i := i) hi
      rw [← a2, ← a1, List.take_append_drop]
    rw [e _ (by omega), e _ hi] at he
    rw [e _ hi]
    obtain ⟨q, hq⟩ : ∃ q, (Z[i]).1 = q := ⟨_, rfl⟩
    rw [hq] at he ⊢
    rw [hd, List.filter_append, List.length_append, List.filter_cons_of_pos (by simpa using he), List.filter_cons_of_pos (by simpa using hq)]
    simp only [List.length_cons]
    omega
  · intro k hk
    rcases Int.lt_or_le k (Z.getD i default).1 with hlt | hge
    · exfalso
      have : dupK (Z.take i) k := by
        unfold dupK at hk ⊢
        rw [hsp, List.filter_append, filter_none (l := Z.drop i) (fun p hp => by
          obtain ⟨x, hx1, hx2, rfl⟩ := mem_drop_getD hp
          have := kle_at h (i := i) (j := x) hx1 hx2
          omega), List.append_nil] at hk
        exact hk
      exact srt_nodup hst k this
    · exact hge
/-- What the document's Of says. -/
def OfR (l : PL) (r : PL) (f at_ : Int) : Prop := (NoDup l ∧ f = 0 ∧ at_ = 0 ∧ Srt r ∧ r.Perm l) ∨ (LeastDup l at_ ∧ f = 7 ∧ r = [])
theorem of_both {l r r' : PL} {f f' a a' : Int} (h : OfR l r f a) (h' : OfR l r' f' a') : r = r' ∧ f = f' ∧ a = a' := by
  rcases h with ⟨h1, rfl, rfl, h2, h3⟩ | ⟨h1, rfl, rfl⟩ <;> rcases h' with ⟨g1, rfl, rfl, g2, g3⟩ | ⟨g1, rfl, rfl⟩
  · exact ⟨perm_eq (h3.trans g3.symm) h2 g2, rfl, rfl⟩
  · exact absurd g1.1 (h1 _)
  · exact absurd h1.1 (g1 _)
  · exact ⟨rfl, rfl, least_one h1 g1⟩
theorem of_sorted {l Z : PL} (hZ : Kle Z) (hp : Z.Perm l) (hn : ∀ i, 1 ≤ i → i < Z.length → (Z.getD (i - 1) default).1 ≠ (Z.getD i default).1) : OfR l Z 0 0 := by
  have h := scan_none hZ hn
  exact .inl ⟨fun k hk => srt_nodup h k ((dup_perm hp k).2 hk), rfl, rfl, h, hp⟩
theorem of_twice {l Z : PL} (hZ : Kle Z) (hp : Z.Perm l) {i : Nat} (h1 : 1 ≤ i) (hi : i < Z.length) (he : (Z.getD (i - 1) default).1 = (Z.getD i default).1) (hn : ∀ j, 1 ≤ j → j < i → (Z.getD (j - 1) default).1 ≠ (Z.getD j default).1) : OfR l [] 7 (Z.getD i default).1 :=
  .inr ⟨least_perm hp (scan_some hZ h1 hi he hn), rfl, rfl⟩
/-- The document's Of, so far. -/
structure OfSt (P out : PL) (twice : Bool) (least : Int) : Prop where
  srt : Srt out
  keys : ∀ k, (get out k).isSome = true ↔ ∃ p ∈ P, p.1 = k
  none : twice = false → NoDup P ∧ out.Perm P
  some : twice = true → LeastDup P least
theorem OfSt.start : OfSt [] [] false 0 := ⟨Srt.nil, fun k => by simp [get_nil], fun _ => ⟨nodup_nil, List.Perm.refl _⟩, fun h => by simp at h⟩
theorem OfSt.there {P out : PL} {twice : Bool} {least : Int} (h : OfSt P out twice least) {x : Int × Int} (hx : (get out x.1).isSome = true) : OfSt (P ++ [x]) out true (if twice = false ∨ x.1 < least then x.1 else least) := by
  have hd : dupK (P ++ [x]) x.1 := dup_snoc.2 (.inr ⟨rfl, (h.keys _).1 hx⟩)
  refine ⟨h.srt, fun k => ?_, fun h => by simp at h, fun _ => ?_⟩
  · rw [h.keys]
    constructor
    · rintro ⟨p, hp, e⟩
      exact ⟨p, List.mem_append_left _ hp, e⟩
    · rintro ⟨p, hp, e⟩
      rcases List.mem_append.1 hp with hp | hp
      · exact ⟨p, hp, e⟩
      · simp at hp
        subst hp
        rw [← e]
        exact (h.keys _).1 hx
  · cases twice with
    | false =>
      rw [if_pos (.inl rfl)]
      refine ⟨hd, fun k' hk => ?_⟩
      rcases dup_snoc.1 hk with hk | ⟨e, _⟩
      · exact absurd hk ((h.none rfl).1 k')
      · omega
    | true =>
      have hl := h.some rfl
      by_cases c : x.1 < least
      · rw [if_pos (.inr c)]
        refine ⟨hd, fun k' hk => ?_⟩
        rcases dup_snoc.1 hk with hk | ⟨e, _⟩
        · have := hl.2 _ hk; omega
        · omega
      · rw [if_neg (by simp; omega)]
        refine ⟨dup_snoc.2 (.inl hl.1), fun k' hk => ?_⟩
        rcases dup_snoc.1 hk with hk | ⟨e, _⟩
        · exact hl.2 _ hk
        · omega
theorem perm_put {l : AL} {k v : Int} (h : get l k = none) : (put l k v).Perm ((k, v) :: l) := by
  induction l with
  | nil => exact List.Perm.refl _
  | cons p l ih =>
    unfold put
    rw [get_cons] at h
    split
    · exact List.Perm.refl _
    · rw [if_neg (fun e => by rw [if_pos e] at h; cases h)]
      by_cases e : p.1 = k
      · rw [if_pos e] at h; cases h
      · rw [if_neg e] at h
        exact (List.Perm.cons p (ih h)).trans (List.Perm.swap _ _ _)
theorem OfSt.fresh {P out : PL} {twice : Bool} {least : Int} (h : OfSt P out twice least) {x : Int × Int} (hx : get out x.1 = Option.none) : OfSt (P ++ [x]) (put out x.1 x.2) twice least := by
  have hno : ¬ ∃ p ∈ P, p.1 = x.1 := fun c => by
    have := (h.keys x.1).2 c
    rw [hx] at this
    simp at this
  refine ⟨srt_put h.srt _ _, fun k => ?_, fun ht => ⟨fun k hk => ?_, ?_⟩, fun ht => ?_⟩
  · rw [get_put h.srt]
    by_cases e : k = x.1
    · rw [if_pos e]
      simp only [Option.isSome_some, true_iff]
      exact ⟨x, by simp, e.symm⟩
    · rw [if_neg e, h.keys]
      constructor
      · rintro ⟨p, hp, e⟩
        exact ⟨p, List.mem_append_left _ hp, e⟩
      · rintro ⟨p, hp, e2⟩
        rcases List.mem_append.1 hp with hp | hp
        · exact ⟨p, hp, e2⟩
        · simp at hp
          subst hp
          exact absurd e2.symm e
  · rcases dup_snoc.1 hk with hk | ⟨e, q, hq, e'⟩
    · exact (h.none ht).1 k hk
    · exact hno ⟨q, hq, e'.trans e.symm⟩
  · exact (perm_put hx).trans (((h.none ht).2.cons _).trans (List.perm_append_singleton x P).symm)
  · refine ⟨dup_snoc.2 (.inl (h.some ht).1), fun k' hk => ?_⟩
    rcases dup_snoc.1 hk with hk | ⟨e, q, hq, e'⟩
    · exact (h.some ht).2 _ hk
    · exact absurd ⟨q, hq, e'.trans e.symm⟩ hno
theorem OfSt.done {l out : PL} {twice : Bool} {least : Int} (h : OfSt l out twice least) : OfR l (if twice then [] else out) (if twice then 7 else 0) (if twice then least else 0) := by
  cases twice with
  | false => exact .inl ⟨(h.none rfl).1, rfl, rfl, h.srt, (h.none rfl).2⟩
  | true => exact .inr ⟨h.some rfl, rfl, rfl⟩
end Go.Proofs.YthdjbflbhgbckaaDoor.Snap

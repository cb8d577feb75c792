/-
  Plain laws of a state behind some calls, and of the least key, and of a range. No program in sight.
-/
import Derived.Test.YtjlpogmoebmkdaaDoorMPlay
set_option linter.unusedVariables false
namespace Go.Proofs.YtjlpogmoebmkdaaDoor
open Assoc MP

theorem stepM_K (s : MS) (a : MAct) : (stepM s a).K = s.K := by
  unfold stepM
  split
  · split
    · unfold mPut; split <;> rfl
    · rfl
  · split
    · split <;> rfl
    · rfl
theorem stepM_len (s : MS) (a : MAct) : (stepM s a).L.length = s.L.length := by
  unfold stepM
  split
  · split
    · unfold mPut; split
      · simp [setC]
      · rfl
    · rfl
  · split
    · split
      · simp [mDel, setC]
      · rfl
    · rfl
theorem steps_K (l : List MAct) (s : MS) : (l.foldl stepM s).K = s.K := by
  induction l generalizing s with
  | nil => rfl
  | cons a l ih => rw [List.foldl_cons, ih, stepM_K]
theorem steps_len (l : List MAct) (s : MS) : (l.foldl stepM s).L.length = s.L.length := by
  induction l generalizing s with
  | nil => rfl
  | cons a l ih => rw [List.foldl_cons, ih, stepM_len]
theorem runM_K (ks : List Int) (l : List MAct) : (runM ks l).K = ks := by unfold runM; rw [steps_K]; rfl
theorem runM_len (ks : List Int) (l : List MAct) : (runM ks l).L.length = ks.length := by unfold runM; rw [steps_len]; simp [newS]
/-- A number brought into a range. -/
theorem turn_ix (c : Int) (n : Nat) (h : 0 < n) : ∃ i : Nat, i < n ∧ Int.tmod (Int.tmod c n + n) n = i := by
  have hn : (0 : Int) < n := by omega
  have h1 : -(n : Int) < Int.tmod c n := by
    have := Int.lt_tmod_of_pos c hn
    omega
  have h2 : Int.tmod c n < n := Int.tmod_lt_of_pos c hn
  have h3 : (0 : Int) ≤ Int.tmod c n + n := by omega
  have h4 : 0 ≤ Int.tmod (Int.tmod c n + n) n := Int.tmod_nonneg _ h3
  have h5 : Int.tmod (Int.tmod c n + n) n < n := Int.tmod_lt_of_pos _ hn
  exact ⟨(Int.tmod (Int.tmod c n + n) n).toNat, by omega, by omega⟩
theorem turn_ix8 (c : Int) (n : Nat) (h : 0 < n) (h8 : n ≤ 8) : ∃ i : Nat, i < n ∧ Int.tmod (Go.RowKit.wrap64 (Int.tmod c n + n)) n = i := by
  have hn : (0 : Int) < n := by omega
  have h1 : -(n : Int) < Int.tmod c n := by
    have := Int.lt_tmod_of_pos c hn
    omega
  have h2 : Int.tmod c n < n := Int.tmod_lt_of_pos c hn
  obtain ⟨i, hi, e⟩ := turn_ix c n h
  refine ⟨i, hi, ?_⟩
  rw [show Go.RowKit.wrap64 (Int.tmod c n + n) = Int.tmod c n + n by unfold Go.RowKit.wrap64; omega]
  exact e
theorem srt_lt {l : AL} (h : Srt l) {i j : Nat} {p q : Int × Int} (hi : l[i]? = some p) (hj : l[j]? = some q) (hij : i < j) : p.1 < q.1 := by
  obtain ⟨h1, rfl⟩ := List.getElem?_eq_some_iff.1 hi
  obtain ⟨h2, rfl⟩ := List.getElem?_eq_some_iff.1 hj
  exact (List.pairwise_iff_getElem.1 h) i j h1 h2 hij
theorem lceil_at {l : AL} {a : Int} {i : Nat} {q : Int × Int} (hq : l[i]? = some q) (h1 : a ≤ q.1) (h2 : ∀ j p, j < i → l[j]? = some p → p.1 < a) : ceilL l a = some q.1 := by
  induction l generalizing i with
  | nil => cases hq
  | cons p l ih =>
    unfold ceilL at ih ⊢
    cases i with
    | zero =>
      injection hq with hq
      subst hq
      rw [List.find?_cons_of_pos (by simpa using h1)]
      rfl
    | succ i =>
      have := h2 0 p (by omega) rfl
      rw [List.find?_cons_of_neg (by simp; omega)]
      exact ih hq (fun j x hj hx => h2 (j + 1) x (by omega) hx)
theorem lceil_nil (a : Int) : ceilL [] a = none := rfl
theorem lceil_first {l : AL} {p : Int × Int} (h : l[0]? = some p) : ceilL l p.1 = some p.1 := lceil_at h (by omega) (fun _ _ hj => by omega)
theorem lceil_next {l : AL} (hs : Srt l) {i : Nat} {p q : Int × Int} (hp : l[i]? = some p) (hq : l[i + 1]? = some q) : ceilL l (p.1 + 1) = some q.1 :=
  lceil_at hq (by have := srt_lt hs hp hq (by omega); omega) (fun j x hj hx => by
    by_cases e : j = i
    · subst e
      rw [hp] at hx
      injection hx with hx
      subst hx
      omega
    · have := srt_lt hs hx hp (by omega)
      omega)
theorem lrange_all {l : AL} (hs : Srt l) {p q : Int × Int} (hp : l[0]? = some p) (hq : l[l.length - 1]? = some q) : rangeL l p.1 q.1 = l.length := by
  unfold rangeL
  rw [List.filter_eq_self.2]
  intro x hx
  obtain ⟨i, hi, rfl⟩ := List.getElem_of_mem hx
  have e := List.getElem?_eq_getElem hi
  have h1 : p.1 ≤ l[i].1 := by
    by_cases c : i = 0
    · subst c
      rw [hp] at e
      injection e with e
      rw [← e]
      omega
    · have := srt_lt hs hp e (by omega)
      omega
  have h2 : l[i].1 ≤ q.1 := by
    by_cases c : i = l.length - 1
    · rw [← c, e] at hq
      injection hq with hq
      rw [hq]
      omega
    · have := srt_lt hs e hq (by omega)
      omega
  simp only [Bool.and_eq_true, decide_eq_true_eq]
  exact ⟨h1, h2⟩
theorem mput_err {s : MS} {i : Nat} {k v : Int} (h : putE (coll s i) k ≠ 0) : putE (coll s i) k = 8 ∧ mPut s i k v = s := by
  refine ⟨?_, by unfold mPut; rw [if_neg h]⟩
  unfold putE at h ⊢
  split
  · rfl
  · rename_i c
    rw [if_neg c] at h
    exact absurd rfl h
theorem mput_ok {s : MS} {i : Nat} {k v : Int} (h : putE (coll s i) k = 0) (hi : i < s.L.length) (j : Nat) : coll (mPut s i k v) j = if j = i then put (coll s i) k (putV s i v) else coll s j := by
  unfold mPut
  rw [if_pos h, coll_set hi]
theorem mput_len (s : MS) (i : Nat) (k v : Int) : (mPut s i k v).L.length = s.L.length := by
  unfold mPut
  split
  · simp [setC]
  · rfl
theorem mput_K (s : MS) (i : Nat) (k v : Int) : (mPut s i k v).K = s.K := by
  unfold mPut
  split <;> rfl
theorem mdel_coll {s : MS} {i : Nat} (hi : i < s.L.length) (k : Int) (j : Nat) : coll (mDel s i k) j = if j = i then del (coll s i) k else coll s j := by
  unfold mDel
  rw [coll_set hi]
end Go.Proofs.YtjlpogmoebmkdaaDoor

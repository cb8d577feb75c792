/-
  A state of collections, plainly. No program in sight.
-/
import Derived.Test.YtjlpogmoebmkdaaDoorAssoc
set_option linter.unusedVariables false
namespace Go.Proofs.YtjlpogmoebmkdaaDoor.MP
open Assoc

/-- The kinds of collections, and what each has, by rising keys. -/
structure MS where
  K : List Int
  L : List AL
/-- An int. -/
def kB (k : Int) : Prop := -9223372036854775808 ≤ k ∧ k ≤ 9223372036854775807
structure Good (s : MS) : Prop where
  kl : s.K.length = s.L.length
  srt : ∀ l ∈ s.L, Srt l
  len : ∀ l ∈ s.L, l.length ≤ 100
  k8 : s.K.length ≤ 8
  kb : ∀ l ∈ s.L, ∀ p ∈ l, kB p.1
def isC (s : MS) (c : Int) : Bool := decide (0 ≤ c ∧ c < s.L.length)
def coll (s : MS) (i : Nat) : AL := s.L.getD i []
def setC (s : MS) (i : Nat) (l : AL) : MS := { s with L := s.L.set i l }
def putE (l : AL) (k : Int) : Int := if (get l k).isSome = false ∧ 100 ≤ l.length then 8 else 0
/-- What a put stores. -/
def putV (s : MS) (i : Nat) (v : Int) : Int := if s.K.getD i 0 = 2 then 1 else v
def mPut (s : MS) (i : Nat) (k v : Int) : MS := if putE (coll s i) k = 0 then setC s i (put (coll s i) k (putV s i v)) else s
def mDel (s : MS) (i : Nat) (k : Int) : MS := setC s i (del (coll s i) k)
/-- The least key from one on. -/
def ceilL (l : AL) (k : Int) : Option Int := (l.find? (fun p => decide (k ≤ p.1))).map (·.1)
def rangeL (l : AL) (a b : Int) : Nat := (l.filter (fun p => decide (a ≤ p.1) && decide (p.1 ≤ b))).length
theorem coll_get {s : MS} {i : Nat} (h : i < s.L.length) : s.L[i]? = some (coll s i) := by
  unfold coll
  rw [List.getD_eq_getElem?_getD, List.getElem?_eq_getElem h]
  rfl
theorem coll_mem {s : MS} {i : Nat} (h : i < s.L.length) : coll s i ∈ s.L := List.mem_of_getElem? (coll_get h)
theorem isC_form {s : MS} {c : Int} (h : isC s c = true) : ∃ i : Nat, c = i ∧ i < s.L.length := by
  unfold isC at h
  rw [decide_eq_true_iff] at h
  exact ⟨c.toNat, by omega, by omega⟩
theorem isC_nat {s : MS} {i : Nat} (h : i < s.L.length) : isC s i = true := by
  unfold isC
  rw [decide_eq_true_iff]
  omega
theorem good_set {s : MS} (h : Good s) (i : Nat) {l : AL} (h1 : Srt l) (h2 : l.length ≤ 100) (h3 : ∀ p ∈ l, kB p.1) : Good (setC s i l) := by
  refine ⟨by simp [setC, h.kl], fun x hx => ?_, fun x hx => ?_, h.k8, fun x hx => ?_⟩
  · rcases List.mem_or_eq_of_mem_set hx with hx | rfl
    · exact h.srt x hx
    · exact h1
  · rcases List.mem_or_eq_of_mem_set hx with hx | rfl
    · exact h.len x hx
    · exact h2
  · rcases List.mem_or_eq_of_mem_set hx with hx | rfl
    · exact h.kb x hx
    · exact h3
theorem put_len100 {l : AL} (h : Srt l) (hl : l.length ≤ 100) {k : Int} (v : Int) (he : putE l k = 0) : (put l k v).length ≤ 100 := by
  rw [len_put h]
  unfold putE at he
  split at he
  · cases he
  · rename_i hc
    cases hg : (get l k).isSome with
    | true => simpa using hl
    | false =>
      rw [hg] at hc
      simp at hc ⊢
      omega
theorem good_put {s : MS} (h : Good s) {i : Nat} (hi : i < s.L.length) (k v : Int) (hk : kB k) : Good (mPut s i k v) := by
  unfold mPut
  split
  · rename_i he
    exact good_set h i (srt_put (h.srt _ (coll_mem hi)) _ _) (put_len100 (h.srt _ (coll_mem hi)) (h.len _ (coll_mem hi)) _ he) (fun p hp => by
      rcases mem_put hp with rfl | hp
      · exact hk
      · exact h.kb _ (coll_mem hi) p hp)
  · exact h
theorem good_del {s : MS} (h : Good s) {i : Nat} (hi : i < s.L.length) (k : Int) : Good (mDel s i k) :=
  good_set h i (srt_del (h.srt _ (coll_mem hi)) _) (by rw [len_del (h.srt _ (coll_mem hi))]; have := h.len _ (coll_mem hi); split <;> omega) (fun p hp => h.kb _ (coll_mem hi) p ((List.mem_filter.1 hp).1))
theorem coll_set {s : MS} {i j : Nat} (hi : i < s.L.length) (l : AL) : coll (setC s i l) j = if j = i then l else coll s j := by
  unfold coll setC
  simp only [List.getD_eq_getElem?_getD, List.getElem?_set]
  by_cases e : i = j
  · subst e
    simp [hi]
  · rw [if_neg e, if_neg (fun h => e h.symm)]
end Go.Proofs.YtjlpogmoebmkdaaDoor.MP

/-
  What is other in one list of pairs than in another one, plainly. No program in sight.
-/
import Derived.Test.YthdjbflbhgbckaaDoorSnapP
set_option linter.unusedVariables false
namespace Go.Proofs.YthdjbflbhgbckaaDoor.Snap
open Assoc Stab

/-- Kind, key, what was, what is. -/
abbrev Tn := Int × Int × Int × Int
def gone (p : Int × Int) : Tn := (2, p.1, p.2, -1)
def added (q : Int × Int) : Tn := (1, q.1, -1, q.2)
def changed (p q : Int × Int) : List Tn := if p.2 = q.2 then [] else [(3, p.1, p.2, q.2)]
def diffL : PL → PL → List Tn
  | [], [] => []
  | p :: a, [] => gone p :: diffL a []
  | [], q :: b => added q :: diffL [] b
  | p :: a, q :: b => if p.1 < q.1 then gone p :: diffL a (q :: b) else if q.1 < p.1 then added q :: diffL (p :: a) b else changed p q ++ diffL a b
termination_by a b => a.length + b.length
theorem diff_nil : diffL [] [] = [] := by rw [diffL]
theorem diff_left (p : Int × Int) (a : PL) : diffL (p :: a) [] = gone p :: diffL a [] := by rw [diffL]
theorem diff_right (q : Int × Int) (b : PL) : diffL [] (q :: b) = added q :: diffL [] b := by rw [diffL]
theorem diff_lt {p q : Int × Int} {a b : PL} (h : p.1 < q.1) : diffL (p :: a) (q :: b) = gone p :: diffL a (q :: b) := by rw [diffL, if_pos h]
theorem diff_gt {p q : Int × Int} {a b : PL} (h : q.1 < p.1) : diffL (p :: a) (q :: b) = added q :: diffL (p :: a) b := by rw [diffL, if_neg (by omega), if_pos h]
theorem diff_eq {p q : Int × Int} {a b : PL} (h : p.1 = q.1) : diffL (p :: a) (q :: b) = changed p q ++ diffL a b := by rw [diffL, if_neg (by omega), if_neg (by omega)]
theorem drop_at {l : PL} {i : Nat} {x : Int × Int} (h : l[i]? = some x) : l.drop i = x :: l.drop (i + 1) := by
  obtain ⟨h1, h2⟩ := List.getElem?_eq_some_iff.1 h
  rw [List.drop_eq_getElem_cons h1, h2]
theorem drop_none {l : PL} {i : Nat} (h : l[i]? = none) : l.drop i = [] := List.drop_of_length_le (List.getElem?_eq_none_iff.1 h)
theorem diff_len : ∀ a b : PL, (diffL a b).length ≤ a.length + b.length
  | [], [] => by rw [diff_nil]; simp
  | p :: a, [] => by rw [diff_left]; have := diff_len a []; simp at this ⊢; omega
  | [], q :: b => by rw [diff_right]; have := diff_len [] b; simp at this ⊢; omega
  | p :: a, q :: b => by
    rcases Int.lt_trichotomy p.1 q.1 with h | h | h
    · rw [diff_lt h]; have := diff_len a (q :: b); simp at this ⊢; omega
    · rw [diff_eq h]
      have := diff_len a b
      rw [List.length_append]
      have h2 : (changed p q).length ≤ 1 := by unfold changed; split <;> simp
      simp at this ⊢
      omega
    · rw [diff_gt h]; have := diff_len (p :: a) b; simp at this ⊢; omega
termination_by a b => a.length + b.length
end Go.Proofs.YthdjbflbhgbckaaDoor.Snap

/-
  Behind a mark: what is written at it stays. No program in sight.
-/
import Derived.Test.YtbpmkbcpnnpdjaaDoorDPlain
set_option linter.unusedVariables false
namespace Go.Proofs.YtbpmkbcpnnpdjaaDoor.SP
open Assoc

def wrS (s : SS) (a : SAct) : SS := sWrite s a.2.1 a.2.2.1
theorem write_rm (s : SS) (c v : Int) : (sWrite s c v).R = s.R ∧ (sWrite s c v).marks = s.marks := by
  unfold sWrite
  split <;> exact ⟨rfl, rfl⟩
/-- Behind some writes. -/
structure Wrs (s0 s : SS) (k : Nat) : Prop where
  good : Good s
  at_ : atM s = atM s0
  r : s.R = s0.R
  m : s.marks = s0.marks
  l : s.log.length ≤ s0.log.length + k
theorem Wrs.nil {s : SS} (h : Good s) : Wrs s s 0 := ⟨h, rfl, rfl, rfl, by omega⟩
theorem Wrs.snoc {s0 s : SS} {k : Nat} (h : Wrs s0 s k) (c v : Int) : Wrs s0 (sWrite s c v) (k + 1) :=
  ⟨good_write h.good c v, (atM_write h.good c v).trans h.at_, (write_rm s c v).1.trans h.r, (write_rm s c v).2.trans h.m, by have := log_write s c v; have := h.l; omega⟩
/-- The first m marks are as they were. -/
structure Behind (m : Nat) (P : List AL) (s : SS) : Prop where
  good : Good s
  le : m ≤ s.marks.length
  at_ : (atM s).take m = P
theorem atM_len (s : SS) : (atM s).length = s.marks.length := by simp [atM]
theorem Behind.step {m : Nat} {P : List AL} {s : SS} (h : Behind m P s) (a : SAct) (hk : ¬ ((a.1 = 4 ∨ a.1 = 5) ∧ a.2.2.2 ≤ (m : Int))) : Behind m P (stepS s a) := by
  have hg := good_step h.good a
  refine ⟨hg, ?_, ?_⟩
  · unfold stepS
    split
    · exact h.le
    split
    · rw [(write_rm s _ _).2]; exact h.le
    split
    · unfold sMark; split
      · exact h.le
      · have := h.le; simp; omega
    split
    · rename_i h4
      split
      · have h1 : ¬ a.2.2.2 ≤ (m : Int) := fun e => hk ⟨.inl h4, e⟩
        have := h.le
        show m ≤ (s.marks.take _).length
        rw [List.length_take]
        omega
      · exact h.le
    split
    · rename_i h5
      split
      · have h1 : ¬ a.2.2.2 ≤ (m : Int) := fun e => hk ⟨.inr h5, e⟩
        have := h.le
        show m ≤ (s.marks.take _).length
        rw [List.length_take]
        omega
      · exact h.le
    · exact h.le
  · unfold stepS
    split
    · exact h.at_
    split
    · rw [atM_write h.good]; exact h.at_
    split
    · rw [atM_mark h.good]
      split
      · exact h.at_
      · rw [List.take_append_of_le_length (by rw [atM_len]; exact h.le)]; exact h.at_
    split
    · rename_i h4
      split
      · have h1 : ¬ a.2.2.2 ≤ (m : Int) := fun e => hk ⟨.inl h4, e⟩
        rw [atM_keep h.good, List.take_take, Nat.min_eq_left (by omega)]; exact h.at_
      · exact h.at_
    split
    · rename_i h5
      split
      · rename_i hm
        have h1 : ¬ a.2.2.2 ≤ (m : Int) := fun e => hk ⟨.inr h5, e⟩
        rw [atM_back h.good (isM_lt hm), List.take_take, Nat.min_eq_left (by omega)]; exact h.at_
      · exact h.at_
    · exact h.at_
theorem Behind.back {m : Nat} {P : List AL} {W : AL} {s : SS} (h : Behind (m + 1) (P ++ [W]) s) (hP : P.length = m) : (sBack s m).W = W ∧ (sBack s m).R = s.R ∧ (sBack s m).marks.length = m ∧ isM s ((m + 1 : Nat) : Int) = true := by
  have hlt : m < s.marks.length := h.le
  refine ⟨?_, rfl, ?_, ?_⟩
  · have h1 := back_at (s := s) m hlt
    have h2 : ((atM s).take (m + 1))[m]? = some W := by rw [h.at_, List.getElem?_append_right (by omega), hP]; simp
    rw [List.getElem?_take, if_pos (by omega), h1] at h2
    injection h2
  · show (s.marks.take m).length = m
    rw [List.length_take]
    omega
  · unfold isM
    rw [decide_eq_true_iff]
    have := h.le
    omega
theorem isM_no {s : SS} {m : Nat} (h : s.marks.length = m) : isM s ((m + 1 : Nat) : Int) = false := by
  unfold isM
  rw [decide_eq_false_iff_not]
  omega
theorem mark_behind {s : SS} (h : Good s) (hl : s.marks.length < 20) : Behind (s.marks.length + 1) (atM s ++ [s.W]) (sMark s) ∧ (sMark s).marks.length = s.marks.length + 1 ∧ (sMark s).W = s.W ∧ (sMark s).R = s.R ∧ (sMark s).log = s.log := by
  have h1 := atM_mark h
  rw [if_neg (by omega)] at h1
  have h2 : sMark s = { s with marks := s.marks ++ [s.log.length] } := by unfold sMark; rw [if_neg (by omega)]
  have h3 : (sMark s).marks.length = s.marks.length + 1 := by rw [h2]; simp
  refine ⟨⟨good_mark h, by rw [h3]; exact Nat.le_refl _, ?_⟩, h3, by rw [h2], by rw [h2], by rw [h2]⟩
  rw [h1, List.take_of_length_le (by rw [List.length_append, atM_len]; exact Nat.le_refl _)]
end Go.Proofs.YtbpmkbcpnnpdjaaDoor.SP

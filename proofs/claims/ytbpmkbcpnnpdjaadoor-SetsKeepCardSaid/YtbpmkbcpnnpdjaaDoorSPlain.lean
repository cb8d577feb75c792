/-
  Sets, plainly: what was read, what is written, how it goes back; the document's sets beside it. No program in sight.
-/
import Derived.Test.YtbpmkbcpnnpdjaaDoorAssoc
set_option linter.unusedVariables false
namespace Go.Proofs.YtbpmkbcpnnpdjaaDoor.SP
open Assoc

/-- How a cell was written ahead. -/
structure U where
  c : Int
  v : Int
  was : Bool
deriving Inhabited, DecidableEq
def undo1 (W : AL) (u : U) : AL := if u.was then put W u.c u.v else del W u.c
/-- Back to where the log was n long. -/
def undoTo (n : Nat) (log : List U) (W : AL) : AL := (log.drop n).foldr (fun u W => undo1 W u) W
theorem srt_undo1 {W : AL} (h : Srt W) (u : U) : Srt (undo1 W u) := by
  unfold undo1
  split
  · exact srt_put h _ _
  · exact srt_del h _
theorem srt_fold {W : AL} (h : Srt W) (l : List U) : Srt (l.foldr (fun u W => undo1 W u) W) := by
  induction l with
  | nil => exact h
  | cons a l ih => exact srt_undo1 ih a
theorem srt_undoTo {W : AL} (h : Srt W) (n : Nat) (log : List U) : Srt (undoTo n log W) := srt_fold h _
theorem undoTo_len (log : List U) (W : AL) : undoTo log.length log W = W := by
  unfold undoTo; rw [List.drop_eq_nil_of_le (Nat.le_refl _)]; rfl
theorem undoTo_snoc {n : Nat} {log : List U} (h : n ≤ log.length) (u : U) (W : AL) : undoTo n (log ++ [u]) W = undoTo n log (undo1 W u) := by
  unfold undoTo
  rw [List.drop_append_of_le_length h, List.foldr_append]
  rfl
/-- One step of going back. -/
theorem undoTo_step {n i : Nat} {log : List U} {u : U} (hu : log[i]? = some u) (W : AL) : undoTo i log W = undo1 (undoTo (i + 1) log W) u := by
  unfold undoTo
  obtain ⟨hi, rfl⟩ := List.getElem?_eq_some_iff.1 hu
  rw [List.drop_eq_getElem_cons hi]
  rfl
theorem undoTo_take {m n : Nat} (h : m ≤ n) (log : List U) (W : AL) : undoTo m (log.take n) (undoTo n log W) = undoTo m log W := by
  unfold undoTo
  rw [← List.foldr_append, List.drop_take]
  congr 1
  have : log.drop n = (log.drop m).drop (n - m) := by rw [List.drop_drop]; congr 1; omega
  rw [this, List.take_append_drop]
/-- A write and its undoing. -/
theorem undo_write {W : AL} (h : Srt W) (c v : Int) : undo1 (put W c v) ⟨c, (get W c).getD 0, (get W c).isSome⟩ = W := by
  unfold undo1
  cases hg : get W c with
  | none => simp only [Option.isSome_none, Bool.false_eq_true, if_false]; exact del_put h v hg
  | some x => simp only [Option.isSome_some, if_true, Option.getD_some]; rw [put_put h, put_get h hg]

/-- Sets as the program keeps them. -/
structure SS where
  R : List (Int × Int)
  W : AL
  log : List U
  marks : List Nat
/-- What was written at each mark. -/
def atM (s : SS) : List AL := s.marks.map (fun n => undoTo n s.log s.W)
/-- What goes together. -/
structure Good (s : SS) : Prop where
  nd : (s.R.map (·.1)).Nodup
  srt : Srt s.W
  le : ∀ n ∈ s.marks, n ≤ s.log.length
  up : s.marks.Pairwise (· ≤ ·)
  rl : s.R.length ≤ 500
  wl : s.W.length ≤ 500
  ml : s.marks.length ≤ 20
  bl : ∀ l ∈ atM s, l.length ≤ 500
/-- The place of a cell that was read. -/
def posR (R : List (Int × Int)) (c : Int) : Option Nat := R.findIdx? (fun p => p.1 == c)
def rRead (R : List (Int × Int)) (c n : Int) : Int × Int × List (Int × Int) :=
  match posR R c with
  | some i => if (R.getD i (0, 0)).2 = n then (0, 0, R) else (12, (i : Int) + 1, R)
  | none => if 500 ≤ R.length then (8, 0, R) else (0, 0, R ++ [(c, n)])
def wErr (W : AL) (c : Int) : Int := if (get W c).isSome = false ∧ 500 ≤ W.length then 8 else 0
def sWrite (s : SS) (c v : Int) : SS := if wErr s.W c = 0 then { s with log := if s.marks.isEmpty then s.log else s.log ++ [⟨c, (get s.W c).getD 0, (get s.W c).isSome⟩], W := put s.W c v } else s
def sMark (s : SS) : SS := if 20 ≤ s.marks.length then s else { s with marks := s.marks ++ [s.log.length] }
/-- Is there such a mark? -/
def isM (s : SS) (m : Int) : Bool := decide (1 ≤ m ∧ m ≤ s.marks.length)
def sKeep (s : SS) (m : Nat) : SS := { s with marks := s.marks.take m, log := if m = 0 then [] else s.log }
def sBack (s : SS) (m : Nat) : SS := { s with marks := s.marks.take m, log := s.log.take (s.marks.getD m 0), W := undoTo (s.marks.getD m 0) s.log s.W }
theorem good_new : Good ⟨[], [], [], []⟩ := ⟨by simp, .nil, by simp, by simp, by simp, by simp, by simp, by simp [atM]⟩
theorem good_read {s : SS} (h : Good s) (c n : Int) : Good { s with R := (rRead s.R c n).2.2 } := by
  unfold rRead
  cases hp : posR s.R c with
  | some i =>
    simp only
    split <;> exact h
  | none =>
    simp only
    split
    · exact h
    · rename_i hl
      refine ⟨?_, h.srt, h.le, h.up, by simp; omega, h.wl, h.ml, h.bl⟩
      rw [List.map_append, List.nodup_append]
      refine ⟨h.nd, by simp, fun a ha b hb => ?_⟩
      simp at hb
      subst hb
      obtain ⟨p, hp', rfl⟩ := List.mem_map.1 ha
      unfold posR at hp
      rw [List.findIdx?_eq_none_iff] at hp
      simpa using hp p hp'
theorem atM_write {s : SS} (h : Good s) (c v : Int) : atM (sWrite s c v) = atM s := by
  unfold sWrite
  split
  · unfold atM
    refine List.map_congr_left fun n hn => ?_
    have hne : s.marks.isEmpty = false := by
      cases hm : s.marks with
      | nil => rw [hm] at hn; cases hn
      | cons _ _ => rfl
    simp only [hne, Bool.false_eq_true, if_false]
    rw [undoTo_snoc (h.le n hn), undo_write h.srt]
  · rfl
theorem good_write {s : SS} (h : Good s) (c v : Int) : Good (sWrite s c v) := by
  unfold sWrite
  split
  · rename_i he
    have hb := h.bl
    rw [← atM_write h c v] at hb
    unfold sWrite at hb
    rw [if_pos he] at hb
    refine ⟨h.nd, srt_put h.srt c v, fun n hn => ?_, h.up, h.rl, ?_, h.ml, hb⟩
    · have := h.le n hn
      simp only
      split
      · exact this
      · simp; omega
    · show (put s.W c v).length ≤ 500
      rw [len_put h.srt]
      unfold wErr at he
      have := h.wl
      split at he
      · cases he
      · rename_i hc
        cases hg : (get s.W c).isSome with
        | true => simpa using this
        | false =>
          rw [hg] at hc
          simp at hc ⊢
          omega
  · exact h
theorem atM_mark {s : SS} (h : Good s) : atM (sMark s) = if 20 ≤ s.marks.length then atM s else atM s ++ [s.W] := by
  unfold sMark
  split
  · rfl
  · unfold atM
    simp only [List.map_append, List.map_cons, List.map_nil]
    rw [undoTo_len]
theorem good_mark {s : SS} (h : Good s) : Good (sMark s) := by
  unfold sMark
  split
  · exact h
  · rename_i hl
    have hb : ∀ l ∈ atM (sMark s), l.length ≤ 500 := by
      rw [atM_mark h, if_neg hl]
      intro l hl'
      rcases List.mem_append.1 hl' with hl' | hl'
      · exact h.bl l hl'
      · simp at hl'; subst hl'; exact h.wl
    unfold sMark at hb
    rw [if_neg hl] at hb
    refine ⟨h.nd, h.srt, fun n hn => ?_, ?_, h.rl, h.wl, by simp; omega, hb⟩
    · rcases List.mem_append.1 hn with hn | hn
      · exact h.le n hn
      · simp at hn; subst hn; exact Nat.le_refl _
    · rw [List.pairwise_append]
      refine ⟨h.up, by simp, fun a ha b hb => ?_⟩
      simp at hb
      subst hb
      exact h.le a ha
theorem take_pair {l : List Nat} (h : l.Pairwise (· ≤ ·)) {m : Nat} (hm : m < l.length) : ∀ n ∈ l.take m, n ≤ l.getD m 0 := by
  intro n hn
  obtain ⟨i, hi, rfl⟩ := List.getElem_of_mem hn
  have hi' : i < m := by simp at hi; omega
  rw [List.getElem_take, List.getD_eq_getElem?_getD, List.getElem?_eq_getElem hm]
  exact List.pairwise_iff_getElem.1 h i m _ hm hi'
theorem atM_keep {s : SS} (h : Good s) (m : Nat) : atM (sKeep s m) = (atM s).take m := by
  unfold atM sKeep
  simp only
  rw [← List.map_take]
  refine List.map_congr_left fun n hn => ?_
  by_cases h0 : m = 0
  · subst h0; simp at hn
  · rw [if_neg h0]
theorem good_keep {s : SS} (h : Good s) (m : Nat) : Good (sKeep s m) := by
  refine ⟨h.nd, h.srt, fun n hn => ?_, h.up.sublist (List.take_sublist ..), h.rl, h.wl, by have := h.ml; simp [sKeep]; omega, fun l hl => by rw [atM_keep h] at hl; exact h.bl l (List.mem_of_mem_take hl)⟩
  have hn' : n ∈ s.marks.take m := hn
  show n ≤ (if m = 0 then [] else s.log).length
  split
  · rename_i h0
    subst h0
    simp at hn'
  · exact h.le n (List.mem_of_mem_take hn')
theorem atM_back {s : SS} (h : Good s) {m : Nat} (hm : m < s.marks.length) : atM (sBack s m) = (atM s).take m := by
  unfold atM sBack
  simp only
  rw [← List.map_take]
  refine List.map_congr_left fun n hn => ?_
  exact undoTo_take (take_pair h.up hm n hn) _ _
theorem back_at {s : SS} (m : Nat) (hm : m < s.marks.length) : (atM s)[m]? = some (sBack s m).W := by
  unfold atM sBack
  rw [List.getElem?_map, List.getElem?_eq_getElem hm]
  simp only [Option.map_some]
  congr 2
  rw [List.getD_eq_getElem?_getD, List.getElem?_eq_getElem hm]
  rfl
theorem good_back {s : SS} (h : Good s) {m : Nat} (hm : m < s.marks.length) : Good (sBack s m) := by
  have hw : (sBack s m).W.length ≤ 500 := h.bl _ (List.mem_of_getElem? (back_at m hm))
  refine ⟨h.nd, srt_undoTo h.srt _ _, fun n hn => ?_, h.up.sublist (List.take_sublist ..), h.rl, hw, by have := h.ml; simp [sBack]; omega, fun l hl => by rw [atM_back h hm] at hl; exact h.bl l (List.mem_of_mem_take hl)⟩
  have h1 := take_pair h.up hm n hn
  have h2 := h.le n (List.mem_of_mem_take hn)
  show n ≤ (s.log.take _).length
  rw [List.length_take]
  omega
end Go.Proofs.YtbpmkbcpnnpdjaaDoor.SP

/-
  The document's sets, plainly, beside the program's: a call of both. No program in sight.
-/
import Derived.Test.YtbpmkbcpnnpdjaaDoorSPlain
set_option linter.unusedVariables false
namespace Go.Proofs.YtbpmkbcpnnpdjaaDoor.SP
open Assoc

/-- The document's sets. -/
structure DS where
  R : List (Int × Int)
  W : AL
  M : List AL
structure GoodD (d : DS) : Prop where
  srt : Srt d.W
  rl : d.R.length ≤ 500
  wl : d.W.length ≤ 500
  ml : d.M.length ≤ 20
  ms : ∀ l ∈ d.M, Srt l ∧ l.length ≤ 500
def ofSS (s : SS) : DS := ⟨s.R, s.W, atM s⟩
def isD (d : DS) (m : Int) : Bool := decide (1 ≤ m ∧ m ≤ d.M.length)
def dRead (d : DS) (c n : Int) : DS := { d with R := (rRead d.R c n).2.2 }
def dWrite (d : DS) (c v : Int) : DS := if wErr d.W c = 0 then { d with W := put d.W c v } else d
def dMark (d : DS) : DS := if 20 ≤ d.M.length then d else { d with M := d.M ++ [d.W] }
def dKeep (d : DS) (k : Nat) : DS := { d with M := d.M.take k }
def dBack (d : DS) (k : Nat) : DS := { d with W := d.M.getD k [], M := d.M.take k }
def sRead (s : SS) (c n : Int) : SS := { s with R := (rRead s.R c n).2.2 }
theorem goodD_new : GoodD ⟨[], [], []⟩ := ⟨.nil, by simp, by simp, by simp, by simp⟩
theorem goodD_of {s : SS} (h : Good s) : GoodD (ofSS s) := by
  refine ⟨h.srt, h.rl, h.wl, by have := h.ml; simpa [ofSS, atM] using this, fun l hl => ⟨?_, h.bl l hl⟩⟩
  have hl' : l ∈ atM s := hl
  unfold atM at hl'
  obtain ⟨n, _, rfl⟩ := List.mem_map.1 hl'
  exact srt_undoTo h.srt _ _
theorem read_len {R : List (Int × Int)} (c n : Int) (h : R.length ≤ 500) : (rRead R c n).2.2.length ≤ 500 := by
  unfold rRead
  cases posR R c with
  | some i => simp only; split <;> exact h
  | none =>
    simp only
    split
    · exact h
    · simp; omega
theorem goodD_read {d : DS} (h : GoodD d) (c n : Int) : GoodD (dRead d c n) := ⟨h.srt, read_len c n h.rl, h.wl, h.ml, h.ms⟩
theorem put_len {W : AL} (h : Srt W) (hl : W.length ≤ 500) {c v : Int} (he : wErr W c = 0) : (put W c v).length ≤ 500 := by
  rw [len_put h]
  unfold wErr at he
  split at he
  · cases he
  · rename_i hc
    cases hg : (get W c).isSome with
    | true => simpa using hl
    | false =>
      rw [hg] at hc
      simp at hc ⊢
      omega
theorem goodD_write {d : DS} (h : GoodD d) (c v : Int) : GoodD (dWrite d c v) := by
  unfold dWrite
  split
  · rename_i he
    exact ⟨srt_put h.srt c v, h.rl, put_len h.srt h.wl he, h.ml, h.ms⟩
  · exact h
theorem goodD_mark {d : DS} (h : GoodD d) : GoodD (dMark d) := by
  unfold dMark
  split
  · exact h
  · refine ⟨h.srt, h.rl, h.wl, by simp; omega, fun l hl => ?_⟩
    rcases List.mem_append.1 hl with hl | hl
    · exact h.ms l hl
    · simp at hl
      subst hl
      exact ⟨h.srt, h.wl⟩
theorem goodD_keep {d : DS} (h : GoodD d) (k : Nat) : GoodD (dKeep d k) :=
  ⟨h.srt, h.rl, h.wl, by have := h.ml; simp [dKeep]; omega, fun l hl => h.ms l (List.mem_of_mem_take hl)⟩
theorem getD_mem {d : DS} {k : Nat} (hk : k < d.M.length) : d.M.getD k [] ∈ d.M := by
  rw [List.getD_eq_getElem?_getD, List.getElem?_eq_getElem hk]
  exact List.getElem_mem _
theorem goodD_back {d : DS} (h : GoodD d) {k : Nat} (hk : k < d.M.length) : GoodD (dBack d k) :=
  ⟨(h.ms _ (getD_mem hk)).1, h.rl, (h.ms _ (getD_mem hk)).2, by have := h.ml; simp [dBack]; omega, fun l hl => h.ms l (List.mem_of_mem_take hl)⟩
theorem isD_of (s : SS) (m : Int) : isD (ofSS s) m = isM s m := by
  unfold isD isM ofSS atM
  simp
theorem isD_lt {d : DS} {m : Int} (h : isD d m = true) : (m - 1).toNat < d.M.length := by
  unfold isD at h
  simp at h
  omega
theorem isM_lt {s : SS} {m : Int} (h : isM s m = true) : (m - 1).toNat < s.marks.length := by
  unfold isM at h
  simp at h
  omega
theorem of_write {s : SS} (h : Good s) (c v : Int) : ofSS (sWrite s c v) = dWrite (ofSS s) c v := by
  have h1 := atM_write h c v
  unfold ofSS dWrite
  rw [h1]
  unfold sWrite
  show _ = if wErr s.W c = 0 then _ else _
  split <;> rfl
theorem of_mark {s : SS} (h : Good s) : ofSS (sMark s) = dMark (ofSS s) := by
  have h1 := atM_mark h
  unfold ofSS dMark
  rw [h1]
  have h2 : (atM s).length = s.marks.length := by simp [atM]
  unfold sMark
  rw [h2]
  split
  · rfl
  · rfl
theorem of_keep {s : SS} (h : Good s) (k : Nat) : ofSS (sKeep s k) = dKeep (ofSS s) k := by
  unfold ofSS dKeep
  rw [atM_keep h]
  rfl
theorem of_back {s : SS} (h : Good s) {k : Nat} (hk : k < s.marks.length) : ofSS (sBack s k) = dBack (ofSS s) k := by
  unfold ofSS dBack
  rw [atM_back h hk]
  have := back_at (s := s) k hk
  simp only [List.getD_eq_getElem?_getD, this]
  rfl
/-- A call: kind, cell, value, number. -/
abbrev SAct := Int × Int × Int × Int
def stepS (s : SS) (a : SAct) : SS :=
  if a.1 = 0 then sRead s a.2.1 a.2.2.2
  else if a.1 = 1 ∨ a.1 = 2 then sWrite s a.2.1 a.2.2.1
  else if a.1 = 3 then sMark s
  else if a.1 = 4 then (if isM s a.2.2.2 then sKeep s (a.2.2.2 - 1).toNat else s)
  else if a.1 = 5 then (if isM s a.2.2.2 then sBack s (a.2.2.2 - 1).toNat else s)
  else s
def stepD (s : DS) (a : SAct) : DS :=
  if a.1 = 0 then dRead s a.2.1 a.2.2.2
  else if a.1 = 1 ∨ a.1 = 2 then dWrite s a.2.1 a.2.2.1
  else if a.1 = 3 then dMark s
  else if a.1 = 4 then (if isD s a.2.2.2 then dKeep s (a.2.2.2 - 1).toNat else s)
  else if a.1 = 5 then (if isD s a.2.2.2 then dBack s (a.2.2.2 - 1).toNat else s)
  else s
theorem of_step {s : SS} (h : Good s) (a : SAct) : ofSS (stepS s a) = stepD (ofSS s) a := by
  unfold stepS stepD
  split
  · rfl
  split
  · exact of_write h _ _
  split
  · exact of_mark h
  split
  · rw [isD_of]; split
    · exact of_keep h _
    · rfl
  split
  · rw [isD_of]; split
    · rename_i hm
      exact of_back h (isM_lt hm)
    · rfl
  · rfl
theorem good_step {s : SS} (h : Good s) (a : SAct) : Good (stepS s a) := by
  unfold stepS
  split
  · exact good_read h _ _
  split
  · exact good_write h _ _
  split
  · exact good_mark h
  split
  · split
    · exact good_keep h _
    · exact h
  split
  · split
    · rename_i hm
      exact good_back h (isM_lt hm)
    · exact h
  · exact h
theorem goodD_step {d : DS} (h : GoodD d) (a : SAct) : GoodD (stepD d a) := by
  unfold stepD
  split
  · exact goodD_read h _ _
  split
  · exact goodD_write h _ _
  split
  · exact goodD_mark h
  split
  · split
    · exact goodD_keep h _
    · exact h
  split
  · split
    · rename_i hm
      exact goodD_back h (isD_lt hm)
    · exact h
  · exact h
theorem log_write (s : SS) (c v : Int) : (sWrite s c v).log.length ≤ s.log.length + 1 := by
  unfold sWrite
  split
  · simp only
    split <;> simp
  · omega
theorem log_step (s : SS) (a : SAct) : (stepS s a).log.length ≤ s.log.length + 1 := by
  unfold stepS
  split
  · simp [sRead]
  split
  · exact log_write _ _ _
  split
  · unfold sMark; split <;> simp
  split
  · split
    · unfold sKeep; simp only; split <;> simp
    · omega
  split
  · split
    · simp [sBack]; omega
    · omega
  · omega
end Go.Proofs.YtbpmkbcpnnpdjaaDoor.SP

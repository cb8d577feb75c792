/-
  Parts of a snapshot, plainly: what lies between two keys, what is not above one, what several have all. No program in sight.
-/
import Derived.Test.YthdjbflbhgbckaaSnapP
set_option linter.unusedVariables false
namespace Go.Proofs.Ythdjbflbhgbckaa.Snap
open Assoc Stab

/-- How many keys are below. -/
def belowN (r : PL) (key : Int) : Nat := (r.takeWhile (fun p => decide (p.1 < key))).length
def rangeF (r : PL) (a b : Int) : PL := r.filter (fun p => decide (a ≤ p.1) && decide (p.1 ≤ b))
theorem drop_below {r : PL} (h : Srt r) (key : Int) : r.drop (belowN r key) = r.filter (fun p => decide (key ≤ p.1)) := by
  induction r with
  | nil => rfl
  | cons p r ih =>
    unfold belowN
    rw [List.takeWhile_cons]
    by_cases hp : p.1 < key
    · rw [if_pos (by simpa using hp), List.length_cons, List.drop_succ_cons, List.filter_cons_of_neg (by simp; omega)]
      exact ih h.tail
    · rw [if_neg (by simpa using hp), List.length_nil, List.drop_zero, Eq.comm, List.filter_eq_self]
      intro q hq
      rcases List.mem_cons.1 hq with rfl | hq
      · simp; omega
      · have := h.head q hq
        simp; omega
theorem take_le {r : PL} (h : Srt r) (key : Int) {m : Nat} (hm : ∀ i, i < m → (r.getD i default).1 ≤ key) (hx : r.length ≤ m ∨ key < (r.getD m default).1) (hml : m ≤ r.length) : r.take m = r.filter (fun p => decide (p.1 ≤ key)) := by
  induction r generalizing m with
  | nil => simp
  | cons p r ih =>
    cases m with
    | zero =>
      rw [List.take_zero, Eq.comm, List.filter_eq_nil_iff]
      rcases hx with hx | hx
      · simp at hx
      · simp at hx
        intro q hq
        rcases List.mem_cons.1 hq with rfl | hq
        · simp; omega
        · have := h.head q hq
          simp; omega
    | succ m =>
      have h0 := hm 0 (by omega)
      simp at h0
      rw [List.take_succ_cons, List.filter_cons_of_pos (by simpa using h0), ih h.tail (fun i hi => by have := hm (i + 1) (by omega); simpa using this) (by rcases hx with hx | hx; exact .inl (by simpa using hx); exact .inr (by simpa using hx)) (by simpa using hml)]
theorem srt_filter {r : PL} (h : Srt r) (f : Int × Int → Bool) : Srt (r.filter f) := h.sublist List.filter_sublist
/-- From a place on, as long as keys are not above: what lies between. -/
theorem range_done {r : PL} (h : Srt r) {a b : Int} {m : Nat} (hm : ∀ i, i < m → (r.getD (belowN r a + i) default).1 ≤ b) (hx : r.length ≤ belowN r a + m ∨ b < (r.getD (belowN r a + m) default).1) (hml : belowN r a + m ≤ r.length) : (r.drop (belowN r a)).take m = rangeF r a b := by
  have e : ∀ i, (r.drop (belowN r a)).getD i default = r.getD (belowN r a + i) default := fun i => by rw [List.getD_eq_getElem?_getD, List.getD_eq_getElem?_getD, List.getElem?_drop]
  have hs : Srt (r.drop (belowN r a)) := h.sublist (List.drop_sublist _ _)
  rw [take_le hs b (m := m) (fun i hi => by rw [e]; exact hm i hi) (by rw [e, List.length_drop]; rcases hx with hx | hx; exact .inl (by omega); exact .inr hx) (by rw [List.length_drop]; omega), drop_below h, List.filter_filter]
  unfold rangeF
  congr 1
  funext p
  rw [Bool.and_comm]
/-- The last one that is not above a key. -/
def floorF (r : PL) (key : Int) : Option (Int × Int) := (r.filter (fun p => decide (p.1 ≤ key))).getLast?
theorem floor_at {r : PL} (h : Srt r) {key : Int} {m : Nat} (hm : ∀ i, i < m → (r.getD i default).1 ≤ key) (hx : r.length ≤ m ∨ key < (r.getD m default).1) (hml : m ≤ r.length) : floorF r key = if m = 0 then none else r[m - 1]? := by
  unfold floorF
  rw [← take_le h key hm hx hml, List.getLast?_eq_getElem?, List.length_take, Nat.min_eq_left hml]
  by_cases h0 : m = 0
  · subst h0; simp
  · rw [if_neg h0, List.getElem?_take, if_pos (by omega)]
/-- What the first has, and all others with the same value. -/
def allHave (L : List PL) (p : Int × Int) : Bool := L.all (fun l => decide (get l p.1 = some p.2))
def comF (L : List PL) : PL := (L.getD 0 []).filter (allHave L.tail)
theorem com_two (x y : PL) : comF [x, y] = x.filter (fun p => decide (get y p.1 = some p.2)) := by
  unfold comF allHave
  simp
theorem com_one (x : PL) : comF [x] = x := by
  unfold comF allHave
  simp
theorem com_nil : comF [] = [] := rfl
end Go.Proofs.Ythdjbflbhgbckaa.Snap

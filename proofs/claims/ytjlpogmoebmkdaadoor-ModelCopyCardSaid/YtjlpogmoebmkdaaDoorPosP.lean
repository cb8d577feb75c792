/-
  The place of a key in a list by rising keys. No program in sight.
-/
import Derived.Test.YtjlpogmoebmkdaaDoorAssoc
set_option linter.unusedVariables false
namespace Go.Proofs.YtjlpogmoebmkdaaDoor
open Assoc
/-- The place of a cell that is written. -/
def posW (W : AL) (c : Int) : Int := match W.findIdx? (fun p => p.1 == c) with | some k => (k : Int) | none => -1
theorem idx_at {L : List (Int × Int)} {c : Int} {k : Nat} {x : Int × Int} (h : ∀ j, j < k → (L.getD j default).1 ≠ c) (hx : L[k]? = some x) (e : x.1 = c) : L.findIdx? (fun p => p.1 == c) = some k := by
  obtain ⟨hk, rfl⟩ := List.getElem?_eq_some_iff.1 hx
  rw [List.findIdx?_eq_some_iff_getElem]
  refine ⟨hk, by simpa using e, fun j hj => ?_⟩
  have := h j hj
  rw [List.getD_eq_getElem?_getD, List.getElem?_eq_getElem (by omega)] at this
  simpa using this
theorem idx_no {L : List (Int × Int)} {c : Int} (h : ∀ j, j < L.length → (L.getD j default).1 ≠ c) : L.findIdx? (fun p => p.1 == c) = none := by
  rw [List.findIdx?_eq_none_iff]
  intro x hx
  obtain ⟨j, hj, rfl⟩ := List.getElem_of_mem hx
  have := h j hj
  rw [List.getD_eq_getElem?_getD, List.getElem?_eq_getElem hj] at this
  simpa using this
theorem posW_none {W : AL} {c : Int} (h : get W c = none) : posW W c = -1 := by
  unfold posW
  rw [get_none] at h
  have : W.findIdx? (fun p => p.1 == c) = none := by
    rw [List.findIdx?_eq_none_iff]
    intro p hp
    simpa using h p hp
  rw [this]
theorem posW_some {W : AL} {c v : Int} (h : get W c = some v) : ∃ k : Nat, posW W c = k ∧ W[k]? = some (c, v) := by
  unfold posW
  cases hf : W.findIdx? (fun p => p.1 == c) with
  | none =>
    rw [List.findIdx?_eq_none_iff] at hf
    have : get W c = none := get_none.2 fun p hp => by simpa using hf p hp
    rw [this] at h
    cases h
  | some k =>
    refine ⟨k, rfl, ?_⟩
    rw [List.findIdx?_eq_some_iff_getElem] at hf
    obtain ⟨hk, h1, h2⟩ := hf
    rw [List.getElem?_eq_getElem hk]
    have h1 : W[k].1 = c := by simpa using h1
    have : get W c = some W[k].2 := by
      unfold Assoc.get
      have : W.find? (fun p => p.1 == c) = some W[k] := by
        rw [List.find?_eq_some_iff_getElem]
        exact ⟨by simpa using h1, k, hk, rfl, fun j hj => by simpa using h2 j hj⟩
      rw [this]
      rfl
    rw [this] at h
    injection h with h
    rw [← h1, ← h]

end Go.Proofs.YtjlpogmoebmkdaaDoor

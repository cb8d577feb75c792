/-
  Slices that the call owns: what their cells hold, what a store, a reslice, a step that leaves their block alone makes of them. No program in sight.
-/
import Derived.Test.YtiahnlaplkeiaaaDoorBase
import Derived.Deep.AppendLies
namespace Go.Proofs.YtiahnlaplkeiaaaDoor
open Go.RowKit

section
variable {w w' : World} {B s n cap g : Nat} {e : TypeId} {v : Value} {xs : List Value} {S : List Nat}

theorem own_upd_of_grown {v : Value} (h : w.grownBy w' v.ownBlock) : Upd v.ownBlock.toList w w' :=
  (Upd.refl _ w).grown h fun k hk => .inl (by rw [hk]; simp)
theorem own_form (h : w.ownsRow B e s v n xs) (hn : 0 < n) :
    ∃ g cap cur, v = .slice (some ⟨g, 0, none⟩) n cap ∧ B ≤ g ∧ Blk w g e cur ∧ n ≤ cap ∧ cap ≤ maxLen ∧ cur.size = cap * s ∧ cur.toList.take (n * s) = xs := by
  obtain ⟨_, h2⟩ := h
  rcases h2 with ⟨_, h2⟩ | ⟨g, cap, cur, h1, h2, h3, h4, h5, h6, h7⟩
  · omega
  · exact ⟨g, cap, cur, h1, h2, h3, h4, h5, h6, h7⟩
theorem own_open (h : w.ownsRow B e s (.slice (some ⟨g, 0, none⟩) n cap) n xs) :
    ∃ cur, B ≤ g ∧ Blk w g e cur ∧ n ≤ cap ∧ cap ≤ maxLen ∧ cur.size = cap * s ∧ cur.toList.take (n * s) = xs := by
  obtain ⟨_, h2⟩ := h
  rcases h2 with ⟨h2, _⟩ | ⟨g', cap', cur, h1, h2, h3, h4, h5, h6, h7⟩
  · cases h2
  · injection h1 with h1 _ h1'
    injection h1 with h1
    injection h1 with h1
    subst h1 h1'
    exact ⟨cur, h2, h3, h4, h5, h6, h7⟩
theorem own_len (h : w.ownsRow B e s v n xs) : xs.length = n * s := h.1
theorem own_cell (h : w.ownsRow B e s (.slice (some ⟨g, 0, none⟩) n cap) n xs) (j : Nat) (u : Value) (hj : xs[j]? = some u) : w.cell? ⟨g, j, none⟩ = some u := by
  obtain ⟨cur, _, hb, _, _, _, ht⟩ := own_open h
  have hl : j < n * s := by have := (List.getElem?_eq_some_iff.1 hj).1; rw [h.1] at this; exact this
  rw [hb.cell, ← hj, ← ht, List.getElem?_take, if_pos hl, Array.getElem?_toList]
theorem own_frozen (h : w.ownsRow B e s (.slice (some ⟨g, 0, none⟩) n cap) n xs) (j : Nat) : w.frozen? ⟨g, j, none⟩ = false := by
  obtain ⟨cur, _, hb, _⟩ := own_open h
  exact hb.frozen j
theorem own_lt (h : w.ownsRow B e s v n xs) {b : Nat} (hb : v.ownBlock = some b) : B ≤ b ∧ b < w.heap.size := by
  obtain ⟨_, h2⟩ := h
  rcases h2 with ⟨h2, _⟩ | ⟨g', cap', cur, h1, h2, h3, h4, h5, h6, h7⟩
  · subst h2; simp [Value.ownBlock] at hb
  · subst h1
    simp only [Value.ownBlock, Option.some.injEq] at hb
    subst hb
    exact ⟨h2, Blk.lt h3⟩
theorem own_type (h : w.ownsRow B e s v n xs) {b : Nat} {t : TypeId} {cs : Array Value} (hb : Blk w b t cs) (hne : t ≠ e) : v.ownBlock ≠ some b := by
  intro hv
  obtain ⟨_, h2⟩ := h
  rcases h2 with ⟨h2, _⟩ | ⟨g', cap', cur, h1, h2, h3, h4, h5, h6, h7⟩
  · subst h2; simp [Value.ownBlock] at hv
  · subst h1
    simp only [Value.ownBlock, Option.some.injEq] at hv
    subst hv
    exact (Blk.ne_ hb h3 hne) rfl
theorem own_upd (h : w.ownsRow B e s v n xs) (hu : Upd S w w') (hne : ∀ b, v.ownBlock = some b → b ∉ S) : w'.ownsRow B e s v n xs := by
  obtain ⟨h1, h2⟩ := h
  refine ⟨h1, ?_⟩
  rcases h2 with h2 | ⟨g, cap, cur, rfl, h2, h3, h4, h5, h6, h7⟩
  · exact .inl h2
  · exact .inr ⟨g, cap, cur, rfl, h2, Blk.upd h3 hu (hne g rfl), h4, h5, h6, h7⟩
theorem own_upd0 (h : w.ownsRow B e s v n xs) (hu : Upd [] w w') : w'.ownsRow B e s v n xs := own_upd h hu fun _ _ => by simp
theorem own_set (h : w.ownsRow B e s (.slice (some ⟨g, 0, none⟩) n cap) n xs) (j : Nat) (u : Value) :
    (w.setCell ⟨g, j, none⟩ u).ownsRow B e s (.slice (some ⟨g, 0, none⟩) n cap) n (xs.set j u) := by
  obtain ⟨cur, h2, h3, h4, h5, h6, h7⟩ := own_open h
  refine ⟨by rw [List.length_set, h.1], .inr ⟨g, cap, _, rfl, h2, h3.set_ j u, h4, h5, by simpa using h6, ?_⟩⟩
  rw [← h7, Array.toList_setIfInBounds, List.take_set]
theorem own_take (h : w.ownsRow B e s (.slice (some ⟨g, 0, none⟩) n cap) n xs) (m : Nat) (hm : m ≤ n) :
    w.ownsRow B e s (.slice (some ⟨g, 0, none⟩) m cap) m (xs.take (m * s)) := by
  obtain ⟨cur, h2, h3, h4, h5, h6, h7⟩ := own_open h
  have hms : m * s ≤ n * s := Nat.mul_le_mul_right s hm
  refine ⟨by rw [List.length_take, h.1]; omega, .inr ⟨g, cap, _, rfl, h2, h3, by omega, h5, h6, ?_⟩⟩
  rw [← h7, List.take_take, Nat.min_eq_left hms]
theorem own_nil (w : World) (B : Nat) (e : TypeId) (s : Nat) : w.ownsRow B e s (.slice none 0 0) 0 [] := ⟨by simp, .inl ⟨rfl, rfl⟩⟩
theorem own_base {B' : Nat} (h : w.ownsRow B e s v n xs) (hb : B' ≤ B) : w.ownsRow B' e s v n xs := by
  obtain ⟨h1, h2⟩ := h
  refine ⟨h1, ?_⟩
  rcases h2 with h2 | ⟨g, cap, cur, rfl, h2, h3⟩
  · exact .inl h2
  · exact .inr ⟨g, cap, cur, rfl, by omega, h3⟩
/-- The cells of an element that lies in a block of its own, as append's law asks for them. -/
theorem news_of_blk {q : Nat} {cs : Array Value} (h : Blk w q e cs) : ∀ j u, cs.toList[j]? = some u → w.cell? ((⟨q, 0, none⟩ : Addr).add j) = some u := fun j u hu => by
  rw [add_head, h.cell, ← Array.getElem?_toList]; exact hu
end
end Go.Proofs.YtiahnlaplkeiaaaDoor

/-
 concordref08.State: what it keeps; There, Find, Get, Ceil, Range.
 concordref08.State: Get, Ceil, Range.
 concordref08.State: set.
 concordref08.State: Del.
-/
import Derived.Test.YtmjnmpifibemjaaGreatDoorJoB11
import Derived.Test.YtmjnmpifibemjaaGreatDoorJoB12
set_option linter.unusedVariables false
namespace Go.Proofs.YtmjnmpifibemjaaGreatDoor
open Go.RowKit Assoc MP
attribute [local go_sem] litStep_value

/-- The document's state in block rb. -/
structure RMSt (B rb : Nat) (vk vl : Value) (ms : List Value) (w : World) (s : MS) : Prop where
 box : Blk w rb 65 #[vk, vl]
 k : Ow encK 3 w B vk s.K
 l : w.ownsRow B 103 1 vl s.L.length ms
 each : ∀ (i : Nat) (v : Value) (l : AL), ms[i]? = some v → s.L[i]? = some l → Ow encPr 157 w B v l
 b : B ≤ rb
def ownsOf (ms : List Value) : List Nat := ms.flatMap (fun v => v.ownBlock.toList)
theorem mem_owns {ms : List Value} {b : Nat} : b ∈ ownsOf ms ↔ ∃ v ∈ ms, v.ownBlock = some b := by
 unfold ownsOf
 simp [List.mem_flatMap]
def fpRM (rb : Nat) (vk vl : Value) (ms : List Value) : List Nat := rb :: (vk.ownBlock.toList ++ vl.ownBlock.toList ++ ownsOf ms)
def RMdl (B rb : Nat) (F : List Nat) (w : World) (s : MS) : Prop := MP.Good s ∧ ∃ vk vl ms, F = fpRM rb vk vl ms ∧ RMSt B rb vk vl ms w s
section
variable {B rb : Nat} {vk vl : Value} {ms : List Value} {w w' : World} {s : MS} {F T : List Nat}
theorem RMSt.mlen (h : RMSt B rb vk vl ms w s) : ms.length = s.L.length := by have := own_len h.l; omega
theorem RMSt.mem (h : RMSt B rb vk vl ms w s) {v : Value} (hv : v ∈ ms) : ∃ l, l ∈ s.L ∧ Ow encPr 157 w B v l := by
 obtain ⟨i, hi, rfl⟩ := List.getElem_of_mem hv
 have hi' : i < s.L.length := by rw [← h.mlen]; exact hi
 exact ⟨s.L[i], List.getElem_mem _, h.each i _ _ (List.getElem?_eq_getElem hi) (List.getElem?_eq_getElem hi')⟩
theorem RMSt.upd (h : RMSt B rb vk vl ms w s) (hu : Upd T w w') (hT : ∀ k ∈ fpRM rb vk vl ms, k ∉ T) : RMSt B rb vk vl ms w' s := by
 unfold fpRM at hT
 simp only [List.mem_cons, List.mem_append, Option.mem_toList] at hT
 refine ⟨h.box.upd hu (hT _ (.inl rfl)), h.k.upd hu fun b hb => hT b (.inr (.inl (.inl hb))), own_upd h.l hu fun b hb => hT b (.inr (.inl (.inr hb))), fun i v l hv hl => (h.each i v l hv hl).upd hu fun b hb => hT b (.inr (.inr (mem_owns.2 ⟨v, List.mem_of_getElem? hv, hb⟩))), h.b⟩
theorem RMdl.upd (h : RMdl B rb F w s) (hu : Upd T w w') (hT : Disj F T) : RMdl B rb F w' s := by
 obtain ⟨g, vk, vl, ms, rfl, h⟩ := h
 exact ⟨g, vk, vl, ms, rfl, h.upd hu hT⟩
theorem RMdl.upd0 (h : RMdl B rb F w s) (hu : Upd [] w w') : RMdl B rb F w' s := h.upd hu (fun k _ => by simp)
theorem RMSt.lt (h : RMSt B rb vk vl ms w s) : ∀ k ∈ fpRM rb vk vl ms, B ≤ k ∧ k < w.heap.size := by
 intro k hk
 unfold fpRM at hk
 simp only [List.mem_cons, List.mem_append, Option.mem_toList] at hk
 rcases hk with rfl | (hk | hk) | hk
 ·exact ⟨h.b, h.box.lt⟩
 ·exact own_lt h.k hk
 ·exact own_lt h.l hk
 ·obtain ⟨v, hv, hb⟩ := mem_owns.1 hk
  obtain ⟨l, _, ho⟩ := h.mem hv
  exact own_lt ho hb
theorem RMdl.lt (h : RMdl B rb F w s) : ∀ k ∈ F, B ≤ k ∧ k < w.heap.size := by
 obtain ⟨g, vk, vl, ms, rfl, h⟩ := h
 exact h.lt
/-- A collection's cells. -/
theorem RMSt.at_ (h : RMSt B rb vk vl ms w s) {i : Nat} (hi : i < s.L.length) : ∃ gl cl Ai ci, vl = .slice (some ⟨gl, 0, none⟩) s.L.length cl ∧ w.cell? ⟨gl, i, none⟩ = some (.slice Ai (coll s i).length ci) ∧ Ow encPr 157 w B (.slice Ai (coll s i).length ci) (coll s i) ∧ ms[i]? = some (.slice Ai (coll s i).length ci) := by
 obtain ⟨gl, cl, cur, rfl, _⟩ := own_form h.l (by omega)
 have hm : i < ms.length := by rw [h.mlen]; exact hi
 have ho := h.each i _ _ (List.getElem?_eq_getElem hm) (coll_get hi)
 obtain ⟨Ai, ci, e, _⟩ := own_slice ho
 have hc := own_cell h.l i _ (List.getElem?_eq_getElem hm)
 rw [e] at ho hc
 exact ⟨gl, cl, Ai, ci, rfl, hc, ho, by rw [List.getElem?_eq_getElem hm, e]⟩
end
end Go.Proofs.YtmjnmpifibemjaaGreatDoor

namespace Go.Proofs.YtmjnmpifibemjaaGreatDoor
open Go.RowKit Assoc MP
attribute [local go_sem] litStep_value

end Go.Proofs.YtmjnmpifibemjaaGreatDoor

namespace Go.Proofs.YtmjnmpifibemjaaGreatDoor
open Go.RowKit Assoc MP
attribute [local go_sem] litStep_value

/-- The box and its list are others; what they hold is the old, or what was handed. -/
theorem RMSt.put {B rb : Nat} {vk vl vl' : Value} {ms : List Value} {w w' : World} {s : MS} {i : Nat} {va : Value} {l : AL} {T : List Nat}
 (h : RMSt B rb vk vl ms w s) (hi : i < s.L.length) (hu : Upd T w w') (hT : ∀ k ∈ T, k = rb) (hb : Blk w' rb 65 #[vk, vl'])
 (hl : w'.ownsRow B 103 1 vl' s.L.length (ms.set i va)) (ha : Ow encPr 157 w' B va l) : RMSt B rb vk vl' (ms.set i va) w' (setC s i l) := by
 have o1 : ∀ {e : TypeId} {s n : Nat} {v : Value} {xs : List Value}, e ≠ 65 → w.ownsRow B e s v n xs → w'.ownsRow B e s v n xs := fun he ho => own_upd ho hu fun b hb hbT => own_type ho h.box (Ne.symm he) (hT b hbT ▸ hb)
 refine ⟨hb, o1 (by decide) h.k, ?_, ?_, h.b⟩
 ·show w'.ownsRow B _ 1 vl' (s.L.set i l).length _
  rw [List.length_set]
  exact hl
 ·intro j v x hv hx
  have hx' : (s.L.set i l)[j]? = some x := hx
  rw [List.getElem?_set] at hv hx'
  by_cases e : i = j
  ·subst e
   rw [if_pos rfl] at hv hx'
   rw [if_pos hi] at hx'
   rw [if_pos (by rw [h.mlen]; exact hi)] at hv
   injection hv with hv
   injection hx' with hx'
   subst hv hx'
   exact ha
  ·rw [if_neg e] at hv hx'
   exact o1 (by decide) (h.each j v x hv hx')
end Go.Proofs.YtmjnmpifibemjaaGreatDoor

namespace Go.Proofs.YtmjnmpifibemjaaGreatDoor
open Go.RowKit Assoc MP
attribute [local go_sem] litStep_value

end Go.Proofs.YtmjnmpifibemjaaGreatDoor

/-
  slices.Sort of ints, off the library's shelf, on a row that the call owns.
-/
import Derived.Test.YtiahnlaplkeiaaaDoorLayS
import Derived.Test.YtiahnlaplkeiaaaDoorOwn
import Derived.Test.YtiahnlaplkeiaaaDoorApp
import Derived.Shelf.SortM.Plain
import Derived.Shelf.SortM.SortNone

namespace Go.Proofs.YtiahnlaplkeiaaaDoor
open Go.RowKit Go.Shelf Go.Sort

theorem putI_list {d : Array Int} {cur : Array Value} (h : d.size ≤ cur.size) : (putCells (Value.int .i64) 0 d cur).toList.take d.size = d.toList.map (Value.int .i64) ∧ (putCells (Value.int .i64) 0 d cur).size = cur.size := by
  refine ⟨?_, by simp [putCells]⟩
  apply List.ext_getElem?
  intro k
  rw [List.getElem?_take]
  by_cases hk : k < d.size
  · rw [if_pos hk, Array.getElem?_toList, List.getElem?_map, Array.getElem?_toList]
    unfold putCells
    rw [Array.getElem?_mapIdx, Array.getElem?_eq_getElem (by omega : k < cur.size), Option.map_some, if_pos ⟨Nat.zero_le _, by omega⟩, Array.getElem?_eq_getElem hk]
    simp [getElem!_pos d k hk]
  · rw [if_neg hk, List.getElem?_eq_none (by simp; omega)]
theorem heap_mapB (w : World) (b : Nat) (f : Array Value → Array Value) (k : Nat) : (mapBlock w b f).heap[k]? = if k = b then (w.heap[k]?).map (fun o => match o with | .cells c e fr => .cells (f c) e fr | o => o) else w.heap[k]? := by
  unfold mapBlock
  by_cases h : k = b
  · subst h
    rw [if_pos rfl]
    simp only [Array.getElem?_modify, if_true]
    cases w.heap[k]? with
    | none => rfl
    | some o => cases o <;> rfl
  · rw [if_neg h]
    simp [Array.getElem?_modify]
    intro e
    exact absurd e.symm h
theorem holds_ints {w : World} {B g n c : Nat} {e : TypeId} {L : List Int} (h : w.ownsRow B e 1 (.slice (some ⟨g, 0, none⟩) n c) n (L.map (Value.int .i64))) : Holds (Value.int .i64) w g 0 L.toArray := by
  intro j hj
  have hj' : j < L.length := by simpa using hj
  refine ⟨?_, by rw [Nat.zero_add]; exact own_frozen h j⟩
  rw [Nat.zero_add, getElem!_pos L.toArray j hj]
  exact own_cell h j _ (by rw [List.getElem?_map, List.getElem?_eq_getElem hj']; rfl)
/-- The row has other things; nothing else has turned. -/
theorem own_put {w : World} {B g n c m : Nat} {e : TypeId} {L : List Int} {d : Array Int} {os : Array Obj} (h : w.ownsRow B e 1 (.slice (some ⟨g, 0, none⟩) n c) n (L.map (Value.int .i64))) (hd : d.size = n) :
    (grow (putRow (Value.int .i64) (Go.Sort.ahead w m) g 0 d) os).ownsRow B e 1 (.slice (some ⟨g, 0, none⟩) n c) n (d.toList.map (Value.int .i64)) ∧ Upd [g] w (grow (putRow (Value.int .i64) (Go.Sort.ahead w m) g 0 d) os) := by
  obtain ⟨cur, h2, h3, h4, h5, h6, h7⟩ := own_open h
  have hlt := h3.lt
  have hfs : d.size ≤ cur.size := by omega
  obtain ⟨p1, p2⟩ := putI_list hfs
  have hsz : (mapBlock (Go.Sort.ahead w m) g (putCells (Value.int .i64) 0 d)).heap.size = w.heap.size := by simp [mapBlock, Go.Sort.ahead]
  have hblk : (grow (putRow (Value.int .i64) (Go.Sort.ahead w m) g 0 d) os).heap[g]? = some (.cells (putCells (Value.int .i64) 0 d cur) e (0, 0)) := by
    unfold putRow
    rw [heap_grow_old _ _ (by rw [hsz]; exact hlt), heap_mapB, if_pos rfl]
    show Option.map _ (w.heap[g]?) = _
    rw [show w.heap[g]? = _ from h3]
    rfl
  refine ⟨⟨by simp [hd], .inr ⟨g, c, _, rfl, h2, hblk, by omega, h5, by rw [p2, h6], ?_⟩⟩, ⟨rfl, rfl, rfl, ?_, fun k hk hkn => ?_⟩⟩
  · rw [Nat.mul_one, ← hd, p1]
  · unfold putRow grow
    simp only [Array.size_append, hsz]
    omega
  · unfold putRow
    rw [heap_grow_old _ _ (by rw [hsz]; exact hk), heap_mapB, if_neg (by simpa using hkn)]
    rfl
theorem sortI_ok {w : World} {B n : Nat} {v : Value} {L : List Int} (h : w.ownsRow B 3 1 v n (L.map (Value.int .i64))) (hl : n ≤ 1000000) :
    Calls Tryd.prog 25 #[v] w fun e w' => e = .returned (.tuple #[]) ∧ w'.ownsRow B 3 1 v n ((L.mergeSort fun x y => decide (x ≤ y)).map (Value.int .i64)) ∧ Upd v.ownBlock.toList w w' := by
  have hn : L.length = n := by simpa using own_len h
  by_cases h0 : n = 0
  · subst h0
    obtain ⟨A, c, rfl, _, _⟩ := own_slice h
    obtain rfl := List.eq_nil_of_length_eq_zero hn
    refine (AnyM.slices_Sort_int_none sortI_lay A c w).mono ?_
    rintro e w' ⟨rfl, rfl⟩
    exact ⟨rfl, by simpa using h, .refl _ _⟩
  · obtain ⟨g, c, cur, rfl, _⟩ := own_form h (by omega)
    have hb := own_lt h (b := g) rfl
    subst hn
    refine (AnyM.slices_Sort_int sortI_lay g 0 c L w (holds_ints h) hb.2 (by omega)).mono ?_
    rintro e w' ⟨rfl, q, os, rfl⟩
    have := own_put (m := q) (os := os) (d := (L.mergeSort fun x y => decide (x ≤ y)).toArray) h (by simp)
    exact ⟨rfl, by simpa using this.1, by simpa [Value.ownBlock] using this.2⟩
end Go.Proofs.YtiahnlaplkeiaaaDoor

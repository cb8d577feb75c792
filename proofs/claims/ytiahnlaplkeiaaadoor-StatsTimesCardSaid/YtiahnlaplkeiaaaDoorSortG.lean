/-
  What the library's sort leaves of a row that the call owns. No program in sight.
-/
import Derived.Test.YtiahnlaplkeiaaaDoorFlat
import Derived.Shelf.SlSortCmp.NoneTotal
set_option linter.unusedVariables false
namespace Go.Proofs.YtiahnlaplkeiaaaDoor
open Go.RowKit Go.Sort

theorem flatK_list {α : Type} [Inhabited α] (E : Enc α) (d : Array α) : (flatK E.c E.s d).toList = flat E d.toList := by
  apply List.ext_getElem?
  intro t
  by_cases ht : t < d.size * E.s
  · have hk : t / E.s < d.size := Nat.div_lt_of_lt_mul (by rw [Nat.mul_comm]; exact ht)
    have hr : t % E.s < E.s := Nat.mod_lt _ E.pos
    have hd : d.toList[t / E.s]? = some d[t / E.s]! := by
      rw [Array.getElem?_toList, Array.getElem?_eq_getElem hk, getElem!_pos d _ hk]
    have hg := flat_get (E := E) hd hr
    have he : t / E.s * E.s + t % E.s = t := by rw [Nat.mul_comm]; exact Nat.div_add_mod t E.s
    rw [he] at hg
    rw [hg, Array.getElem?_toList, Array.getElem?_eq_getElem (by rw [size_flatK]; exact ht)]
    have hf := get_flatK E.c E.s d t ht
    rw [getElem!_pos (flatK E.c E.s d) t (by rw [size_flatK]; exact ht)] at hf
    rw [hf]
    have hl : t % E.s < (E.c d[t / E.s]!).length := by rw [E.len]; exact hr
    rw [List.getElem?_eq_getElem hl, getElem!_pos (E.c d[t / E.s]!) (t % E.s) hl]
  · rw [List.getElem?_eq_none (by simp; omega), List.getElem?_eq_none (by rw [flat_len]; simp; omega)]

theorem holdsK_own {α : Type} [Inhabited α] {E : Enc α} {e : TypeId} {w : World} {B g n c : Nat} {L : List α} (h : Ow E e w B (.slice (some ⟨g, 0, none⟩) n c) L) : HoldsK E.c E.s w g 0 L.toArray := by
  have hn : n = L.length := by
    obtain ⟨A, c', he, _⟩ := own_slice h
    injection he
  subst hn
  intro j hj
  have hf := flatK_list E L.toArray
  have hg : (flat E L)[j]? = some (flatK E.c E.s L.toArray)[j]! := by
    rw [show L = L.toArray.toList by simp, ← hf, Array.getElem?_toList, Array.getElem?_eq_getElem hj, getElem!_pos (flatK E.c E.s L.toArray) j hj]
  exact ⟨by rw [Nat.zero_add]; exact own_cell h j _ hg, by rw [Nat.zero_add]; exact own_frozen h j⟩
theorem heap_mapBlock (w : World) (b : Nat) (f : Array Value → Array Value) (k : Nat) : (mapBlock w b f).heap[k]? = if k = b then (w.heap[k]?).map (fun o => match o with | .cells c e fr => .cells (f c) e fr | o => o) else w.heap[k]? := by
  unfold mapBlock
  by_cases h : k = b
  · subst h
    rw [if_pos rfl]
    simp only [Array.getElem?_modify, if_true]
    cases w.heap[k]? with
    | none => rfl
    | some o => cases o <;> rfl
  · rw [if_neg h]
    simp [Array.getElem?_modify]
    intro e
    exact absurd e.symm h
theorem putCells_list {F cur : Array Value} (h : F.size ≤ cur.size) : (putCells id 0 F cur).toList.take F.size = F.toList ∧ (putCells id 0 F cur).size = cur.size := by
  refine ⟨?_, by simp [putCells]⟩
  apply List.ext_getElem?
  intro k
  rw [List.getElem?_take]
  by_cases hk : k < F.size
  · rw [if_pos hk, Array.getElem?_toList, Array.getElem?_toList]
    unfold putCells
    rw [Array.getElem?_mapIdx, Array.getElem?_eq_getElem (by omega : k < cur.size), Option.map_some, if_pos ⟨Nat.zero_le _, by omega⟩, Array.getElem?_eq_getElem hk]
    simp [getElem!_pos F k hk]
  · rw [if_neg hk, Array.getElem?_toList, Array.getElem?_eq_none (by omega)]
/-- Sorted: the row has other things, in another order; nothing else has turned. -/
theorem own_sorted {α : Type} [Inhabited α] {E : Enc α} {e : TypeId} {w : World} {B g n c m : Nat} {L : List α} {d : Array α} {os : Array Obj} (h : Ow E e w B (.slice (some ⟨g, 0, none⟩) n c) L) (hd : d.size = L.length) :
    Ow E e (sortWorldK E.c E.s w g 0 m d os) B (.slice (some ⟨g, 0, none⟩) n c) d.toList ∧ Upd [g] w (sortWorldK E.c E.s w g 0 m d os) := by
  have hn : n = L.length := by
    obtain ⟨A, c', he, _⟩ := own_slice h
    injection he
  subst hn
  have h0 := h
  obtain ⟨cur, h2, h3, h4, h5, h6, h7⟩ := own_open h
  have hlt := h3.lt
  have hfs : (flatK E.c E.s d).size ≤ cur.size := by rw [size_flatK, hd, h6]; exact Nat.mul_le_mul_right _ h4
  obtain ⟨p1, p2⟩ := putCells_list hfs
  have hblk : (sortWorldK E.c E.s w g 0 m d os).heap[g]? = some (.cells (putCells id 0 (flatK E.c E.s d) cur) e (0, 0)) := by
    unfold sortWorldK putRowK putRow
    rw [heap_grow_old _ _ (by rw [show (mapBlock (Go.Sort.ahead w m) g (putCells id 0 (flatK E.c E.s d))).heap.size = w.heap.size by simp [mapBlock]]; exact hlt), heap_mapBlock, if_pos rfl]
    show Option.map _ (w.heap[g]?) = _
    rw [show w.heap[g]? = _ from h3]
    rfl
  refine ⟨⟨flat_len, .inr ⟨g, c, _, by rw [show d.toList.length = L.length by simpa using hd], h2, hblk, by simpa [hd] using h4, h5, by rw [p2, h6], ?_⟩⟩, ⟨rfl, rfl, rfl, ?_, fun k hk hkn => ?_⟩⟩
  · have hs : d.toList.length * E.s = (flatK E.c E.s d).size := by rw [size_flatK]; simp
    rw [hs, p1, flatK_list]
  · unfold sortWorldK putRowK
    simp
  · unfold sortWorldK putRowK putRow
    rw [heap_grow_old _ _ (by rw [show (mapBlock (Go.Sort.ahead w m) g (putCells id 0 (flatK E.c E.s d))).heap.size = w.heap.size by simp [mapBlock]]; exact hk), heap_mapBlock, if_neg (by simpa using hkn)]
    rfl
end Go.Proofs.YtiahnlaplkeiaaaDoor

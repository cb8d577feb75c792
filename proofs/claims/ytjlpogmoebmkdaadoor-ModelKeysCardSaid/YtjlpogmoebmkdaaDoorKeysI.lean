/-
  slices.Sorted of maps.Keys: the keys of a map of integers, rising.
-/
import Derived.Test.YtjlpogmoebmkdaaDoorMdl2
import Derived.Test.YtjlpogmoebmkdaaDoorLayK
import Derived.Maps.Range
set_option linter.unusedVariables false
namespace Go.Proofs.YtjlpogmoebmkdaaDoor
open Go.RowKit Assoc MP Go.Shelf Go.WideElems Go.MapKept Go.Maps Go.WideShapes

theorem sortsI (m : Nat) : AnyZI.SortsIn Tryd.prog sortedI_lay_ren Fence.wide m :=
  ⟨fun blk off cap ss W hH hblk hsz => callsIn_wide.2 (AnyM.slices_Sort_int sortI_lay blk off cap ss W hH hblk hsz),
   fun p cap W => callsIn_wide.2 (AnyM.slices_Sort_int_none sortI_lay p cap W)⟩
theorem keysM (mb : Option Nat) (w : World) : Calls Tryd.prog 27 #[.map mb] w fun e w' => e = .returned (.func (.func 45) #[] #[.pointer (some ⟨w.heap.size, 0, none⟩)]) ∧ w.alloc (.cells #[.map mb] 59) = w' := by
  go_enter Tryd.func27, Tryd.ntmps27
  go_wp2_with fail
  go_ret
  exact ⟨rfl, rfl⟩
def kwf (l : AL) : Prop := ∀ p ∈ l, (Lit.int .i64 p.1).wf = true
def R0 : Value → Option (DataW Unit × List MemPlace) := fun _ => some (.nil, [])
theorem keyOf_int {x : Int} (h : (Lit.int .i64 x).wf = true) : keyOf Tryd.prog 3 (.int .i64 x) = some (.int .i64 x) := by
  unfold keyOf
  rw [Tryd.underlying3]
  simp [mapKey, Tryd.underlying3, h]
theorem findI_some {L : List IEnt} {k : Int} : (findI L k).isSome = true ↔ k ∈ L.map (·.1) := by
  unfold findI
  rw [Option.isSome_map, List.find?_isSome]
  simp only [List.mem_map, beq_iff_eq]
theorem get_mem_keys {l : AL} {k : Int} : (get l k).isSome = true ↔ k ∈ l.map (·.1) := by
  unfold Assoc.get
  rw [Option.isSome_map, List.find?_isSome]
  simp only [List.mem_map, beq_iff_eq]
theorem srt_keys {l : AL} (h : Srt l) : (l.map (·.1)).Pairwise (· < ·) := List.pairwise_map.2 h
theorem keys_perm {l : AL} {L : List IEnt} (hs : Srt l) (hn : (L.map (·.1)).Nodup) (hf : ∀ k, mapI l k = findI L k) : (L.map (·.1)).Perm (l.map (·.1)) := by
  refine (List.perm_ext_iff_of_nodup hn ((srt_keys hs).imp (fun h => by omega))).2 fun k => ?_
  rw [← findI_some, ← get_mem_keys, ← hf k, mapI_some]
theorem sort_keys {l : AL} {ss : List Int} (hs : Srt l) (hp : ss.Perm (l.map (·.1))) : ss.mergeSort (fun x y => decide (x ≤ y)) = l.map (·.1) := by
  refine List.Perm.eq_of_pairwise (le := fun x y => x ≤ y) ?_ ?_ ?_ ((List.mergeSort_perm _ _).trans hp)
  · intro a b _ _ h1 h2; omega
  · have := List.pairwise_mergeSort (le := fun (x y : Int) => decide (x ≤ y)) (fun a b c h1 h2 => by simp at *; omega) (fun a b => by simp; omega) ss
    exact this.imp (fun h => by simpa using h)
  · exact (srt_keys hs).imp (fun h => by omega)
/-- The map as the shelf's kit knows it. -/
theorem owns_of {w : World} {m : Nat} {l : AL} (h : IMap w .i64 m (mapI l) l.length) (hs : Srt l) (hk : kwf l) (hl : l.length ≤ 100) :
    ∃ D0 : DataW Unit, w.ownsMap Tryd.prog 3 R0 m l.length D0 ∧ Maps.size D0 ≤ 100 ∧ (intKeys D0).Perm (l.map (·.1)) := by
  obtain ⟨L, c, hr, hf, hn⟩ := h
  have hkp := keys_perm hs hr.keys hf
  have hwf : ∀ p ∈ L, (Lit.int .i64 p.1).wf = true := fun p hp => by
    obtain ⟨q, hq, e⟩ := List.mem_map.1 (hkp.mem_iff.1 (List.mem_map.2 ⟨p, hp, rfl⟩))
    rw [← e]
    exact hk q hq
  have hrg : ∀ p ∈ L, rg Tryd.prog 3 R0 (ent .i64 p) = (.int .i64 p.1, .nil) := fun p hp => by
    unfold rg rd ent R0
    simp [keyOf_int (hwf p hp)]
  have he : ((L.map (ent .i64)).toArray.toList.map (rg Tryd.prog 3 R0)) = L.map (fun p => (Lit.int .i64 p.1, (DataW.nil : DataW Unit))) := by
    generalize rg Tryd.prog 3 R0 = f at hrg ⊢
    show (L.map (ent .i64)).map f = _
    rw [List.map_map]
    exact List.map_congr_left fun p hp => hrg p hp
  refine ⟨_, ⟨_, c, hr.blk, ⟨?_, ⟨?_, ?_, ?_⟩, ?_⟩, ?_, rfl⟩, ?_, ?_⟩
  · simp [maxLen]; omega
  · intro x hx
    simp only [List.mem_map] at hx
    obtain ⟨p, hp, rfl⟩ := hx
    exact hr.lt p hp
  · simp only [List.map_map]
    exact hr.stamps
  · simp only [List.map_map]
    have : (Value.int IntKind.i64 ∘ fun (p : IEnt) => p.1) = (MapEntry.key ∘ ent .i64) := rfl
    rw [← this, ← List.map_map]
    exact List.Pairwise.map _ (fun a b h e => h (by injection e)) hr.keys
  · intro x hx
    simp only [List.mem_map] at hx
    obtain ⟨p, hp, rfl⟩ := hx
    exact ⟨(.int .i64 p.1, .nil), by unfold rd ent R0; simp [keyOf_int (hwf p hp)]⟩
  · simp [hn]
  · rw [he]
    show (List.foldr DataW.insert [] _).length ≤ 100
    rw [(sorted_perm _).length_eq, List.length_map, hn]
    exact hl
  · rw [he]
    unfold intKeys
    refine ((sorted_perm _).map _).trans ?_
    rw [List.map_map]
    exact hkp
def KeysPost (l : AL) (w : World) (e : Ending) (w' : World) : Prop := ∃ v, e = .returned v ∧ Ow encK 3 w' w.heap.size v (l.map (·.1)) ∧ Upd [] w w'
theorem flat_ints (xs : List Int) : flat encK xs = xs.map encZ := by
  induction xs with
  | nil => rfl
  | cons x xs ih => rw [flat_cons, ih]; rfl
theorem sortedKeys (Bm m : Nat) (l : AL) (w : World) (hb : Blk w Bm 59 #[.map (some m)]) (h : IMap w .i64 m (mapI l) l.length) (hs : Srt l) (hk : kwf l) (hl : l.length ≤ 100) :
    Calls Tryd.prog 26 #[.func (.func 45) #[] #[.pointer (some ⟨Bm, 0, none⟩)]] w fun e w' => KeysPost l w e w' := by
  obtain ⟨D0, hown, hsz, hp⟩ := owns_of h hs hk hl
  have hseq : SeqGives Fence.wide 2 Tryd.prog 45 #[.pointer (some ⟨Bm, 0, none⟩)] encZ (fun ss => ss.Perm (intKeys D0)) (Maps.size D0) w :=
    AnyZI.keys_gives (ρ := keysM_lay_ren) { keysM_lay with } Fence.wide _ trivial rfl (by omega) Bm m l.length D0 _ hb.lt (hb.cell 0) hown
  have cS := AnyZI.sorted_in sortedI_lay Fence.wide 5 trivial trivial trivial trivial rfl (by omega) (sortsI _) (enters_of Tryd.func44 (by kernel_rfl) rfl) 45 #[.pointer (some ⟨Bm, 0, none⟩)] trivial (enters_of Tryd.func45 (by kernel_rfl) rfl) _ _ (by simp only [maxLen]; omega) (by omega) _ hseq
  refine (callsIn_wide (n := 5)).1 (show CallsIn Fence.wide 5 Tryd.prog 26 _ w _ from cS.mono ?_)
  rintro e w' ⟨v, ss, rfl, hS, hrow, _, hbl⟩
  rw [sort_keys hs (hS.trans hp)] at hrow
  refine ⟨v, rfl, ?_, Upd.of_below (S := []) hbl (Nat.le_refl _)⟩
  unfold Ow
  rw [flat_ints]
  have e : ss.length = (l.map (·.1)).length := (hS.trans hp).length_eq
  rw [← e]
  exact hrow
end Go.Proofs.YtjlpogmoebmkdaaDoor

/-
  Maps whose keys are integers: what they hold, what a look-up, a store, a delete, an assignment's two halves make of them. No program in sight.
  Lists of things that have so many cells each, laid flat; what a slice of them reads as, owns; which blocks a thing's turns may turn. No program in sight.
  From a walk that ends 'true, and nothing that was there has turned' to what a law's row asks. No program in sight.
  Arguments that are slices of plain things: what they read as. No program in sight.
  errors.Is over the program's own errors (a number, or a place that wraps a number), and the law's 'No': by contracts.
  The law's 'No': which number an error has.
  Errors as the program makes them: none, a number, a fault at a place; what No says of them.
-/
import Derived.Test.YtfbeaklplefojaaDoorEvN0
import Derived.MapKept
import Derived.Maps.Own
import Derived.ProofKit
import Derived.Carry
import Derived.OpenShut
import Derived.Deep.Slices
import Derived.Deep.Fields
import Derived.Test.YtfbeaklplefojaaDoorProg
import Derived.Stop.Asserts
import Derived.RowKitTokens
set_option linter.unusedVariables false
namespace Go.Proofs.YtfbeaklplefojaaDoor
open Go Go.RowKit Go.MapKept

abbrev IEnt := Int × Value × Nat
def ent (q : IntKind) (p : IEnt) : MapEntry := { key := .int q p.1, val := p.2.1, born := p.2.2 }
structure IRaw (w : World) (q : IntKind) (b : Nat) (L : List IEnt) (c : Nat) : Prop where
  blk : w.heap[b]? = some (.map (L.map (ent q)).toArray c)
  keys : (L.map (·.1)).Nodup
  stamps : (L.map (·.2.2)).Nodup
  lt : ∀ p ∈ L, p.2.2 < c
def findI (L : List IEnt) (k : Int) : Option Value := (L.find? (fun p => p.1 == k)).map (·.2.1)
/-- Block b is a map with these values, n in all. -/
def IMap (w : World) (q : IntKind) (b : Nat) (f : Int → Option Value) (n : Nat) : Prop := ∃ L c, IRaw w q b L c ∧ (∀ k, f k = findI L k) ∧ L.length = n

section
variable {P : Program} {w w' : World} {q : IntKind} {b : Nat} {L : List IEnt} {c : Nat} {f : Int → Option Value} {n : Nat}
theorem IRaw.lt' (h : IRaw w q b L c) : b < w.heap.size := by
  rcases Nat.lt_or_ge b w.heap.size with hl | hg
  · exact hl
  · have := h.blk
    rw [Array.getElem?_eq_none hg] at this
    cases this
theorem IMap.lt (h : IMap w q b f n) : b < w.heap.size := by
  obtain ⟨L, c, h, _⟩ := h
  exact h.lt'
theorem IMap.upd {S : List Nat} (h : IMap w q b f n) (hu : Upd S w w') (hb : b ∉ S) : IMap w' q b f n := by
  obtain ⟨L, c, h, h1, h2⟩ := h
  exact ⟨L, c, ⟨(hu.keep b h.lt' hb).trans h.blk, h.keys, h.stamps, h.lt⟩, h1, h2⟩
theorem IMap.drew (h : IMap w q b f n) : IMap w.drew q b f n := by
  obtain ⟨L, c, h, h1, h2⟩ := h
  exact ⟨L, c, ⟨h.blk, h.keys, h.stamps, h.lt⟩, h1, h2⟩
theorem IMap.new (w : World) (q : IntKind) : IMap (w.alloc (.map #[] 0)) q w.heap.size (fun _ => none) 0 :=
  ⟨[], 0, ⟨by simpa using heap_alloc_new w (.map #[] 0), by simp, by simp, by simp⟩, fun _ => rfl, rfl⟩
theorem IMap.congr {g : Int → Option Value} (h : IMap w q b f n) (hg : ∀ k, f k = g k) : IMap w q b g n := by
  obtain ⟨L, c, h, h1, h2⟩ := h
  exact ⟨L, c, h, fun k => (hg k).symm.trans (h1 k), h2⟩

theorem findNow_ent (k : Int) : ∀ (L : List IEnt) (i : Nat), Instr.findNow (.int q) (.int q k) (L.map (ent q)) i = some ((L.findIdx? (fun p => p.1 == k)).map (fun j => (i + j, (L.getD j (0, undef, 0)).2.1)))
  | [], i => rfl
  | p :: L, i => by
    rw [List.map_cons]
    unfold Instr.findNow
    have e : Instr.sameNow (.int q) (.int q k) (ent q p).key = some (k == p.1) := by simp [Instr.sameNow, ent]
    rw [e]
    by_cases h : p.1 = k
    · subst h
      simp [ent, List.findIdx?_cons]
    · have h1 : (k == p.1) = false := by simpa using fun e => h e.symm
      have h2 : (p.1 == k) = false := by simpa using h
      rw [h1]
      simp only
      rw [findNow_ent k L (i + 1), List.findIdx?_cons, h2]
      cases L.findIdx? (fun p => p.1 == k) with
      | none => rfl
      | some j => simp; omega
theorem findI_idx {k : Int} : findI L k = (L.findIdx? (fun p => p.1 == k)).map (fun j => (L.getD j (0, undef, 0)).2.1) := by
  induction L with
  | nil => rfl
  | cons p L ih =>
    unfold findI at ih ⊢
    rw [List.find?_cons, List.findIdx?_cons]
    cases h : p.1 == k with
    | true => simp
    | false =>
      simp only [Bool.false_eq_true, if_false]
      rw [ih]
      cases L.findIdx? (fun p => p.1 == k) <;> simp
theorem run_findKey_int {kt : TypeId} (hk : P.underlying kt = some (.int q)) (k : Int) (L : List IEnt) (W : World) : (Instr.findKey kt (.int q k) (L.map (ent q))).run P W = .ok ((L.findIdx? (fun p => p.1 == k)).map (fun j => (j, (L.getD j (0, undef, 0)).2.1))) W := by
  unfold Instr.findKey
  simp only [Sem.run_bind, run_underlying hk, Result.andThen]
  rw [findNow_ent]
  simp
theorem run_getObj_blk {b : Nat} {es : Array MapEntry} {c : Nat} (h : w.heap[b]? = some (.map es c)) : (getObj b).run P w = .ok (.map es c) w := by
  simp [getObj, Sem.run, h]
theorem run_lookup_int {mt kt et : TypeId} {z : Value} (hm : P.underlying mt = some (.map kt et)) (hk : P.underlying kt = some (.int q)) (hz : (zeroValue et).run P w = .ok z w) (h : IMap w q b f n) (k : Int) :
    (Instr.lookup mt (.map (some b)) (.int q k) true).run P w = .ok (.tuple #[(f k).getD z, .bool (f k).isSome]) w := by
  obtain ⟨L, c, h, hf, _⟩ := h
  rw [hf, findI_idx]
  unfold Instr.lookup
  simp only [Sem.run_bind, run_underlying hm, Result.andThen, run_getObj_blk h.blk, Sem.run_pure, run_checkKey hk (show IsKey (.int q) (.int q k) by simp [IsKey])]
  have e : (Instr.findKey kt (.int q k) (L.map (ent q)).toArray.toList).run P w = _ := run_findKey_int hk k L w
  rw [e]
  simp only
  cases L.findIdx? (fun p => p.1 == k) with
  | none => simp [Sem.run_bind, hz, Result.andThen]
  | some j => simp [Result.andThen]
theorem run_lookup_int' {mt kt et : TypeId} {z : Value} (hm : P.underlying mt = some (.map kt et)) (hk : P.underlying kt = some (.int q)) (hz : (zeroValue et).run P w = .ok z w) (h : IMap w q b f n) (k : Int) :
    (Instr.lookup mt (.map (some b)) (.int q k) false).run P w = .ok ((f k).getD z) w := by
  obtain ⟨L, c, h, hf, _⟩ := h
  rw [hf, findI_idx]
  unfold Instr.lookup
  simp only [Sem.run_bind, run_underlying hm, Result.andThen, run_getObj_blk h.blk, Sem.run_pure, run_checkKey hk (show IsKey (.int q) (.int q k) by simp [IsKey])]
  have e : (Instr.findKey kt (.int q k) (L.map (ent q)).toArray.toList).run P w = _ := run_findKey_int hk k L w
  rw [e]
  simp only
  cases L.findIdx? (fun p => p.1 == k) with
  | none => simp [Sem.run_bind, hz, Result.andThen]
  | some j => simp [Result.andThen]

def putI (f : Int → Option Value) (k : Int) (v : Value) : Int → Option Value := fun x => if x = k then some v else f x
def delI (f : Int → Option Value) (k : Int) : Int → Option Value := fun x => if x = k then none else f x
theorem upd_setBlk {b : Nat} (o : Obj) (hb : b < w.heap.size) : Upd [b] w { w with heap := w.heap.setIfInBounds b o } :=
  ⟨rfl, rfl, rfl, by simp, fun k hk hn => by
    have : b ≠ k := fun e => hn (by simp [e])
    simp [this]⟩
theorem find_some_mem {k : Int} {j : Nat} (h : L.findIdx? (fun p => p.1 == k) = some j) : ∃ hj : j < L.length, L[j].1 = k := by
  rw [List.findIdx?_eq_some_iff_getElem] at h
  obtain ⟨hj, h1, _⟩ := h
  exact ⟨hj, by simpa using h1⟩
theorem find_none {k : Int} (h : L.findIdx? (fun p => p.1 == k) = none) : ∀ p ∈ L, p.1 ≠ k := by
  rw [List.findIdx?_eq_none_iff] at h
  intro p hp
  simpa using h p hp
theorem findI_none {k : Int} (h : ∀ p ∈ L, p.1 ≠ k) : findI L k = none := by
  unfold findI
  rw [List.find?_eq_none.2 (fun p hp => by simpa using h p hp)]
  rfl
/-- What a list of entries with unlike keys has. -/
theorem findI_mem (hn : (L.map (·.1)).Nodup) {p : IEnt} (hp : p ∈ L) : findI L p.1 = some p.2.1 := by
  induction L with
  | nil => simp at hp
  | cons a L ih =>
    rw [List.map_cons, List.nodup_cons] at hn
    unfold findI at ih ⊢
    rw [List.find?_cons]
    rcases List.mem_cons.1 hp with rfl | hp
    · simp
    · have : (a.1 == p.1) = false := by
        have : a.1 ≠ p.1 := fun e => hn.1 (e ▸ List.mem_map.2 ⟨p, hp, rfl⟩)
        simpa using this
      rw [this]
      exact ih hn.2 hp
theorem findI_append {M : List IEnt} (k : Int) : findI (L ++ M) k = (findI L k).or (findI M k) := by
  unfold findI
  rw [List.find?_append]
  cases L.find? (fun p => p.1 == k) <;> simp
theorem findI_set {j : Nat} {k : Int} (hn : (L.map (·.1)).Nodup) (hj : j < L.length) (hk : L[j].1 = k) (v : Value) (s : Nat) (x : Int) : findI (L.set j (k, v, s)) x = if x = k then some v else findI L x := by
  induction L generalizing j with
  | nil => simp at hj
  | cons a L ih =>
    rw [List.map_cons, List.nodup_cons] at hn
    cases j with
    | zero =>
      simp only [List.getElem_cons_zero] at hk
      rw [List.set_cons_zero]
      unfold findI
      rw [List.find?_cons, List.find?_cons, hk]
      by_cases h : x = k
      · subst h; simp
      · have : (k == x) = false := by simpa using fun e => h e.symm
        simp only [this]
        rw [if_neg h]
    | succ j =>
      rw [List.set_cons_succ]
      unfold findI at ih ⊢
      rw [List.find?_cons, List.find?_cons]
      by_cases h : a.1 = x
      · subst h
        have : a.1 ≠ k := fun e => hn.1 (by
          have hj' : j < L.length := by simpa using hj
          refine List.mem_map.2 ⟨L[j], List.getElem_mem hj', ?_⟩
          simpa [e] using hk)
        simp [this]
      · have : (a.1 == x) = false := by simpa using h
        rw [this]
        simp only
        exact ih hn.2 (by simpa using hj) (by simpa using hk)
theorem set_same {α : Type} {l : List α} {j : Nat} {x : α} (hj : j < l.length) (h : l[j] = x) : l.set j x = l := by
  subst h
  exact List.set_getElem_self hj
theorem IRaw.set {j : Nat} {k : Int} (h : IRaw w q b L c) (hj : j < L.length) (hk : L[j].1 = k) (v : Value) : IRaw { w with heap := w.heap.setIfInBounds b (.map ((L.set j (k, v, L[j].2.2)).map (ent q)).toArray c) } q b (L.set j (k, v, L[j].2.2)) c := by
  refine ⟨(heap_set h.blk).1, ?_, ?_, ?_⟩
  · rw [List.map_set, set_same (by simpa using hj) (by simpa using hk)]
    exact h.keys
  · rw [List.map_set, set_same (by simpa using hj) (by simp)]
    exact h.stamps
  · intro p hp
    rcases List.mem_or_eq_of_mem_set hp with hp | rfl
    · exact h.lt p hp
    · exact h.lt L[j] (List.getElem_mem hj)
theorem IRaw.push {k : Int} (h : IRaw w q b L c) (hk : ∀ p ∈ L, p.1 ≠ k) (v : Value) : IRaw { w with heap := w.heap.setIfInBounds b (.map ((L ++ [(k, v, c)]).map (ent q)).toArray (c + 1)) } q b (L ++ [(k, v, c)]) (c + 1) := by
  refine ⟨(heap_set h.blk).1, ?_, ?_, ?_⟩
  · rw [List.map_append, List.nodup_append]
    refine ⟨h.keys, by simp, ?_⟩
    intro a ha x hx
    simp at hx
    subst hx
    obtain ⟨p, hp, rfl⟩ := List.mem_map.1 ha
    exact hk p hp
  · rw [List.map_append, List.nodup_append]
    refine ⟨h.stamps, by simp, ?_⟩
    intro a ha x hx
    simp at hx
    subst hx
    obtain ⟨p, hp, rfl⟩ := List.mem_map.1 ha
    have := h.lt p hp
    omega
  · intro p hp
    rcases List.mem_append.1 hp with hp | hp
    · have := h.lt p hp; omega
    · simp at hp; subst hp; simp
theorem modify_ent {j : Nat} {k : Int} (hj : j < L.length) (hk : L[j].1 = k) (g : MapEntry → MapEntry) (v : Value) (hg : g (ent q L[j]) = ent q (k, v, L[j].2.2)) : (L.map (ent q)).toArray.modify j g = ((L.set j (k, v, L[j].2.2)).map (ent q)).toArray := by
  apply Array.ext_getElem?
  intro i
  rw [Array.getElem?_modify]
  simp only [List.getElem?_toArray, List.getElem?_map, List.getElem?_set]
  by_cases h : j = i
  · subst h
    simp [hj, hg]
  · simp [h]
theorem run_keyStays (k : Int) (W : World) : (Instr.keyThatStays (.int q k) (.int q k)).run P W = .ok (.int q k) W := by
  unfold Instr.keyThatStays
  have : Instr.sameBits 10000 (.int q k) (.int q k) = true := by simp [Instr.sameBits]
  rw [if_pos this]
  simp
theorem run_mapUpdate_int {mt kt et : TypeId} (hm : P.underlying mt = some (.map kt et)) (hk : P.underlying kt = some (.int q)) (h : IMap w q b f n) (k : Int) (v : Value) :
    ∃ w', (Instr.mapUpdate mt (.map (some b)) (.int q k) v).run P w = .ok () w' ∧ IMap w' q b (putI f k v) (if (f k).isSome then n else n + 1) ∧ Upd [b] w w' := by
  obtain ⟨L, c, h, hf, hn⟩ := h
  have hfk := hf k
  rw [findI_idx] at hfk
  unfold Instr.mapUpdate
  simp only [Sem.run_bind, run_underlying hm, Result.andThen, run_getObj_blk h.blk, run_checkKey hk (show IsKey (.int q) (.int q k) by simp [IsKey])]
  have e : (Instr.findKey kt (.int q k) (L.map (ent q)).toArray.toList).run P w = _ := run_findKey_int hk k L w
  rw [e]
  simp only
  cases hi : L.findIdx? (fun p => p.1 == k) with
  | none =>
    have hno := find_none hi
    rw [hi] at hfk
    rw [hfk]
    refine ⟨_, by simp only [Option.map_none]; exact run_setObj_map _ h.blk, ⟨L ++ [(k, v, c)], c + 1, ?_, fun x => ?_, by simp [hn]⟩, upd_setBlk _ h.lt'⟩
    · have := h.push hno v
      rw [List.map_append] at this
      rw [List.push_toArray]
      exact this
    · unfold putI
      rw [findI_append, hf]
      by_cases hx : x = k
      · subst hx
        rw [if_pos rfl, findI_none hno]
        simp [findI]
      · rw [if_neg hx]
        have : findI [(k, v, c)] x = none := findI_none (by simp; exact fun e => hx e.symm)
        rw [this]
        simp
  | some j =>
    obtain ⟨hj, hjk⟩ := find_some_mem hi
    rw [hi] at hfk
    have hke : (((L.map (ent q)).toArray[j]?).map (·.key)).getD (.int q k) = .int q k := by
      simp [hj, ent, hjk]
    refine ⟨_, ?_, ⟨L.set j (k, v, L[j].2.2), c, h.set hj hjk v, fun x => ?_, by rw [hfk]; simp [hn]⟩, upd_setBlk _ h.lt'⟩
    · simp only [Option.map_some, Sem.run_bind, Result.andThen, hke, run_keyStays]
      rw [modify_ent hj hjk _ v (by simp [ent])]
      exact run_setObj_map _ h.blk
    · unfold putI
      rw [findI_set h.keys hj hjk, hf]
theorem run_delete_int {mt kt et ty : TypeId} {ats : Array TypeId} (ha : ats[0]? = some mt) (hm : P.underlying mt = some (.map kt et)) (hk : P.underlying kt = some (.int q)) (h : IMap w q b f n) (k : Int) :
    ∃ w', (Builtin.delete_ ats ty #[.map (some b), .int q k]).run P w = .ok (.tuple #[]) w' ∧ IMap w' q b (delI f k) (if (f k).isSome then n - 1 else n) ∧ Upd [b] w w' := by
  obtain ⟨L, c, h, hf, hn⟩ := h
  have hfk := hf k
  rw [findI_idx] at hfk
  unfold Builtin.delete_
  rw [ha]
  simp only [List.getElem?_toArray, List.getElem?_cons_zero, List.getElem?_cons_succ, Sem.run_bind, run_underlying hm, Result.andThen, run_getObj_blk h.blk, run_checkKey hk (show IsKey (.int q) (.int q k) by simp [IsKey])]
  have e : (Instr.findKey kt (.int q k) (L.map (ent q)).toArray.toList).run P w = _ := run_findKey_int hk k L w
  rw [e]
  simp only
  cases hi : L.findIdx? (fun p => p.1 == k) with
  | none =>
    have hno := find_none hi
    rw [hi] at hfk
    rw [hfk]
    refine ⟨_, by simp only [Option.map_none, Sem.run_bind, run_setObj_map _ h.blk, Result.andThen, Sem.run_pure], ⟨L, c, ⟨(heap_set h.blk).1, h.keys, h.stamps, h.lt⟩, fun x => ?_, by simp [hn]⟩, upd_setBlk _ h.lt'⟩
    unfold delI
    by_cases hx : x = k
    · subst hx; rw [if_pos rfl, findI_none hno]
    · rw [if_neg hx, hf]
  | some j =>
    obtain ⟨hj, hjk⟩ := find_some_mem hi
    rw [hi] at hfk
    have e1 : (L.map (ent q)).toArray.eraseIdxIfInBounds j = ((L.eraseIdx j).map (ent q)).toArray := by
      have : (L.map (ent q)).eraseIdx j = (L.eraseIdx j).map (ent q) := by
        rw [List.eraseIdx_eq_take_drop_succ, List.eraseIdx_eq_take_drop_succ, List.map_append, List.map_take, List.map_drop]
      simp [Array.eraseIdxIfInBounds, hj, List.eraseIdx_toArray, this]
    refine ⟨{ w with heap := w.heap.setIfInBounds b (.map ((L.eraseIdx j).map (ent q)).toArray c) }, by simp only [Option.map_some, Sem.run_bind, run_setObj_map _ h.blk, Result.andThen, Sem.run_pure]; rw [e1], ⟨L.eraseIdx j, c, ⟨(heap_set h.blk).1, ?_, ?_, fun p hp => h.lt p (List.mem_of_mem_eraseIdx hp)⟩, fun x => ?_, by rw [hfk, List.length_eraseIdx_of_lt hj, hn]; rfl⟩, upd_setBlk _ h.lt'⟩
    · exact h.keys.sublist ((List.eraseIdx_sublist L j).map _)
    · exact h.stamps.sublist ((List.eraseIdx_sublist L j).map _)
    · unfold delI
      have hL : L = L.take j ++ L[j] :: L.drop (j + 1) := by rw [← List.drop_eq_getElem_cons hj, List.take_append_drop]
      have hE : L.eraseIdx j = L.take j ++ L.drop (j + 1) := List.eraseIdx_eq_take_drop_succ ..
      have hnd := h.keys
      rw [hL, List.map_append, List.map_cons, hjk] at hnd
      rw [List.nodup_append, List.nodup_cons] at hnd
      obtain ⟨_, ⟨n1, _⟩, n3⟩ := hnd
      rw [hf, hE]
      conv => lhs; rw [hL]
      rw [findI_append, findI_append]
      by_cases hx : x = k
      · subst hx
        rw [if_pos rfl, findI_none (L := L.take j) (fun p hp e => n3 _ (List.mem_map.2 ⟨p, hp, rfl⟩) _ (List.mem_cons_self ..) e), findI_none (L := L.drop (j + 1)) (fun p hp e => n1 (List.mem_map.2 ⟨p, hp, e⟩))]
        rfl
      · rw [if_neg hx]
        have : findI (L[j] :: L.drop (j + 1)) x = findI (L.drop (j + 1)) x := by
          unfold findI
          rw [List.find?_cons]
          have : (L[j].1 == x) = false := by rw [hjk]; simpa using fun e => hx e.symm
          rw [this]
        rw [this]
/-- An assignment's first half: the entry is found, or made. -/
theorem run_mapEntry_int {mt kt et : TypeId} {z : Value} (hm : P.underlying mt = some (.map kt et)) (hk : P.underlying kt = some (.int q)) (hz : ∀ w, (zeroValue et).run P w = .ok z w) (h : IMap w q b f n) (k : Int) :
    ∃ (w' : World) (s : Nat), (Instr.mapEntry mt (.map (some b)) (.int q k)).run P w = .ok (.tuple #[(f k).getD z, goInt s]) w' ∧ (∃ L c, IRaw w' q b L c ∧ (∃ v, (k, v, s) ∈ L) ∧ (∀ x, findI L x = if x = k then some ((f k).getD z) else f x) ∧ L.length = if (f k).isSome then n else n + 1) ∧ Upd [b] w w' := by
  obtain ⟨L, c, h, hf, hn⟩ := h
  have hfk := hf k
  rw [findI_idx] at hfk
  unfold Instr.mapEntry
  simp only [Sem.run_bind, run_underlying hm, Result.andThen, run_getObj_blk h.blk, run_checkKey hk (show IsKey (.int q) (.int q k) by simp [IsKey])]
  have e : (Instr.findKey kt (.int q k) (L.map (ent q)).toArray.toList).run P w = _ := run_findKey_int hk k L w
  rw [e]
  simp only
  cases hi : L.findIdx? (fun p => p.1 == k) with
  | none =>
    have hno := find_none hi
    rw [hi] at hfk
    rw [hfk]
    refine ⟨_, c, by simp only [Option.map_none, Sem.run_bind, hz, Result.andThen, run_setObj_map _ h.blk, Sem.run_pure]; rfl, ⟨L ++ [(k, z, c)], c + 1, ?_, ⟨z, by simp⟩, fun x => ?_, by simp [hn]⟩, upd_setBlk _ h.lt'⟩
    · have := h.push hno z
      rw [List.map_append] at this
      rw [List.push_toArray]
      exact this
    · rw [findI_append, ← hf]
      by_cases hx : x = k
      · subst hx
        rw [if_pos rfl, hf, findI_none hno]
        simp [findI]
      · rw [if_neg hx]
        have : findI [(k, z, c)] x = none := findI_none (by simp; exact fun e => hx e.symm)
        rw [this]
        simp
  | some j =>
    obtain ⟨hj, hjk⟩ := find_some_mem hi
    rw [hi] at hfk
    have hke : (((L.map (ent q)).toArray[j]?).map (·.key)).getD (.int q k) = .int q k := by
      simp [hj, ent, hjk]
    have hbo : (((L.map (ent q)).toArray[j]?).map (fun x => (x.born : Int))).getD 0 = (L[j].2.2 : Int) := by
      simp [hj, ent]
    have hgd : L.getD j (0, undef, 0) = L[j] := by simp [List.getD_eq_getElem?_getD, hj]
    refine ⟨_, L[j].2.2, ?_, ⟨L.set j (k, L[j].2.1, L[j].2.2), c, h.set hj hjk L[j].2.1, ⟨L[j].2.1, List.mem_iff_getElem.2 ⟨j, by simpa using hj, by simp⟩⟩, fun x => ?_, by rw [hfk]; simp [hn]⟩, upd_setBlk _ h.lt'⟩
    · simp only [Option.map_some, Sem.run_bind, Result.andThen, hke, run_keyStays]
      rw [modify_ent hj hjk _ L[j].2.1 (by simp [ent]), run_setObj_map _ h.blk]
      simp only [Sem.run_pure, hbo, hfk, hgd, Option.map_some, Option.getD_some]
    · rw [findI_set h.keys hj hjk, ← hf, hfk]
      simp only [Option.map_some, Option.getD_some, hgd]
/-- Its second half. -/
theorem run_entryStore_int {mt : TypeId} {s : Nat} {k : Int} {v0 : Value} (h : IRaw w q b L c) (hs : (k, v0, s) ∈ L) (v : Value) :
    ∃ w', (Instr.entryStore mt (.map (some b)) (goInt s) v).run P w = .ok () w' ∧ IMap w' q b (fun x => if x = k then some v else findI L x) L.length ∧ Upd [b] w w' := by
  obtain ⟨j, hj, hjs⟩ := List.mem_iff_getElem.1 hs
  have hidx : (L.map (ent q)).toArray.findIdx? (fun e => (e.born : Int) == (s : Int)) = some j := by
    rw [List.findIdx?_toArray, List.findIdx?_eq_some_iff_getElem]
    refine ⟨by simpa using hj, by simp [ent, hjs], fun i hi => ?_⟩
    simp only [List.getElem_map, ent]
    have hne : L[i].2.2 ≠ s := by
      intro e
      have := List.pairwise_iff_getElem.1 h.stamps i j (by simp; omega) (by simpa using hj) hi
      simp [e, hjs] at this
    simp
    omega
  refine ⟨{ w with heap := w.heap.setIfInBounds b (.map ((L.set j (k, v, L[j].2.2)).map (ent q)).toArray c) }, ?_, ⟨L.set j (k, v, L[j].2.2), c, h.set hj (by rw [hjs]) v, fun x => ?_, by simp⟩, upd_setBlk _ h.lt'⟩
  · unfold Instr.entryStore
    simp only [Sem.run_bind, Result.andThen, run_getObj_blk h.blk]
    have : (asInt (goInt s)).run P w = .ok (s : Int) w := by simp [asInt, asIntOf, goInt, Result.andThen]
    rw [this]
    simp only
    rw [hidx]
    simp only
    rw [modify_ent hj (by rw [hjs]) _ v (by simp [ent, hjs])]
    exact run_setObj_map _ h.blk
  · rw [findI_set h.keys hj (by rw [hjs])]
end
end Go.Proofs.YtfbeaklplefojaaDoor

namespace Go.Proofs.YtfbeaklplefojaaDoor
open Go.RowKit

/-- How a thing lies in cells. -/
structure Enc (α : Type) where
  c : α → List Value
  s : Nat
  len : ∀ a, (c a).length = s
  one : ∀ a, ∀ u ∈ c a, u.oneCell' = true
  pos : 0 < s
def flat {α : Type} (E : Enc α) (L : List α) : List Value := L.flatMap E.c
section
variable {α : Type} {E : Enc α} {L M : List α} {a : α} {k j : Nat}
theorem flat_nil : flat E [] = [] := rfl
theorem flat_cons : flat E (a :: L) = E.c a ++ flat E L := by unfold flat; rw [List.flatMap_cons]
theorem flat_append : flat E (L ++ M) = flat E L ++ flat E M := by unfold flat; rw [List.flatMap_append]
theorem flat_one_ : flat E [a] = E.c a := by unfold flat; simp
theorem flat_len : (flat E L).length = L.length * E.s := by
  induction L with
  | nil => simp [flat]
  | cons a L ih => rw [flat_cons, List.length_append, ih, E.len, List.length_cons, Nat.add_mul]; omega
theorem flat_cells : ∀ u ∈ flat E L, u.oneCell' = true := by
  intro u hu
  obtain ⟨a, _, h⟩ := List.mem_flatMap.1 hu
  exact E.one a u h
theorem flat_get (h : L[k]? = some a) (hj : j < E.s) : (flat E L)[k * E.s + j]? = (E.c a)[j]? := by
  induction L generalizing k with
  | nil => simp at h
  | cons b L ih =>
    rw [flat_cons]
    cases k with
    | zero =>
      simp at h
      subst h
      rw [Nat.zero_mul, Nat.zero_add, List.getElem?_append_left (by rw [E.len]; exact hj)]
    | succ k =>
      rw [List.getElem?_append_right (by rw [E.len, Nat.add_mul]; omega), E.len, show (k + 1) * E.s + j - E.s = k * E.s + j by rw [Nat.add_mul]; omega]
      exact ih (by simpa using h)
theorem flat_take (k : Nat) : flat E (L.take k) = (flat E L).take (k * E.s) := by
  induction L generalizing k with
  | nil => simp [flat]
  | cons a L ih =>
    cases k with
    | zero => simp [flat]
    | succ k =>
      rw [List.take_succ_cons, flat_cons, flat_cons, ih, List.take_append, E.len, List.take_of_length_le (l := E.c a) (by rw [E.len, Nat.add_mul]; omega), show (k + 1) * E.s - E.s = k * E.s by rw [Nat.add_mul]; omega]
theorem flat_drop (k : Nat) : flat E (L.drop k) = (flat E L).drop (k * E.s) := by
  induction L generalizing k with
  | nil => simp [flat]
  | cons a L ih =>
    cases k with
    | zero => simp [flat]
    | succ k =>
      have h0 : (E.c a).drop ((k + 1) * E.s) = [] := List.drop_eq_nil_of_le (by rw [E.len, Nat.add_mul]; omega)
      rw [List.drop_succ_cons, flat_cons, ih, List.drop_append, E.len, h0, show (k + 1) * E.s - E.s = k * E.s by rw [Nat.add_mul]; omega]
      rfl
end
/-- A slice value that reads as these things. -/
def Rd {α : Type} (E : Enc α) (w : World) (v : Value) (L : List α) : Prop := Src w E.s v L.length (flat E L)
/-- A slice value that owns these things, in a block from B on. -/
def Ow {α : Type} (E : Enc α) (e : TypeId) (w : World) (B : Nat) (v : Value) (L : List α) : Prop := w.ownsRow B e E.s v L.length (flat E L)
section
variable {α : Type} {E : Enc α} {L M : List α} {a : α} {k j B : Nat} {e : TypeId} {w w' : World} {v : Value} {S : List Nat}
theorem Rd.nil (E : Enc α) (w : World) (c : Nat) : Rd E w (.slice none 0 c) [] := ⟨by simp [flat], none, c, rfl, by simp [flat]⟩
theorem Ow.nil (E : Enc α) (e : TypeId) (w : World) (B : Nat) : Ow E e w B (.slice none 0 0) [] := own_nil _ _ _ _
theorem Ow.rd (h : Ow E e w B v L) : Rd E w v L := Src.of_own h
theorem Rd.upd (h : Rd E w v L) (hu : Upd S w w') (hS : ∀ b, v.ownBlock = some b → b ∉ S) : Rd E w' v L := Src.upd h hu hS
theorem Rd.upd0 (h : Rd E w v L) (hu : Upd [] w w') : Rd E w' v L := Src.upd0 h hu
theorem Ow.upd (h : Ow E e w B v L) (hu : Upd S w w') (hS : ∀ b, v.ownBlock = some b → b ∉ S) : Ow E e w' B v L := own_upd h hu hS
theorem Ow.upd0 (h : Ow E e w B v L) (hu : Upd [] w w') : Ow E e w' B v L := own_upd0 h hu
theorem Rd.form (h : Rd E w v L) : ∃ A c, v = .slice A L.length c := by
  obtain ⟨_, A, c, e, _⟩ := h
  exact ⟨A, c, e⟩
theorem Ow.form (h : Ow E e w B v L) : ∃ A c, v = .slice A L.length c ∧ L.length ≤ c ∧ c ≤ maxLen := own_slice h
/-- The cells of the k-th one. -/
theorem Rd.at_ {A : Option Addr} {n c : Nat} (h : Rd E w (.slice A n c) L) (hk : L[k]? = some a) : ∃ ad : Addr, A = some ad ∧ ad.block < w.heap.size ∧ ∀ j u, (E.c a)[j]? = some u → w.cell? (ad.add (k * E.s + j)) = some u := by
  obtain ⟨h1, A', c', he, h2⟩ := h
  injection he with hA _ _
  subst hA
  have h0 := E.pos
  have hl := E.len a
  obtain ⟨u, hu⟩ : ∃ u, (E.c a)[0]? = some u := ⟨_, List.getElem?_eq_getElem (by omega)⟩
  obtain ⟨ad, rfl, hb, _⟩ := h2 (k * E.s + 0) u ((flat_get hk h0).trans hu)
  refine ⟨ad, rfl, hb, fun j u hj => ?_⟩
  have hjl : j < E.s := by have := (List.getElem?_eq_some_iff.1 hj).1; omega
  obtain ⟨ad', e, _, hc⟩ := h2 (k * E.s + j) u ((flat_get hk hjl).trans hj)
  cases e
  exact hc
theorem Ow.at_ {g n c : Nat} (h : Ow E e w B (.slice (some ⟨g, 0, none⟩) n c) L) (hk : L[k]? = some a) : ∀ j u, (E.c a)[j]? = some u → w.cell? ⟨g, k * E.s + j, none⟩ = some u := by
  intro j u hj
  have hjl : j < E.s := by have := (List.getElem?_eq_some_iff.1 hj).1; rw [E.len] at this; exact this
  have hn : n = L.length := by
    obtain ⟨A, c', he, _⟩ := own_slice h
    injection he
  subst hn
  exact own_cell h _ u ((flat_get hk hjl).trans hj)
theorem Rd.take {A : Option Addr} {n c : Nat} (h : Rd E w (.slice A n c) L) (k : Nat) (hk : k ≤ L.length) (c' : Nat) : Rd E w (.slice A k c') (L.take k) := by
  have hn : n = L.length := by
    obtain ⟨_, A', c2, he, _⟩ := h
    injection he
  subst hn
  unfold Rd
  rw [flat_take, List.length_take, Nat.min_eq_left hk]
  exact Src.take h k hk c'
theorem Rd.drop {A : Option Addr} {n c : Nat} (h : Rd E w (.slice A n c) L) (k : Nat) (hk : k ≤ L.length) (hc : n ≤ c) (c' : Nat) : Rd E w (.slice (if c = k then A else A.map (·.add (k * E.s))) (n - k) c') (L.drop k) := by
  have hn : n = L.length := by
    obtain ⟨_, A', c2, he, _⟩ := h
    injection he
  subst hn
  unfold Rd
  rw [flat_drop, List.length_drop]
  exact Src.drop h k hk hc c'
end

/-- From w to w' only blocks of F, and new ones, have turned; F' are of F, or new. -/
structure Frm (F F' : List Nat) (w w' : World) : Prop where
  upd : Upd F w w'
  sub : ∀ k ∈ F', k ∈ F ∨ w.heap.size ≤ k
def Disj (F G : List Nat) : Prop := ∀ k ∈ F, k ∉ G
section
variable {F F' F'' G : List Nat} {w w' w0 w1 : World} {B : Nat}
theorem Frm.refl (F : List Nat) (w : World) : Frm F F w w := ⟨.refl _ _, fun _ h => .inl h⟩
theorem Frm.trans (h : Frm F F' w w1) (h' : Frm F' F'' w1 w') : Frm F F'' w w' :=
  ⟨h.upd.trans' h'.upd h.sub, fun k hk => (h'.sub k hk).elim (h.sub k) (fun g => .inr (Nat.le_trans h.upd.size g))⟩
theorem Frm.of0 (h : Upd [] w w') : Frm F F w w' := ⟨h.mono (by simp), fun _ h => .inl h⟩
theorem Frm.pre (h0 : Upd [] w0 w) (h : Frm F F' w w') : Frm F F' w0 w' := (Frm.of0 h0).trans h
theorem Frm.post (h : Frm F F' w w') (h0 : Upd [] w' w1) : Frm F F' w w1 := h.trans (.of0 h0)
theorem Disj.symm (h : Disj F G) : Disj G F := fun k hk hf => h k hf hk
theorem Frm.disj (h : Frm F F' w w') (hd : Disj F G) (hG : ∀ k ∈ G, k < w.heap.size) : Disj F' G := fun k hk hg => (h.sub k hk).elim (fun hf => hd k hf hg) (fun hs => by have := hG k hg; omega)
theorem Frm.base (h : Frm F F' w w') (hB : ∀ k ∈ F, B ≤ k) (hw : B ≤ w.heap.size) : ∀ k ∈ F', B ≤ k := fun k hk => (h.sub k hk).elim (hB k) (fun hs => Nat.le_trans hw hs)
/-- What the call made, and turns: the rest stays. -/
theorem Frm.rest (h : Frm F F' w w') (h0 : Upd [] w0 w) (hF : ∀ k ∈ F, w0.heap.size ≤ k) : Upd [] w0 w' := h0.trans' h.upd (fun k hk => .inr (hF k hk))
theorem Upd.rest (h : Upd F w w') (h0 : Upd [] w0 w) (hF : ∀ k ∈ F, w0.heap.size ≤ k) : Upd [] w0 w' := h0.trans' h (fun k hk => .inr (hF k hk))
end
end Go.Proofs.YtfbeaklplefojaaDoor

namespace Go.Proofs.YtfbeaklplefojaaDoor
open Go.RowKit Go.WideShapes Go.ChangeShapes Go.Deep

section
variable {H : Type} {enc : TypeId × Value → H} {P : Program}
theorem trodAll_stays (hl : laidOutB P = true) {W W' : World} (hb : Below W.heap.size W W') {sp : Nat → Bool} :
    ∀ {ts : List TypeId} {vs : List Value} {ds : List (DataW H)} {ps : List MemPlace}, (∀ t ∈ ts, P.readableRec t = true ∧ t < P.types.size) →
      DataW.TrodAll enc P W 0 (fun _ => true) true ts vs ds ps → (∀ p ∈ ps, p.block < W.heap.size ∧ sp p.block = true) → DataW.TrodAll enc P W' 0 sp true ts vs ds ps
  | [], [], [], _, _, h, _ => h
  | _ :: _, _ :: _, _ :: _, _, ht, ⟨p, q, h1, h2, e⟩, hs =>
    ⟨p, q, WideElems.Trod_stays hl (ht _ (List.mem_cons_self ..)).1 (ht _ (List.mem_cons_self ..)).2 h1 (fun x hx => hb.same (hs x (by rw [e]; exact List.mem_append_left _ hx)).1) (fun x hx => (hs x (by rw [e]; exact List.mem_append_left _ hx)).2),
      trodAll_stays hl hb (fun t h => ht t (List.mem_cons_of_mem _ h)) h2 (fun x hx => hs x (by rw [e]; exact List.mem_append_right _ hx)), e⟩

theorem law_post {fn : Func} {s : ChangeSpec} {tb : TypeId} {W W' : World} {args : Array Value} {ds gs : List (DataW H)} {before : List MemPlace} (hl : laidOutB P = true)
    (ht : fn.params.toList.all (fun t => P.readableRec t && decide (t < P.types.size)) = true) (hv : s.vars = []) (hrt : fn.resultTypes = #[tb]) (hb : P.underlying tb = some .bool)
    (hspec : s.fn H (ds ++ []) = { results := [.lit (.bool true)], args := ds })
    (hW : DataW.Whole enc P fn.params.toList s.vars false W args.toList ds gs before) (hbel : Below W.heap.size W W') :
    s.post enc P fn false true false false W args (.bool true) W' := by
  have hW0 := hW
  have hlt := fun x hx => hW.lt (p := x) hx
  obtain ⟨p, q, hA, hV, rfl, hfz, hnd⟩ := hW
  have hg : gs = [] ∧ q = [] := by
    rw [hv] at hV
    exact trodVars_none hV
  obtain ⟨rfl, rfl⟩ := hg
  simp only [List.append_nil] at hW0 hlt
  refine ⟨ds, [], p, [], p, [], hW0, ?_, ?_, ?_, ?_, fun h => by cases h⟩
  · rw [hspec, hrt]
    exact trodAll_cons_mk (shut_bool hb true) trodAll_mk0
  · rw [hspec]
    refine trodAll_stays hl hbel (fun t h => ?_) hA (fun x hx => ⟨hlt x hx, by simpa using hlt x hx⟩)
    have := List.all_eq_true.1 ht t h
    simpa using this
  · rw [hspec, hv]
    rfl
  · exact hbel.frame _
end

section
variable {H : Type} {enc : TypeId × Value → H} {P : Program} {w : World} {base : Nat} {spare : Nat → Bool} {held : Bool}
/-- An argument that is a slice of structs whose fields are one cell each: its address, and for each element its cells, each with its own reading. -/
theorem rows_of_slice {t e : TypeId} {fs : Array Field} {v : Value} {d : DataW H} {ps : List MemPlace} {r : Reach} {b0 : Nat} (ht : P.underlying t = some (.slice e)) (he : P.underlying e = some (.struct fs))
    (hone : oneCellFields P fs = true) (hC : P.cellsOf e = fs.size) (hok : Value.okWide P w r b0 t v) (h : DataW.Trod enc P w base spare held t v d ps) :
    ∃ (A : Option Addr) (n c : Nat), v = .slice A n c ∧ n ≤ c ∧ c ≤ maxLen ∧ (∀ i, i < n → ∃ a, A = some a ∧ ∃ vs : List Value, vs.length = fs.size ∧ (∀ (j : Nat) (u : Value), vs[j]? = some u → w.cell? (a.add (i * fs.size + j)) = some u) ∧
      ∀ (j : Nat) (f : Field), fs[j]? = some f → ∃ (u : Value) (y : DataW H × List MemPlace) (k : Nat), vs[j]? = some u ∧ DataW.trod enc P w base spare held k f.type [u] = some y) := by
  obtain ⟨a0, len, cap, rfl⟩ := okWide_slice ht hok
  obtain ⟨fuel, hf⟩ := h
  rcases open_slice ht hf with ⟨h0, _⟩ | ⟨a, len', cap', m, k, D, Pl, hcs, hb, hl, hm, hmm, hx, hi⟩
  · simp only [Value.cells, List.cons.injEq, and_true] at h0
    injection h0 with h1 h2 h3
    subst h1 h2 h3
    exact ⟨_, _, _, rfl, Nat.le_refl _, by simp [maxLen], fun i hi => by omega⟩
  · simp only [Value.cells, List.cons.injEq, and_true] at hcs
    injection hcs with h1 h2 h3
    subst h1 h2 h3
    refine ⟨_, _, _, rfl, hl, hm, fun i hin => ⟨a, rfl, ?_⟩⟩
    have hin' : i < m := by rw [hmm]; split <;> omega
    obtain ⟨cs', hc, ht'⟩ := hi i hin'
    rw [hC] at hc
    obtain ⟨ys, n', _, _, hlen, hyl, hfld⟩ := DataW.trod_struct he ht'
    obtain ⟨_, hcl, hat⟩ := World.cells?_some hc
    refine ⟨cs', by omega, fun j u hu => ?_, fun j f hj => ?_⟩
    · have hjl : j < fs.size := by have := (List.getElem?_eq_some_iff.1 hu).1; omega
      rw [← Go.Deep.add_add, hat j hjl]
      exact hu
    · obtain ⟨ho, hk⟩ := hone_of hone j f hj
      have hjl : j < fs.size := (Array.getElem?_eq_some_iff.1 hj).1
      have hcj : cs'[j]? = some (cs'[j]'(by omega)) := List.getElem?_eq_getElem (by omega)
      have h1 := hfld j f hj
      rw [ho, hk, show (cs'.drop j).take 1 = [cs'[j]'(by omega)] by rw [List.drop_eq_getElem_cons (by omega)]; rfl] at h1
      have hys : ys[j]? = some (ys[j]'(by omega)) := List.getElem?_eq_getElem (by omega)
      exact ⟨_, _, _, hcj, h1.trans hys⟩
end
end Go.Proofs.YtfbeaklplefojaaDoor

namespace Go.Proofs.YtfbeaklplefojaaDoor
open Go.RowKit Go.Deep Go.WideShapes Go.ChangeShapes

/-- Whatever reads at a type is such a thing. -/
def ReadsAs {α : Type} (P : Program) (t : TypeId) (E : Enc α) (good : α → Prop) : Prop :=
  P.cellsOf t = E.s ∧ ∀ {H : Type} {enc : TypeId × Value → H} {w : World} {base : Nat} {spare : Nat → Bool} {held : Bool} {fuel : Nat} {cs : List Value} {x : DataW H × List MemPlace},
    DataW.trod enc P w base spare held fuel t cs = some x → ∃ a, cs = E.c a ∧ good a
theorem pick_list {α : Type} {Q : Nat → α → Prop} : ∀ n, (∀ i, i < n → ∃ a, Q i a) → ∃ L : List α, L.length = n ∧ ∀ i a, L[i]? = some a → Q i a
  | 0, _ => ⟨[], rfl, by simp⟩
  | n + 1, h => by
    obtain ⟨L, hl, hL⟩ := pick_list n (fun i hi => h i (by omega))
    obtain ⟨a, ha⟩ := h n (by omega)
    refine ⟨L ++ [a], by simp [hl], fun i b hb => ?_⟩
    rw [List.getElem?_append] at hb
    split at hb
    · exact hL i b hb
    · rename_i hi
      have hi' : i = n := by
        have := (List.getElem?_eq_some_iff.1 hb).1
        simp at this
        omega
      subst hi'
      simp [hl] at hb
      subst hb
      exact ha
section
variable {H : Type} {enc : TypeId × Value → H} {P : Program} {w : World} {base : Nat} {spare : Nat → Bool} {held : Bool}
theorem rd_arg {α : Type} {E : Enc α} {good : α → Prop} {t e : TypeId} {v : Value} {d : DataW H} {ps : List MemPlace} {r : Reach} {b0 : Nat} (ht : P.underlying t = some (.slice e)) (hr : ReadsAs P e E good)
    (hok : Value.okWide P w r b0 t v) (h : DataW.Trod enc P w base spare held t v d ps) :
    ∃ (L : List α) (A : Option Addr) (c : Nat), v = .slice A L.length c ∧ L.length ≤ c ∧ c ≤ maxLen ∧ Rd E w v L ∧ ∀ a ∈ L, good a := by
  obtain ⟨a0, len, cap, rfl⟩ := okWide_slice ht hok
  obtain ⟨fuel, hf⟩ := h
  rcases open_slice ht hf with ⟨h0, _⟩ | ⟨a, len', cap', m, k, D, Pl, hcs, hb, hl, hm, hmm, hx, hi⟩
  · simp only [Value.cells, List.cons.injEq, and_true] at h0
    injection h0 with h1 h2 h3
    subst h1 h2 h3
    exact ⟨[], _, _, rfl, Nat.le_refl _, by simp [maxLen], Rd.nil E w 0, by simp⟩
  · simp only [Value.cells, List.cons.injEq, and_true] at hcs
    injection hcs with h1 h2 h3
    subst h1 h2 h3
    obtain ⟨L, hL, hQ⟩ := pick_list (Q := fun i (x : α) => good x ∧ ∀ j u, (E.c x)[j]? = some u → w.cell? (a.add (i * E.s + j)) = some u) len (fun i hil => by
      have him : i < m := by rw [hmm]; split <;> omega
      obtain ⟨cs', hc, ht'⟩ := hi i him
      obtain ⟨x, rfl, hg⟩ := hr.2 ht'
      rw [hr.1] at hc
      obtain ⟨_, hcl, hat⟩ := World.cells?_some hc
      refine ⟨x, hg, fun j u hu => ?_⟩
      have hj : j < E.s := by have := (List.getElem?_eq_some_iff.1 hu).1; rwa [E.len] at this
      rw [← Go.Deep.add_add, hat j hj]
      exact hu)
    subst hL
    refine ⟨L, some a, cap, rfl, hl, hm, ⟨flat_len, some a, cap, rfl, fun j u hj => ?_⟩, fun x hx => ?_⟩
    · have hjl := (List.getElem?_eq_some_iff.1 hj).1
      rw [flat_len] at hjl
      have hk : j / E.s < L.length := Nat.div_lt_of_lt_mul (by rw [Nat.mul_comm]; exact hjl)
      have hr' : j % E.s < E.s := Nat.mod_lt _ E.pos
      obtain ⟨x, hx⟩ : ∃ x, L[j / E.s]? = some x := ⟨_, List.getElem?_eq_getElem hk⟩
      have he : j / E.s * E.s + j % E.s = j := by rw [Nat.mul_comm]; exact Nat.div_add_mod j E.s
      have hg := flat_get (E := E) hx hr'
      rw [he, hj] at hg
      have hc := (hQ _ x hx).2 _ u hg.symm
      rw [he] at hc
      refine ⟨a, rfl, ?_, hc⟩
      have := World.block_lt_of_cell? _ _ hc
      rwa [block_add] at this
    · obtain ⟨i, hi', rfl⟩ := List.getElem_of_mem hx
      exact (hQ i _ (List.getElem?_eq_getElem hi')).1
end
/-- An integer; two; in whatever kinds. -/
def encI (q : IntKind) : Enc Int := ⟨fun a => [.int q a], 1, fun _ => rfl, by intro a u hu; simp at hu; subst hu; rfl, by omega⟩
def encII (q q' : IntKind) : Enc (Int × Int) := ⟨fun p => [.int q p.1, .int q' p.2], 2, fun _ => rfl, by intro a u hu; simp at hu; rcases hu with rfl | rfl <;> rfl, by omega⟩
def inK (q : IntKind) (a : Int) : Prop := (Lit.int q a).wf = true
theorem reads_int {P : Program} {t : TypeId} {q : IntKind} (ht : P.underlying t = some (.int q)) (hc : P.cellsOf t = 1) : ReadsAs P t (encI q) (inK q) :=
  ⟨hc, fun h => by
    obtain ⟨y, hy, _, hw⟩ := DataW.trod_int ht h
    exact ⟨y, hy, hw⟩⟩
/-- A struct of two integers. -/
theorem reads_two {P : Program} {t t0 t1 : TypeId} {f0 f1 : Field} {q q' : IntKind} (ht : P.underlying t = some (.struct #[f0, f1])) (hc : P.cellsOf t = 2) (o0 : f0.offset = 0) (o1 : f1.offset = 1) (c0 : P.cellsOf f0.type = 1) (c1 : P.cellsOf f1.type = 1)
    (h0 : P.underlying f0.type = some (.int q)) (h1 : P.underlying f1.type = some (.int q')) : ReadsAs P t (encII q q') (fun p => inK q p.1 ∧ inK q' p.2) :=
  ⟨hc, fun {H enc w base spare held fuel cs x} h => by
    obtain ⟨xs, n, _, _, hl, hxl, hf⟩ := DataW.trod_struct ht h
    rw [hc] at hl
    match cs, hl with
    | [a, b], _ =>
      have g0 := hf 0 f0 rfl
      have g1 := hf 1 f1 rfl
      have hx0 : xs[0]? = some (xs[0]'(by rw [hxl]; simp)) := List.getElem?_eq_getElem _
      have hx1 : xs[1]? = some (xs[1]'(by rw [hxl]; simp)) := List.getElem?_eq_getElem _
      rw [o0, c0, hx0] at g0
      rw [o1, c1, hx1] at g1
      obtain ⟨y0, e0, _, w0⟩ := DataW.trod_int h0 g0
      obtain ⟨y1, e1, _, w1⟩ := DataW.trod_int h1 g1
      simp at e0 e1
      subst e0 e1
      exact ⟨(y0, y1), rfl, w0, w1⟩⟩
def encI3 (q0 q1 q2 : IntKind) : Enc (Int × Int × Int) := ⟨fun p => [.int q0 p.1, .int q1 p.2.1, .int q2 p.2.2], 3, fun _ => rfl, by intro a u hu; simp at hu; rcases hu with rfl | rfl | rfl <;> rfl, by omega⟩
theorem reads_3 {P : Program} {t : TypeId} {f0 f1 f2 : Field} {q0 q1 q2 : IntKind} (ht : P.underlying t = some (.struct #[f0, f1, f2])) (hc : P.cellsOf t = 3) (o0 : f0.offset = 0) (o1 : f1.offset = 1) (o2 : f2.offset = 2) (c0 : P.cellsOf f0.type = 1) (c1 : P.cellsOf f1.type = 1) (c2 : P.cellsOf f2.type = 1)
    (h0 : P.underlying f0.type = some (.int q0)) (h1 : P.underlying f1.type = some (.int q1)) (h2 : P.underlying f2.type = some (.int q2)) : ReadsAs P t (encI3 q0 q1 q2) (fun p => inK q0 p.1 ∧ inK q1 p.2.1 ∧ inK q2 p.2.2) :=
  ⟨hc, fun {H enc w base spare held fuel cs x} h => by
    obtain ⟨xs, n, _, _, hl, hxl, hf⟩ := DataW.trod_struct ht h
    rw [hc] at hl
    match cs, hl with
    | [a0, a1, a2], _ =>
      have g0 := hf 0 f0 rfl
      have hx0 : xs[0]? = some (xs[0]'(by rw [hxl]; simp)) := List.getElem?_eq_getElem _
      rw [o0, c0, hx0] at g0
      obtain ⟨y0, e0, _, w0⟩ := DataW.trod_int h0 g0
      simp at e0
      subst e0
      have g1 := hf 1 f1 rfl
      have hx1 : xs[1]? = some (xs[1]'(by rw [hxl]; simp)) := List.getElem?_eq_getElem _
      rw [o1, c1, hx1] at g1
      obtain ⟨y1, e1, _, w1⟩ := DataW.trod_int h1 g1
      simp at e1
      subst e1
      have g2 := hf 2 f2 rfl
      have hx2 : xs[2]? = some (xs[2]'(by rw [hxl]; simp)) := List.getElem?_eq_getElem _
      rw [o2, c2, hx2] at g2
      obtain ⟨y2, e2, _, w2⟩ := DataW.trod_int h2 g2
      simp at e2
      subst e2
      exact ⟨(y0, y1, y2), rfl, w0, w1, w2⟩⟩
def encI4 (q0 q1 q2 q3 : IntKind) : Enc (Int × Int × Int × Int) := ⟨fun p => [.int q0 p.1, .int q1 p.2.1, .int q2 p.2.2.1, .int q3 p.2.2.2], 4, fun _ => rfl, by intro a u hu; simp at hu; rcases hu with rfl | rfl | rfl | rfl <;> rfl, by omega⟩
theorem reads_4 {P : Program} {t : TypeId} {f0 f1 f2 f3 : Field} {q0 q1 q2 q3 : IntKind} (ht : P.underlying t = some (.struct #[f0, f1, f2, f3])) (hc : P.cellsOf t = 4) (o0 : f0.offset = 0) (o1 : f1.offset = 1) (o2 : f2.offset = 2) (o3 : f3.offset = 3) (c0 : P.cellsOf f0.type = 1) (c1 : P.cellsOf f1.type = 1) (c2 : P.cellsOf f2.type = 1) (c3 : P.cellsOf f3.type = 1)
    (h0 : P.underlying f0.type = some (.int q0)) (h1 : P.underlying f1.type = some (.int q1)) (h2 : P.underlying f2.type = some (.int q2)) (h3 : P.underlying f3.type = some (.int q3)) : ReadsAs P t (encI4 q0 q1 q2 q3) (fun p => inK q0 p.1 ∧ inK q1 p.2.1 ∧ inK q2 p.2.2.1 ∧ inK q3 p.2.2.2) :=
  ⟨hc, fun {H enc w base spare held fuel cs x} h => by
    obtain ⟨xs, n, _, _, hl, hxl, hf⟩ := DataW.trod_struct ht h
    rw [hc] at hl
    match cs, hl with
    | [a0, a1, a2, a3], _ =>
      have g0 := hf 0 f0 rfl
      have hx0 : xs[0]? = some (xs[0]'(by rw [hxl]; simp)) := List.getElem?_eq_getElem _
      rw [o0, c0, hx0] at g0
      obtain ⟨y0, e0, _, w0⟩ := DataW.trod_int h0 g0
      simp at e0
      subst e0
      have g1 := hf 1 f1 rfl
      have hx1 : xs[1]? = some (xs[1]'(by rw [hxl]; simp)) := List.getElem?_eq_getElem _
      rw [o1, c1, hx1] at g1
      obtain ⟨y1, e1, _, w1⟩ := DataW.trod_int h1 g1
      simp at e1
      subst e1
      have g2 := hf 2 f2 rfl
      have hx2 : xs[2]? = some (xs[2]'(by rw [hxl]; simp)) := List.getElem?_eq_getElem _
      rw [o2, c2, hx2] at g2
      obtain ⟨y2, e2, _, w2⟩ := DataW.trod_int h2 g2
      simp at e2
      subst e2
      have g3 := hf 3 f3 rfl
      have hx3 : xs[3]? = some (xs[3]'(by rw [hxl]; simp)) := List.getElem?_eq_getElem _
      rw [o3, c3, hx3] at g3
      obtain ⟨y3, e3, _, w3⟩ := DataW.trod_int h3 g3
      simp at e3
      subst e3
      exact ⟨(y0, y1, y2, y3), rfl, w0, w1, w2, w3⟩⟩
end Go.Proofs.YtfbeaklplefojaaDoor

namespace Go.Proofs.YtfbeaklplefojaaDoor
open Go.RowKit Go.Extern.Stop Go.Stop Go.Extern

/-- The model's entry for a reflectlite type's Comparable. -/
def cmpEntry : Array Value → Sem Value := Extern.ReflectliteType.method fun t => do Extern.Rtype.noPackHeld "Comparable" t; pure (.bool (← typeInfo t).comparable)
theorem errnoTypeOf (v : Value) (w : World) : (Extern.ReflectliteType.typeOf #[.iface 39 v]).run Tryd.prog w = .ok (.iface 102 (.agg #[.pointer (some ⟨1, 39, none⟩)])) w := by kernel_rfl
theorem errnoComparable (w : World) : (cmpEntry #[.agg #[.pointer (some ⟨1, 39, none⟩)]]).run Tryd.prog w = .ok (.bool true) w := by kernel_rfl
theorem errnoComp : (Tryd.prog.info? 39).map (·.comparable) = some true := by kernel_rfl
theorem errnoNoIs (v : Value) (xT : TypeId) (w : World) : (Instr.typeAssert (.iface 39 v) xT 114 true).run Tryd.prog w = .ok (.tuple #[.nilIface, .bool false]) w := run_typeAssert_lacksB Tryd.underlying114 (by kernel_rfl) (by kernel_rfl) v xT w
theorem errnoNoUnwrap (v : Value) (xT : TypeId) (w : World) : (Instr.typeAssert (.iface 39 v) xT 109 true).run Tryd.prog w = .ok (.tuple #[.nilIface, .bool false]) w := run_typeAssert_lacksB Tryd.underlying109 (by kernel_rfl) (by kernel_rfl) v xT w
theorem errnoNoUnwraps (v : Value) (xT : TypeId) (w : World) : (Instr.typeAssert (.iface 39 v) xT 111 true).run Tryd.prog w = .ok (.tuple #[.nilIface, .bool false]) w := run_typeAssert_lacksB Tryd.underlying111 (by kernel_rfl) (by kernel_rfl) v xT w
theorem faultNoIs (v : Value) (xT : TypeId) (w : World) : (Instr.typeAssert (.iface 48 v) xT 114 true).run Tryd.prog w = .ok (.tuple #[.nilIface, .bool false]) w := run_typeAssert_lacksB Tryd.underlying114 (by kernel_rfl) (by kernel_rfl) v xT w
theorem faultHasUnwrap (v : Value) (xT : TypeId) (w : World) : (Instr.typeAssert (.iface 48 v) xT 109 true).run Tryd.prog w = .ok (.tuple #[.iface 48 v, .bool true]) w := run_typeAssert_hasB Tryd.underlying109 (by kernel_rfl) v xT w

set_option maxHeartbeats 1000000 in
/-- errors.Is of two numbers. -/
theorem is_errno (a b : Int) (w : World) :
    Calls Tryd.prog 16 #[.iface 39 (.int .i64 a), .iface 39 (.int .i64 b)] w fun e w' => e = .returned (.bool (a == b)) ∧ w = w' := by
  obtain ⟨i, hi, hcmp⟩ := Option.map_eq_some_iff.1 errnoComp
  have h8 := @run_callFunc_extern Tryd.prog 28 _ Extern.ReflectliteType.typeOf Tryd.func28 (by kernel_rfl) (by kernel_rfl) (by kernel_rfl) (by kernel_rfl)
  have h32 := @run_callFunc_extern Tryd.prog 109 _ cmpEntry Tryd.func109 (by kernel_rfl) (by kernel_rfl) (by kernel_rfl) (by kernel_rfl)
  have tT := errnoTypeOf
  have cT := errnoComparable
  have heq := run_eql_iface_int (P := Tryd.prog) w a b Tryd.underlying28 Tryd.underlying39 hi hcmp
  have n1 := errnoNoIs
  have n2 := errnoNoUnwrap
  have n3 := errnoNoUnwraps
  by_cases hab : a = b
  · subst hab
    have hb : (a == a) = true := by simp
    go_enter Tryd.func16, Tryd.ntmps16
    go_wp2
    refine wp_loop_rounds 1 ?_
    rw [rounds_succ]
    go_wp2
    go_ret
    exact ⟨by rw [hb]; rfl, rfl⟩
  · have hb : (a == b) = false := by simpa using hab
    clear hab
    go_enter Tryd.func16, Tryd.ntmps16
    go_wp2
    refine wp_loop_rounds 1 ?_
    rw [rounds_succ]
    go_wp2
    go_ret
    exact ⟨by rw [hb]; rfl, rfl⟩

set_option maxHeartbeats 1000000 in
/-- errors.Is of a place that wraps a number, and a number. -/
theorem is_fault (g : Nat) (a b : Int) (w : World) (hc : w.cell? ⟨g, 1, none⟩ = some (.int .i64 a)) :
    Calls Tryd.prog 16 #[.iface 48 (.pointer (some ⟨g, 0, none⟩)), .iface 39 (.int .i64 b)] w fun e w' => e = .returned (.bool (a == b)) ∧ w = w' := by
  obtain ⟨i, hi, hcmp⟩ := Option.map_eq_some_iff.1 errnoComp
  have h8 := @run_callFunc_extern Tryd.prog 28 _ Extern.ReflectliteType.typeOf Tryd.func28 (by kernel_rfl) (by kernel_rfl) (by kernel_rfl) (by kernel_rfl)
  have h32 := @run_callFunc_extern Tryd.prog 109 _ cmpEntry Tryd.func109 (by kernel_rfl) (by kernel_rfl) (by kernel_rfl) (by kernel_rfl)
  have tT := errnoTypeOf
  have cT := errnoComparable
  have heq := run_eql_iface_int (P := Tryd.prog) w a b Tryd.underlying28 Tryd.underlying39 hi hcmp
  have hty := run_eql_iface_types (P := Tryd.prog) 48 39 (.pointer (some ⟨g, 0, none⟩)) (.int .i64 b) Tryd.underlying28 (by decide) w
  have n1 := errnoNoIs
  have n2 := errnoNoUnwrap
  have n3 := errnoNoUnwraps
  have m1 := faultNoIs
  have m2 := faultHasUnwrap
  by_cases hab : a = b
  · subst hab
    have hb : (a == a) = true := by simp
    go_enter Tryd.func16, Tryd.ntmps16
    go_wp2
    refine wp_loop_rounds 2 ?_
    rw [rounds_succ]
    go_wp2
    rw [rounds_succ]
    go_wp2
    go_ret
    exact ⟨by rw [hb]; rfl, rfl⟩
  · have hb : (a == b) = false := by simpa using hab
    clear hab
    go_enter Tryd.func16, Tryd.ntmps16
    go_wp2
    refine wp_loop_rounds 2 ?_
    rw [rounds_succ]
    go_wp2
    rw [rounds_succ]
    go_wp2
    go_ret
    exact ⟨by rw [hb]; rfl, rfl⟩
end Go.Proofs.YtfbeaklplefojaaDoor

namespace Go.Proofs.YtfbeaklplefojaaDoor
open Go.RowKit

theorem no_nil (w : World) : Calls Tryd.prog 7 #[.nilIface] w fun e w' => e = .returned (.int .i64 0) ∧ w = w' := by
  go_enter Tryd.func7, Tryd.ntmps7
  go_wp2_with fail
  go_ret
  exact ⟨rfl, rfl⟩

set_option maxHeartbeats 400000 in
theorem no_errno (k : Int) (h1 : 1 ≤ k) (h2 : k ≤ 17) (w : World) : Calls Tryd.prog 7 #[.iface 39 (.int .i64 k)] w fun e w' => e = .returned (.int .i64 k) ∧ w = w' := by
  go_enter Tryd.func7, Tryd.ntmps7
  go_wp2_with fail
  go_loop [3] (fun n => ∃ j : Int, 1 ≤ j ∧ j ≤ k ∧ n = .int .i64 j) (fun n => (17 - intOf n).toNat)
  case atStart => exact ⟨1, by omega, by omega, rfl⟩
  case round =>
    obtain ⟨j, hj1, hj2, rfl⟩ := hrel
    by_cases hjk : j = k
    · subst hjk
      go_wp2_with ((go_at_call 16); (refine (is_errno _ _ _).mono ?_); (rintro e w' ⟨rfl, rfl⟩); (simp only [beq_self_eq_true]))
      go_ret
      exact ⟨rfl, rfl⟩
    · have hne : (k == j) = false := by simp; omega
      have hlt : j < k := by omega
      clear hjk hj2
      go_wp2_with ((go_at_call 16); (refine (is_errno _ _ _).mono ?_); (rintro e w' ⟨rfl, rfl⟩); (simp only [hne]))
      go_round
      case rel => exact ⟨j + 1, by omega, by omega, rfl⟩
      case measure => simp [intOf]; omega

set_option maxHeartbeats 400000 in
theorem no_fault (g : Nat) (k : Int) (h1 : 1 ≤ k) (h2 : k ≤ 17) (w : World) (hc : w.cell? ⟨g, 1, none⟩ = some (.int .i64 k)) : Calls Tryd.prog 7 #[.iface 48 (.pointer (some ⟨g, 0, none⟩))] w fun e w' => e = .returned (.int .i64 k) ∧ w = w' := by
  go_enter Tryd.func7, Tryd.ntmps7
  go_wp2_with fail
  go_loop [3] (fun n => ∃ j : Int, 1 ≤ j ∧ j ≤ k ∧ n = .int .i64 j) (fun n => (17 - intOf n).toNat)
  case atStart => exact ⟨1, by omega, by omega, rfl⟩
  case round =>
    obtain ⟨j, hj1, hj2, rfl⟩ := hrel
    by_cases hjk : j = k
    · subst hjk
      go_wp2_with ((go_at_call 16); (refine (is_fault _ _ _ _ hc).mono ?_); (rintro e w' ⟨rfl, rfl⟩); (simp only [beq_self_eq_true]))
      go_ret
      exact ⟨rfl, rfl⟩
    · have hne : (k == j) = false := by simp; omega
      have hlt : j < k := by omega
      clear hjk hj2
      go_wp2_with ((go_at_call 16); (refine (is_fault _ _ _ _ hc).mono ?_); (rintro e w' ⟨rfl, rfl⟩); (simp only [hne]))
      go_round
      case rel => exact ⟨j + 1, by omega, by omega, rfl⟩
      case measure => simp [intOf]; omega
end Go.Proofs.YtfbeaklplefojaaDoor

namespace Go.Proofs.YtfbeaklplefojaaDoor
open Go.RowKit

/-- An error's value: its number, its place. -/
def ErrV (w : World) (v : Value) (no at_ : Int) : Prop :=
  (v = .nilIface ∧ no = 0 ∧ at_ = 0) ∨ (v = .iface 39 (.int .i64 no) ∧ (1 ≤ no ∧ no ≤ 17) ∧ at_ = 0) ∨
  ∃ g, v = .iface 48 (.pointer (some ⟨g, 0, none⟩)) ∧ Blk w g 52 #[.int .i64 at_, .int .i64 no] ∧ 1 ≤ no ∧ no ≤ 17
theorem ErrV.nil (w : World) : ErrV w .nilIface 0 0 := .inl ⟨rfl, rfl, rfl⟩
theorem ErrV.errno (w : World) (k : Int) (h1 : 1 ≤ k) (h2 : k ≤ 17) : ErrV w (.iface 39 (.int .i64 k)) k 0 := .inr (.inl ⟨rfl, ⟨h1, h2⟩, rfl⟩)
theorem ErrV.fault {w : World} {g : Nat} {no at_ : Int} (h : Blk w g 52 #[.int .i64 at_, .int .i64 no]) (h1 : 1 ≤ no) (h2 : no ≤ 17) : ErrV w (.iface 48 (.pointer (some ⟨g, 0, none⟩))) no at_ := .inr (.inr ⟨g, rfl, h, h1, h2⟩)
theorem ErrV.upd {w w' : World} {v : Value} {no at_ : Int} (h : ErrV w v no at_) (hu : Upd [] w w') : ErrV w' v no at_ := by
  rcases h with h | h | ⟨g, h1, h2, h3⟩
  · exact .inl h
  · exact .inr (.inl h)
  · exact .inr (.inr ⟨g, h1, h2.upd hu (by simp), h3⟩)
theorem no_err {w : World} {v : Value} {no at_ : Int} (h : ErrV w v no at_) : Calls Tryd.prog 7 #[v] w fun e w' => e = .returned (.int .i64 no) ∧ w = w' := by
  rcases h with ⟨rfl, rfl, _⟩ | ⟨rfl, ⟨h1, h2⟩, _⟩ | ⟨g, rfl, hb, h1, h2⟩
  · exact no_nil w
  · exact no_errno no h1 h2 w
  · exact no_fault g no h1 h2 w (hb.cell 1)
end Go.Proofs.YtfbeaklplefojaaDoor

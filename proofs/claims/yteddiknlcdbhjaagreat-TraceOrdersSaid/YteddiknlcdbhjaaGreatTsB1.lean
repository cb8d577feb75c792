/-
  Maps whose keys are integers: what they hold, what a look-up, a store, a delete, an assignment's two halves make of them. No program in sight.
  Going over a map, whatever its keys: each entry comes once, in whatever order. No program in sight.
  Which blocks may have turned, said by a predicate. No program in sight.
  Lists of things that have so many cells each, laid flat; what a slice of them reads as, owns; which blocks a thing's turns may turn. No program in sight.
  Which transactions stand ahead of which, plainly: no Go in sight.
  The document's graph: its edges, in order, each once. No Go in sight.
  Orders and rings of transactions, plainly: no Go in sight.
-/
import Derived.Test.YteddiknlcdbhjaaGreatTsB0
import Derived.MapKept
import Derived.Maps.Own
import Derived.Maps.RangeWalk
set_option linter.unusedVariables false
namespace Go.Proofs.YteddiknlcdbhjaaGreat
open Go Go.RowKit Go.MapKept

abbrev IEnt := Int × Value × Nat
def ent (q : IntKind) (p : IEnt) : MapEntry := { key := .int q p.1, val := p.2.1, born := p.2.2 }
structure IRaw (w : World) (q : IntKind) (b : Nat) (L : List IEnt) (c : Nat) : Prop where
  blk : w.heap[b]? = some (.map (L.map (ent q)).toArray c)
  keys : (L.map (·.1)).Nodup
  stamps : (L.map (·.2.2)).Nodup
  lt : ∀ p ∈ L, p.2.2 < c
def findI (L : List IEnt) (k : Int) : Option Value := (L.find? (fun p => p.1 == k)).map (·.2.1)
/-- Block b is a map with these values, n in all. -/
def IMap (w : World) (q : IntKind) (b : Nat) (f : Int → Option Value) (n : Nat) : Prop := ∃ L c, IRaw w q b L c ∧ (∀ k, f k = findI L k) ∧ L.length = n

section
variable {P : Program} {w w' : World} {q : IntKind} {b : Nat} {L : List IEnt} {c : Nat} {f : Int → Option Value} {n : Nat}
theorem IRaw.lt' (h : IRaw w q b L c) : b < w.heap.size := by
  rcases Nat.lt_or_ge b w.heap.size with hl | hg
  · exact hl
  · have := h.blk
    rw [Array.getElem?_eq_none hg] at this
    cases this
theorem IMap.lt (h : IMap w q b f n) : b < w.heap.size := by
  obtain ⟨L, c, h, _⟩ := h
  exact h.lt'
theorem IMap.upd {S : List Nat} (h : IMap w q b f n) (hu : Upd S w w') (hb : b ∉ S) : IMap w' q b f n := by
  obtain ⟨L, c, h, h1, h2⟩ := h
  exact ⟨L, c, ⟨(hu.keep b h.lt' hb).trans h.blk, h.keys, h.stamps, h.lt⟩, h1, h2⟩
theorem IMap.drew (h : IMap w q b f n) : IMap w.drew q b f n := by
  obtain ⟨L, c, h, h1, h2⟩ := h
  exact ⟨L, c, ⟨h.blk, h.keys, h.stamps, h.lt⟩, h1, h2⟩
theorem IMap.new (w : World) (q : IntKind) : IMap (w.alloc (.map #[] 0)) q w.heap.size (fun _ => none) 0 :=
  ⟨[], 0, ⟨by simpa using heap_alloc_new w (.map #[] 0), by simp, by simp, by simp⟩, fun _ => rfl, rfl⟩
theorem IMap.congr {g : Int → Option Value} (h : IMap w q b f n) (hg : ∀ k, f k = g k) : IMap w q b g n := by
  obtain ⟨L, c, h, h1, h2⟩ := h
  exact ⟨L, c, h, fun k => (hg k).symm.trans (h1 k), h2⟩

theorem findNow_ent (k : Int) : ∀ (L : List IEnt) (i : Nat), Instr.findNow (.int q) (.int q k) (L.map (ent q)) i = some ((L.findIdx? (fun p => p.1 == k)).map (fun j => (i + j, (L.getD j (0, undef, 0)).2.1)))
  | [], i => rfl
  | p :: L, i => by
    rw [List.map_cons]
    unfold Instr.findNow
    have e : Instr.sameNow (.int q) (.int q k) (ent q p).key = some (k == p.1) := by simp [Instr.sameNow, ent]
    rw [e]
    by_cases h : p.1 = k
    · subst h
      simp [ent, List.findIdx?_cons]
    · have h1 : (k == p.1) = false := by simpa using fun e => h e.symm
      have h2 : (p.1 == k) = false := by simpa using h
      rw [h1]
      simp only
      rw [findNow_ent k L (i + 1), List.findIdx?_cons, h2]
      cases L.findIdx? (fun p => p.1 == k) with
      | none => rfl
      | some j => simp; omega
theorem findI_idx {k : Int} : findI L k = (L.findIdx? (fun p => p.1 == k)).map (fun j => (L.getD j (0, undef, 0)).2.1) := by
  induction L with
  | nil => rfl
  | cons p L ih =>
    unfold findI at ih ⊢
    rw [List.find?_cons, List.findIdx?_cons]
    cases h : p.1 == k with
    | true => simp
    | false =>
      simp only [Bool.false_eq_true, if_false]
      rw [ih]
      cases L.findIdx? (fun p => p.1 == k) <;> simp
theorem run_findKey_int {kt : TypeId} (hk : P.underlying kt = some (.int q)) (k : Int) (L : List IEnt) (W : World) : (Instr.findKey kt (.int q k) (L.map (ent q))).run P W = .ok ((L.findIdx? (fun p => p.1 == k)).map (fun j => (j, (L.getD j (0, undef, 0)).2.1))) W := by
  unfold Instr.findKey
  simp only [Sem.run_bind, run_underlying hk, Result.andThen]
  rw [findNow_ent]
  simp
theorem run_getObj_blk {b : Nat} {es : Array MapEntry} {c : Nat} (h : w.heap[b]? = some (.map es c)) : (getObj b).run P w = .ok (.map es c) w := by
  simp [getObj, Sem.run, h]
theorem run_lookup_int {mt kt et : TypeId} {z : Value} (hm : P.underlying mt = some (.map kt et)) (hk : P.underlying kt = some (.int q)) (hz : (zeroValue et).run P w = .ok z w) (h : IMap w q b f n) (k : Int) :
    (Instr.lookup mt (.map (some b)) (.int q k) true).run P w = .ok (.tuple #[(f k).getD z, .bool (f k).isSome]) w := by
  obtain ⟨L, c, h, hf, _⟩ := h
  rw [hf, findI_idx]
  unfold Instr.lookup
  simp only [Sem.run_bind, run_underlying hm, Result.andThen, run_getObj_blk h.blk, Sem.run_pure, run_checkKey hk (show IsKey (.int q) (.int q k) by simp [IsKey])]
  have e : (Instr.findKey kt (.int q k) (L.map (ent q)).toArray.toList).run P w = _ := run_findKey_int hk k L w
  rw [e]
  simp only
  cases L.findIdx? (fun p => p.1 == k) with
  | none => simp [Sem.run_bind, hz, Result.andThen]
  | some j => simp [Result.andThen]
theorem run_lookup_int' {mt kt et : TypeId} {z : Value} (hm : P.underlying mt = some (.map kt et)) (hk : P.underlying kt = some (.int q)) (hz : (zeroValue et).run P w = .ok z w) (h : IMap w q b f n) (k : Int) :
    (Instr.lookup mt (.map (some b)) (.int q k) false).run P w = .ok ((f k).getD z) w := by
  obtain ⟨L, c, h, hf, _⟩ := h
  rw [hf, findI_idx]
  unfold Instr.lookup
  simp only [Sem.run_bind, run_underlying hm, Result.andThen, run_getObj_blk h.blk, Sem.run_pure, run_checkKey hk (show IsKey (.int q) (.int q k) by simp [IsKey])]
  have e : (Instr.findKey kt (.int q k) (L.map (ent q)).toArray.toList).run P w = _ := run_findKey_int hk k L w
  rw [e]
  simp only
  cases L.findIdx? (fun p => p.1 == k) with
  | none => simp [Sem.run_bind, hz, Result.andThen]
  | some j => simp [Result.andThen]

def putI (f : Int → Option Value) (k : Int) (v : Value) : Int → Option Value := fun x => if x = k then some v else f x
def delI (f : Int → Option Value) (k : Int) : Int → Option Value := fun x => if x = k then none else f x
theorem upd_setBlk {b : Nat} (o : Obj) (hb : b < w.heap.size) : Upd [b] w { w with heap := w.heap.setIfInBounds b o } :=
  ⟨rfl, rfl, rfl, by simp, fun k hk hn => by
    have : b ≠ k := fun e => hn (by simp [e])
    simp [this]⟩
theorem find_some_mem {k : Int} {j : Nat} (h : L.findIdx? (fun p => p.1 == k) = some j) : ∃ hj : j < L.length, L[j].1 = k := by
  rw [List.findIdx?_eq_some_iff_getElem] at h
  obtain ⟨hj, h1, _⟩ := h
  exact ⟨hj, by simpa using h1⟩
theorem find_none {k : Int} (h : L.findIdx? (fun p => p.1 == k) = none) : ∀ p ∈ L, p.1 ≠ k := by
  rw [List.findIdx?_eq_none_iff] at h
  intro p hp
  simpa using h p hp
theorem findI_none {k : Int} (h : ∀ p ∈ L, p.1 ≠ k) : findI L k = none := by
  unfold findI
  rw [List.find?_eq_none.2 (fun p hp => by simpa using h p hp)]
  rfl
/-- What a list of entries with unlike keys has. -/
theorem findI_mem (hn : (L.map (·.1)).Nodup) {p : IEnt} (hp : p ∈ L) : findI L p.1 = some p.2.1 := by
  induction L with
  | nil => simp at hp
  | cons a L ih =>
    rw [List.map_cons, List.nodup_cons] at hn
    unfold findI at ih ⊢
    rw [List.find?_cons]
    rcases List.mem_cons.1 hp with rfl | hp
    · simp
    · have : (a.1 == p.1) = false := by
        have : a.1 ≠ p.1 := fun e => hn.1 (e ▸ List.mem_map.2 ⟨p, hp, rfl⟩)
        simpa using this
      rw [this]
      exact ih hn.2 hp
theorem findI_append {M : List IEnt} (k : Int) : findI (L ++ M) k = (findI L k).or (findI M k) := by
  unfold findI
  rw [List.find?_append]
  cases L.find? (fun p => p.1 == k) <;> simp
theorem findI_set {j : Nat} {k : Int} (hn : (L.map (·.1)).Nodup) (hj : j < L.length) (hk : L[j].1 = k) (v : Value) (s : Nat) (x : Int) : findI (L.set j (k, v, s)) x = if x = k then some v else findI L x := by
  induction L generalizing j with
  | nil => simp at hj
  | cons a L ih =>
    rw [List.map_cons, List.nodup_cons] at hn
    cases j with
    | zero =>
      simp only [List.getElem_cons_zero] at hk
      rw [List.set_cons_zero]
      unfold findI
      rw [List.find?_cons, List.find?_cons, hk]
      by_cases h : x = k
      · subst h; simp
      · have : (k == x) = false := by simpa using fun e => h e.symm
        simp only [this]
        rw [if_neg h]
    | succ j =>
      rw [List.set_cons_succ]
      unfold findI at ih ⊢
      rw [List.find?_cons, List.find?_cons]
      by_cases h : a.1 = x
      · subst h
        have : a.1 ≠ k := fun e => hn.1 (by
          have hj' : j < L.length := by simpa using hj
          refine List.mem_map.2 ⟨L[j], List.getElem_mem hj', ?_⟩
          simpa [e] using hk)
        simp [this]
      · have : (a.1 == x) = false := by simpa using h
        rw [this]
        simp only
        exact ih hn.2 (by simpa using hj) (by simpa using hk)
theorem set_same {α : Type} {l : List α} {j : Nat} {x : α} (hj : j < l.length) (h : l[j] = x) : l.set j x = l := by
  subst h
  exact List.set_getElem_self hj
theorem IRaw.set {j : Nat} {k : Int} (h : IRaw w q b L c) (hj : j < L.length) (hk : L[j].1 = k) (v : Value) : IRaw { w with heap := w.heap.setIfInBounds b (.map ((L.set j (k, v, L[j].2.2)).map (ent q)).toArray c) } q b (L.set j (k, v, L[j].2.2)) c := by
  refine ⟨(heap_set h.blk).1, ?_, ?_, ?_⟩
  · rw [List.map_set, set_same (by simpa using hj) (by simpa using hk)]
    exact h.keys
  · rw [List.map_set, set_same (by simpa using hj) (by simp)]
    exact h.stamps
  · intro p hp
    rcases List.mem_or_eq_of_mem_set hp with hp | rfl
    · exact h.lt p hp
    · exact h.lt L[j] (List.getElem_mem hj)
theorem IRaw.push {k : Int} (h : IRaw w q b L c) (hk : ∀ p ∈ L, p.1 ≠ k) (v : Value) : IRaw { w with heap := w.heap.setIfInBounds b (.map ((L ++ [(k, v, c)]).map (ent q)).toArray (c + 1)) } q b (L ++ [(k, v, c)]) (c + 1) := by
  refine ⟨(heap_set h.blk).1, ?_, ?_, ?_⟩
  · rw [List.map_append, List.nodup_append]
    refine ⟨h.keys, by simp, ?_⟩
    intro a ha x hx
    simp at hx
    subst hx
    obtain ⟨p, hp, rfl⟩ := List.mem_map.1 ha
    exact hk p hp
  · rw [List.map_append, List.nodup_append]
    refine ⟨h.stamps, by simp, ?_⟩
    intro a ha x hx
    simp at hx
    subst hx
    obtain ⟨p, hp, rfl⟩ := List.mem_map.1 ha
    have := h.lt p hp
    omega
  · intro p hp
    rcases List.mem_append.1 hp with hp | hp
    · have := h.lt p hp; omega
    · simp at hp; subst hp; simp
theorem modify_ent {j : Nat} {k : Int} (hj : j < L.length) (hk : L[j].1 = k) (g : MapEntry → MapEntry) (v : Value) (hg : g (ent q L[j]) = ent q (k, v, L[j].2.2)) : (L.map (ent q)).toArray.modify j g = ((L.set j (k, v, L[j].2.2)).map (ent q)).toArray := by
  apply Array.ext_getElem?
  intro i
  rw [Array.getElem?_modify]
  simp only [List.getElem?_toArray, List.getElem?_map, List.getElem?_set]
  by_cases h : j = i
  · subst h
    simp [hj, hg]
  · simp [h]
theorem run_keyStays (k : Int) (W : World) : (Instr.keyThatStays (.int q k) (.int q k)).run P W = .ok (.int q k) W := by
  unfold Instr.keyThatStays
  have : Instr.sameBits 10000 (.int q k) (.int q k) = true := by simp [Instr.sameBits]
  rw [if_pos this]
  simp
theorem run_mapUpdate_int {mt kt et : TypeId} (hm : P.underlying mt = some (.map kt et)) (hk : P.underlying kt = some (.int q)) (h : IMap w q b f n) (k : Int) (v : Value) :
    ∃ w', (Instr.mapUpdate mt (.map (some b)) (.int q k) v).run P w = .ok () w' ∧ IMap w' q b (putI f k v) (if (f k).isSome then n else n + 1) ∧ Upd [b] w w' := by
  obtain ⟨L, c, h, hf, hn⟩ := h
  have hfk := hf k
  rw [findI_idx] at hfk
  unfold Instr.mapUpdate
  simp only [Sem.run_bind, run_underlying hm, Result.andThen, run_getObj_blk h.blk, run_checkKey hk (show IsKey (.int q) (.int q k) by simp [IsKey])]
  have e : (Instr.findKey kt (.int q k) (L.map (ent q)).toArray.toList).run P w = _ := run_findKey_int hk k L w
  rw [e]
  simp only
  cases hi : L.findIdx? (fun p => p.1 == k) with
  | none =>
    have hno := find_none hi
    rw [hi] at hfk
    rw [hfk]
    refine ⟨_, by simp only [Option.map_none]; exact run_setObj_map _ h.blk, ⟨L ++ [(k, v, c)], c + 1, ?_, fun x => ?_, by simp [hn]⟩, upd_setBlk _ h.lt'⟩
    · have := h.push hno v
      rw [List.map_append] at this
      rw [List.push_toArray]
      exact this
    · unfold putI
      rw [findI_append, hf]
      by_cases hx : x = k
      · subst hx
        rw [if_pos rfl, findI_none hno]
        simp [findI]
      · rw [if_neg hx]
        have : findI [(k, v, c)] x = none := findI_none (by simp; exact fun e => hx e.symm)
        rw [this]
        simp
  | some j =>
    obtain ⟨hj, hjk⟩ := find_some_mem hi
    rw [hi] at hfk
    have hke : (((L.map (ent q)).toArray[j]?).map (·.key)).getD (.int q k) = .int q k := by
      simp [hj, ent, hjk]
    refine ⟨_, ?_, ⟨L.set j (k, v, L[j].2.2), c, h.set hj hjk v, fun x => ?_, by rw [hfk]; simp [hn]⟩, upd_setBlk _ h.lt'⟩
    · simp only [Option.map_some, Sem.run_bind, Result.andThen, hke, run_keyStays]
      rw [modify_ent hj hjk _ v (by simp [ent])]
      exact run_setObj_map _ h.blk
    · unfold putI
      rw [findI_set h.keys hj hjk, hf]
theorem run_delete_int {mt kt et ty : TypeId} {ats : Array TypeId} (ha : ats[0]? = some mt) (hm : P.underlying mt = some (.map kt et)) (hk : P.underlying kt = some (.int q)) (h : IMap w q b f n) (k : Int) :
    ∃ w', (Builtin.delete_ ats ty #[.map (some b), .int q k]).run P w = .ok (.tuple #[]) w' ∧ IMap w' q b (delI f k) (if (f k).isSome then n - 1 else n) ∧ Upd [b] w w' := by
  obtain ⟨L, c, h, hf, hn⟩ := h
  have hfk := hf k
  rw [findI_idx] at hfk
  unfold Builtin.delete_
  rw [ha]
  simp only [List.getElem?_toArray, List.getElem?_cons_zero, List.getElem?_cons_succ, Sem.run_bind, run_underlying hm, Result.andThen, run_getObj_blk h.blk, run_checkKey hk (show IsKey (.int q) (.int q k) by simp [IsKey])]
  have e : (Instr.findKey kt (.int q k) (L.map (ent q)).toArray.toList).run P w = _ := run_findKey_int hk k L w
  rw [e]
  simp only
  cases hi : L.findIdx? (fun p => p.1 == k) with
  | none =>
    have hno := find_none hi
    rw [hi] at hfk
    rw [hfk]
    refine ⟨_, by simp only [Option.map_none, Sem.run_bind, run_setObj_map _ h.blk, Result.andThen, Sem.run_pure], ⟨L, c, ⟨(heap_set h.blk).1, h.keys, h.stamps, h.lt⟩, fun x => ?_, by simp [hn]⟩, upd_setBlk _ h.lt'⟩
    unfold delI
    by_cases hx : x = k
    · subst hx; rw [if_pos rfl, findI_none hno]
    · rw [if_neg hx, hf]
  | some j =>
    obtain ⟨hj, hjk⟩ := find_some_mem hi
    rw [hi] at hfk
    have e1 : (L.map (ent q)).toArray.eraseIdxIfInBounds j = ((L.eraseIdx j).map (ent q)).toArray := by
      have : (L.map (ent q)).eraseIdx j = (L.eraseIdx j).map (ent q) := by
        rw [List.eraseIdx_eq_take_drop_succ, List.eraseIdx_eq_take_drop_succ, List.map_append, List.map_take, List.map_drop]
      simp [Array.eraseIdxIfInBounds, hj, List.eraseIdx_toArray, this]
    refine ⟨{ w with heap := w.heap.setIfInBounds b (.map ((L.eraseIdx j).map (ent q)).toArray c) }, by simp only [Option.map_some, Sem.run_bind, run_setObj_map _ h.blk, Result.andThen, Sem.run_pure]; rw [e1], ⟨L.eraseIdx j, c, ⟨(heap_set h.blk).1, ?_, ?_, fun p hp => h.lt p (List.mem_of_mem_eraseIdx hp)⟩, fun x => ?_, by rw [hfk, List.length_eraseIdx_of_lt hj, hn]; rfl⟩, upd_setBlk _ h.lt'⟩
    · exact h.keys.sublist ((List.eraseIdx_sublist L j).map _)
    · exact h.stamps.sublist ((List.eraseIdx_sublist L j).map _)
    · unfold delI
      have hL : L = L.take j ++ L[j] :: L.drop (j + 1) := by rw [← List.drop_eq_getElem_cons hj, List.take_append_drop]
      have hE : L.eraseIdx j = L.take j ++ L.drop (j + 1) := List.eraseIdx_eq_take_drop_succ ..
      have hnd := h.keys
      rw [hL, List.map_append, List.map_cons, hjk] at hnd
      rw [List.nodup_append, List.nodup_cons] at hnd
      obtain ⟨_, ⟨n1, _⟩, n3⟩ := hnd
      rw [hf, hE]
      conv => lhs; rw [hL]
      rw [findI_append, findI_append]
      by_cases hx : x = k
      · subst hx
        rw [if_pos rfl, findI_none (L := L.take j) (fun p hp e => n3 _ (List.mem_map.2 ⟨p, hp, rfl⟩) _ (List.mem_cons_self ..) e), findI_none (L := L.drop (j + 1)) (fun p hp e => n1 (List.mem_map.2 ⟨p, hp, e⟩))]
        rfl
      · rw [if_neg hx]
        have : findI (L[j] :: L.drop (j + 1)) x = findI (L.drop (j + 1)) x := by
          unfold findI
          rw [List.find?_cons]
          have : (L[j].1 == x) = false := by rw [hjk]; simpa using fun e => hx e.symm
          rw [this]
        rw [this]
/-- An assignment's first half: the entry is found, or made. -/
theorem run_mapEntry_int {mt kt et : TypeId} {z : Value} (hm : P.underlying mt = some (.map kt et)) (hk : P.underlying kt = some (.int q)) (hz : ∀ w, (zeroValue et).run P w = .ok z w) (h : IMap w q b f n) (k : Int) :
    ∃ (w' : World) (s : Nat), (Instr.mapEntry mt (.map (some b)) (.int q k)).run P w = .ok (.tuple #[(f k).getD z, goInt s]) w' ∧ (∃ L c, IRaw w' q b L c ∧ (∃ v, (k, v, s) ∈ L) ∧ (∀ x, findI L x = if x = k then some ((f k).getD z) else f x) ∧ L.length = if (f k).isSome then n else n + 1) ∧ Upd [b] w w' := by
  obtain ⟨L, c, h, hf, hn⟩ := h
  have hfk := hf k
  rw [findI_idx] at hfk
  unfold Instr.mapEntry
  simp only [Sem.run_bind, run_underlying hm, Result.andThen, run_getObj_blk h.blk, run_checkKey hk (show IsKey (.int q) (.int q k) by simp [IsKey])]
  have e : (Instr.findKey kt (.int q k) (L.map (ent q)).toArray.toList).run P w = _ := run_findKey_int hk k L w
  rw [e]
  simp only
  cases hi : L.findIdx? (fun p => p.1 == k) with
  | none =>
    have hno := find_none hi
    rw [hi] at hfk
    rw [hfk]
    refine ⟨_, c, by simp only [Option.map_none, Sem.run_bind, hz, Result.andThen, run_setObj_map _ h.blk, Sem.run_pure]; rfl, ⟨L ++ [(k, z, c)], c + 1, ?_, ⟨z, by simp⟩, fun x => ?_, by simp [hn]⟩, upd_setBlk _ h.lt'⟩
    · have := h.push hno z
      rw [List.map_append] at this
      rw [List.push_toArray]
      exact this
    · rw [findI_append, ← hf]
      by_cases hx : x = k
      · subst hx
        rw [if_pos rfl, hf, findI_none hno]
        simp [findI]
      · rw [if_neg hx]
        have : findI [(k, z, c)] x = none := findI_none (by simp; exact fun e => hx e.symm)
        rw [this]
        simp
  | some j =>
    obtain ⟨hj, hjk⟩ := find_some_mem hi
    rw [hi] at hfk
    have hke : (((L.map (ent q)).toArray[j]?).map (·.key)).getD (.int q k) = .int q k := by
      simp [hj, ent, hjk]
    have hbo : (((L.map (ent q)).toArray[j]?).map (fun x => (x.born : Int))).getD 0 = (L[j].2.2 : Int) := by
      simp [hj, ent]
    have hgd : L.getD j (0, undef, 0) = L[j] := by simp [List.getD_eq_getElem?_getD, hj]
    refine ⟨_, L[j].2.2, ?_, ⟨L.set j (k, L[j].2.1, L[j].2.2), c, h.set hj hjk L[j].2.1, ⟨L[j].2.1, List.mem_iff_getElem.2 ⟨j, by simpa using hj, by simp⟩⟩, fun x => ?_, by rw [hfk]; simp [hn]⟩, upd_setBlk _ h.lt'⟩
    · simp only [Option.map_some, Sem.run_bind, Result.andThen, hke, run_keyStays]
      rw [modify_ent hj hjk _ L[j].2.1 (by simp [ent]), run_setObj_map _ h.blk]
      simp only [Sem.run_pure, hbo, hfk, hgd, Option.map_some, Option.getD_some]
    · rw [findI_set h.keys hj hjk, ← hf, hfk]
      simp only [Option.map_some, Option.getD_some, hgd]
/-- Its second half. -/
theorem run_entryStore_int {mt : TypeId} {s : Nat} {k : Int} {v0 : Value} (h : IRaw w q b L c) (hs : (k, v0, s) ∈ L) (v : Value) :
    ∃ w', (Instr.entryStore mt (.map (some b)) (goInt s) v).run P w = .ok () w' ∧ IMap w' q b (fun x => if x = k then some v else findI L x) L.length ∧ Upd [b] w w' := by
  obtain ⟨j, hj, hjs⟩ := List.mem_iff_getElem.1 hs
  have hidx : (L.map (ent q)).toArray.findIdx? (fun e => (e.born : Int) == (s : Int)) = some j := by
    rw [List.findIdx?_toArray, List.findIdx?_eq_some_iff_getElem]
    refine ⟨by simpa using hj, by simp [ent, hjs], fun i hi => ?_⟩
    simp only [List.getElem_map, ent]
    have hne : L[i].2.2 ≠ s := by
      intro e
      have := List.pairwise_iff_getElem.1 h.stamps i j (by simp; omega) (by simpa using hj) hi
      simp [e, hjs] at this
    simp
    omega
  refine ⟨{ w with heap := w.heap.setIfInBounds b (.map ((L.set j (k, v, L[j].2.2)).map (ent q)).toArray c) }, ?_, ⟨L.set j (k, v, L[j].2.2), c, h.set hj (by rw [hjs]) v, fun x => ?_, by simp⟩, upd_setBlk _ h.lt'⟩
  · unfold Instr.entryStore
    simp only [Sem.run_bind, Result.andThen, run_getObj_blk h.blk]
    have : (asInt (goInt s)).run P w = .ok (s : Int) w := by simp [asInt, asIntOf, goInt, Result.andThen]
    rw [this]
    simp only
    rw [hidx]
    simp only
    rw [modify_ent hj (by rw [hjs]) _ v (by simp [ent, hjs])]
    exact run_setObj_map _ h.blk
  · rw [findI_set h.keys hj (by rw [hjs])]
end
end Go.Proofs.YteddiknlcdbhjaaGreat

namespace Go.Proofs.YteddiknlcdbhjaaGreat
open Go Go.RowKit Go.MapKept
open Go.ChangeMaps (setBlock)

/-- Block r goes over map b, which has L; rest are still to come. -/
structure KIter {κ : Type} (w : World) (kv : κ → Value) (b r : Nat) (L rest : List (KEnt κ)) : Prop where
  all : ∃ c since seen c0, KRaw w kv b L c ∧ w.heap[r]? = some (.mapIter (some b) since seen c0) ∧ (∀ p ∈ L, p.2.2 < since) ∧ since ≤ c0 ∧ since ≤ c ∧ rest = L.filter (fun p => !seen.contains p.2.2)
theorem KIter.lt {κ : Type} [DecidableEq κ] {w : World} {kv : κ → Value} {b r : Nat} {L rest : List (KEnt κ)} (h : KIter w kv b r L rest) : r < w.heap.size := by
  obtain ⟨_, s, n, c, _, h1, _⟩ := h.all
  rcases Nat.lt_or_ge r w.heap.size with hl | hg
  · exact hl
  · rw [Array.getElem?_eq_none hg] at h1
    cases h1
theorem KIter.map {κ : Type} [DecidableEq κ] {w : World} {kv : κ → Value} {b r : Nat} {L rest : List (KEnt κ)} (h : KIter w kv b r L rest) : KMap w kv b (findK L) L.length := by
  obtain ⟨c, _, _, _, hr, _⟩ := h.all
  exact ⟨L, c, hr, fun _ => rfl, rfl⟩
theorem KIter.upd {κ : Type} [DecidableEq κ] {S : List Nat} {w w' : World} {kv : κ → Value} {b r : Nat} {L rest : List (KEnt κ)} (h : KIter w kv b r L rest) (hu : Upd S w w') (hb : b ∉ S) (hr : r ∉ S) : KIter w' kv b r L rest := by
  obtain ⟨c, s, n, c0, h1, h2, h3⟩ := h.all
  exact ⟨c, s, n, c0, ⟨(hu.keep b h1.lt' hb).trans h1.blk, h1.keys, h1.stamps, h1.lt⟩, (hu.keep r h.lt hr).trans h2, h3⟩
section
variable {P : Program} {κ : Type} [DecidableEq κ] {w : World} {kv : κ → Value} {b r : Nat} {L rest : List (KEnt κ)} {f : κ → Option Value} {n : Nat}
/-- It begins. -/
theorem run_range_k {mt kt et : TypeId} (hm : P.underlying mt = some (.map kt et)) (h : KMap w kv b f n) :
    ∃ L w', (Instr.range mt (.map (some b))).run P w = .ok (.pointer (some ⟨w.heap.size, 0, none⟩)) w' ∧ KIter w' kv b w.heap.size L L ∧ (∀ k, f k = findK L k) ∧ (L.map (·.1)).Nodup ∧ L.length = n ∧ Upd [] w w' ∧ w'.heap.size = w.heap.size + 1 := by
  obtain ⟨L, c, hr, hf, hn⟩ := h
  refine ⟨L, _, run_range_map w mt kt et b _ c hm hr.blk, ⟨c, c, #[], c, ?_, heap_alloc_new w _, hr.lt, Nat.le_refl _, Nat.le_refl _, ?_⟩, hf, hr.keys, hn, (Upd.refl [] w).alloc _, by simp⟩
  · exact ⟨(Below.heap_alloc w _ b hr.lt').trans hr.blk, hr.keys, hr.stamps, hr.lt⟩
  · symm
    rw [List.filter_eq_self]
    intro p _
    simp
theorem filter_seenK {κ : Type} {L : List (KEnt κ)} {seen : Array Nat} {x : KEnt κ} (hn : (L.map (·.2.2)).Nodup) (hx : x ∈ L) (hs : seen.contains x.2.2 = false) :
    (x :: L.filter (fun p => !(seen.push x.2.2).contains p.2.2)).Perm (L.filter (fun p => !seen.contains p.2.2)) := by
  induction L with
  | nil => cases hx
  | cons a L ih =>
    rw [List.map_cons, List.nodup_cons] at hn
    rw [List.filter_cons, List.filter_cons]
    by_cases e : a = x
    · subst e
      have h1 : L.filter (fun p => !(seen.push a.2.2).contains p.2.2) = L.filter (fun p => !seen.contains p.2.2) := by
        refine List.filter_congr fun p hp => ?_
        have : p.2.2 ≠ a.2.2 := fun e => hn.1 (e ▸ List.mem_map.2 ⟨p, hp, rfl⟩)
        congr 1
        rw [Bool.eq_iff_iff]
        simp [this]
      have h2 : (seen.push a.2.2).contains a.2.2 = true := by simp
      rw [h1, h2, hs]
      simp
    · have hx' : x ∈ L := by
        rcases List.mem_cons.1 hx with h | h
        · exact absurd h.symm e
        · exact h
      have hne : a.2.2 ≠ x.2.2 := fun e => hn.1 (e ▸ List.mem_map.2 ⟨x, hx', rfl⟩)
      have h1 : (seen.push x.2.2).contains a.2.2 = seen.contains a.2.2 := by
        rw [Bool.eq_iff_iff]
        simp [hne]
      rw [h1]
      cases hsa : seen.contains a.2.2 with
      | true => simpa using ih hn.2 hx'
      | false =>
        simp only [Bool.not_false, if_true]
        exact (List.Perm.swap _ _ _).trans (List.Perm.cons a (ih hn.2 hx'))
/-- One more comes, or there is none. -/
theorem run_next_k (h : KIter w kv b r L rest) (ty : TypeId) :
    (rest = [] ∧ (Instr.next (.pointer (some ⟨r, 0, none⟩)) false ty).run P w = .ok (.tuple #[.bool false]) w) ∨
    ∃ x rest' w', (x :: rest').Perm rest ∧ (Instr.next (.pointer (some ⟨r, 0, none⟩)) false ty).run P w = .ok (.tuple #[.bool true, kv x.1, x.2.1]) w' ∧ KIter w' kv b r L rest' ∧ Upd [r] w w' ∧
      (Instr.entry (.pointer (some ⟨r, 0, none⟩))).run P w' = .ok (.tuple #[kv x.1, x.2.1]) w' := by
  have hrl := h.lt
  obtain ⟨c, since, seen, c0, hR, hr, hold, hsc, hcc, rfl⟩ := h.all
  have hbr : b ≠ r := by
    rintro rfl
    rw [hR.blk] at hr
    cases hr
  have hold' : ∀ x ∈ (L.map (kent kv)).toArray.toList, x.born < since := by
    intro x hx
    simp only [List.mem_map] at hx
    obtain ⟨p, hp, rfl⟩ := hx
    exact hold p hp
  have hl : leftOf (L.map (kent kv)).toArray seen = ((L.filter (fun p => !seen.contains p.2.2)).map (kent kv)).toArray := by
    unfold leftOf
    rw [List.filter_toArray, List.filter_map]
    rfl
  rcases run_next_at (P := P) w ty r b since c0 seen _ c hr hR.blk hold' hsc with ⟨h0, hrun⟩ | ⟨e, he, w1, hal, hrun⟩
  · refine .inl ⟨?_, hrun⟩
    rw [hl] at h0
    simpa using h0
  · rw [hl] at he
    simp only [List.mem_map] at he
    obtain ⟨x, hx, rfl⟩ := he
    obtain ⟨hxL, hxs⟩ := List.mem_filter.1 hx
    have hxs' : seen.contains x.2.2 = false := by simpa using hxs
    have hr1 : w1.heap[r]? = some (.mapIter (some b) since seen c0) := by rcases hal with rfl | rfl <;> exact hr
    have hb1 : w1.heap[b]? = some (.map (L.map (kent kv)).toArray c) := by rcases hal with rfl | rfl <;> exact hR.blk
    have hset := heap_set (o' := .mapIter (some b) since (seen.push x.2.2) c) hr1
    have hb' : (setBlock w1 r (.mapIter (some b) since (seen.push x.2.2) c)).heap[b]? = some (.map (L.map (kent kv)).toArray c) := (hset.2 b (fun e1 => hbr e1)).trans hb1
    refine .inr ⟨x, _, _, filter_seenK hR.stamps hxL hxs', hrun, ⟨c, since, seen.push x.2.2, c, ⟨hb', hR.keys, hR.stamps, hR.lt⟩, hset.1, hold, hcc, hcc, rfl⟩, ?_, ?_⟩
    · rcases hal with rfl | rfl <;> exact ⟨rfl, rfl, rfl, by simp [setBlock], fun i _ hi => hset.2 i (fun e1 => hi (by simp [e1]))⟩
    · refine run_entry_at _ r b since seen _ c (kent kv x) hset.1 hb' ?_ ?_
      · simp only [List.mem_map]
        exact ⟨x, hxL, rfl⟩
      · simp only [List.map_map]
        exact hR.stamps
end
end Go.Proofs.YteddiknlcdbhjaaGreat

namespace Go.Proofs.YteddiknlcdbhjaaGreat
open Go.RowKit

/-- From w to w' only blocks of O, and new ones, may have turned. -/
structure UpdP (O : Nat → Prop) (w w' : World) : Prop where
  os : w'.os = w.os
  tape : w'.tape = w.tape
  output : w'.output = w.output
  size : w.heap.size ≤ w'.heap.size
  keep : ∀ k, k < w.heap.size → ¬ O k → w'.heap[k]? = w.heap[k]?
theorem UpdP.refl (O : Nat → Prop) (w : World) : UpdP O w w := ⟨rfl, rfl, rfl, Nat.le_refl _, fun _ _ _ => rfl⟩
theorem UpdP.trans {O O' : Nat → Prop} {a b c : World} (h : UpdP O a b) (k : UpdP O' b c) (hO : ∀ x, O' x → O x ∨ a.heap.size ≤ x) : UpdP O a c :=
  ⟨k.os.trans h.os, k.tape.trans h.tape, k.output.trans h.output, Nat.le_trans h.size k.size, fun i hi hn =>
    (k.keep i (Nat.lt_of_lt_of_le hi h.size) (fun hm => (hO i hm).elim hn (by omega))).trans (h.keep i hi hn)⟩
theorem UpdP.of_upd {S : List Nat} {O : Nat → Prop} {w w' : World} (h : Upd S w w') (hS : ∀ x ∈ S, O x ∨ w.heap.size ≤ x) : UpdP O w w' :=
  ⟨h.os, h.tape, h.output, h.size, fun k hk hn => h.keep k hk (fun hm => (hS k hm).elim hn (by omega))⟩
theorem UpdP.below {O : Nat → Prop} {B : Nat} {w w' : World} (h : UpdP O w w') (hB : B ≤ w.heap.size) (hO : ∀ x, O x → B ≤ x) : Below B w w' :=
  ⟨h.os, h.tape, h.output, h.size, fun k hk => h.keep k (by omega) (fun hm => by have := hO k hm; omega)⟩
theorem Blk.updP {O : Nat → Prop} {w w' : World} {g : Nat} {t : TypeId} {cs : Array Value} (h : Blk w g t cs) (hu : UpdP O w w') (hg : ¬ O g) : Blk w' g t cs := (hu.keep g h.lt hg).trans h

theorem UpdP.to_upd {O : Nat → Prop} {w w1 w2 : World} (h : UpdP O w1 w2) (h0 : Upd [] w w1) (hO : ∀ x, O x → w.heap.size ≤ x) : Upd [] w w2 :=
  ⟨h.os.trans h0.os, h.tape.trans h0.tape, h.output.trans h0.output, Nat.le_trans h0.size h.size, fun k hk hn => (h.keep k (Nat.lt_of_lt_of_le hk h0.size) (fun ho => by have := hO k ho; omega)).trans (h0.keep k hk hn)⟩
theorem UpdP.mono {O O' : Nat → Prop} {w w' : World} (h : UpdP O w w') (hO : ∀ x, O x → O' x ∨ w.heap.size ≤ x) : UpdP O' w w' :=
  ⟨h.os, h.tape, h.output, h.size, fun k hk hn => h.keep k hk fun ho => (hO k ho).elim hn (by omega)⟩
end Go.Proofs.YteddiknlcdbhjaaGreat

namespace Go.Proofs.YteddiknlcdbhjaaGreat
open Go.RowKit

/-- How a thing lies in cells. -/
structure Enc (α : Type) where
  c : α → List Value
  s : Nat
  len : ∀ a, (c a).length = s
  one : ∀ a, ∀ u ∈ c a, u.oneCell' = true
  pos : 0 < s
def flat {α : Type} (E : Enc α) (L : List α) : List Value := L.flatMap E.c
section
variable {α : Type} {E : Enc α} {L M : List α} {a : α} {k j : Nat}
theorem flat_nil : flat E [] = [] := rfl
theorem flat_cons : flat E (a :: L) = E.c a ++ flat E L := by unfold flat; rw [List.flatMap_cons]
theorem flat_append : flat E (L ++ M) = flat E L ++ flat E M := by unfold flat; rw [List.flatMap_append]
theorem flat_one_ : flat E [a] = E.c a := by unfold flat; simp
theorem flat_len : (flat E L).length = L.length * E.s := by
  induction L with
  | nil => simp [flat]
  | cons a L ih => rw [flat_cons, List.length_append, ih, E.len, List.length_cons, Nat.add_mul]; omega
theorem flat_cells : ∀ u ∈ flat E L, u.oneCell' = true := by
  intro u hu
  obtain ⟨a, _, h⟩ := List.mem_flatMap.1 hu
  exact E.one a u h
theorem flat_get (h : L[k]? = some a) (hj : j < E.s) : (flat E L)[k * E.s + j]? = (E.c a)[j]? := by
  induction L generalizing k with
  | nil => simp at h
  | cons b L ih =>
    rw [flat_cons]
    cases k with
    | zero =>
      simp at h
      subst h
      rw [Nat.zero_mul, Nat.zero_add, List.getElem?_append_left (by rw [E.len]; exact hj)]
    | succ k =>
      rw [List.getElem?_append_right (by rw [E.len, Nat.add_mul]; omega), E.len, show (k + 1) * E.s + j - E.s = k * E.s + j by rw [Nat.add_mul]; omega]
      exact ih (by simpa using h)
theorem flat_take (k : Nat) : flat E (L.take k) = (flat E L).take (k * E.s) := by
  induction L generalizing k with
  | nil => simp [flat]
  | cons a L ih =>
    cases k with
    | zero => simp [flat]
    | succ k =>
      rw [List.take_succ_cons, flat_cons, flat_cons, ih, List.take_append, E.len, List.take_of_length_le (l := E.c a) (by rw [E.len, Nat.add_mul]; omega), show (k + 1) * E.s - E.s = k * E.s by rw [Nat.add_mul]; omega]
theorem flat_drop (k : Nat) : flat E (L.drop k) = (flat E L).drop (k * E.s) := by
  induction L generalizing k with
  | nil => simp [flat]
  | cons a L ih =>
    cases k with
    | zero => simp [flat]
    | succ k =>
      have h0 : (E.c a).drop ((k + 1) * E.s) = [] := List.drop_eq_nil_of_le (by rw [E.len, Nat.add_mul]; omega)
      rw [List.drop_succ_cons, flat_cons, ih, List.drop_append, E.len, h0, show (k + 1) * E.s - E.s = k * E.s by rw [Nat.add_mul]; omega]
      rfl
end
/-- A slice value that reads as these things. -/
def Rd {α : Type} (E : Enc α) (w : World) (v : Value) (L : List α) : Prop := Src w E.s v L.length (flat E L)
/-- A slice value that owns these things, in a block from B on. -/
def Ow {α : Type} (E : Enc α) (e : TypeId) (w : World) (B : Nat) (v : Value) (L : List α) : Prop := w.ownsRow B e E.s v L.length (flat E L)
section
variable {α : Type} {E : Enc α} {L M : List α} {a : α} {k j B : Nat} {e : TypeId} {w w' : World} {v : Value} {S : List Nat}
theorem Rd.nil (E : Enc α) (w : World) (c : Nat) : Rd E w (.slice none 0 c) [] := ⟨by simp [flat], none, c, rfl, by simp [flat]⟩
theorem Ow.nil (E : Enc α) (e : TypeId) (w : World) (B : Nat) : Ow E e w B (.slice none 0 0) [] := own_nil _ _ _ _
theorem Ow.rd (h : Ow E e w B v L) : Rd E w v L := Src.of_own h
theorem Rd.upd (h : Rd E w v L) (hu : Upd S w w') (hS : ∀ b, v.ownBlock = some b → b ∉ S) : Rd E w' v L := Src.upd h hu hS
theorem Rd.upd0 (h : Rd E w v L) (hu : Upd [] w w') : Rd E w' v L := Src.upd0 h hu
theorem Ow.upd (h : Ow E e w B v L) (hu : Upd S w w') (hS : ∀ b, v.ownBlock = some b → b ∉ S) : Ow E e w' B v L := own_upd h hu hS
theorem Ow.upd0 (h : Ow E e w B v L) (hu : Upd [] w w') : Ow E e w' B v L := own_upd0 h hu
theorem Rd.form (h : Rd E w v L) : ∃ A c, v = .slice A L.length c := by
  obtain ⟨_, A, c, e, _⟩ := h
  exact ⟨A, c, e⟩
theorem Ow.form (h : Ow E e w B v L) : ∃ A c, v = .slice A L.length c ∧ L.length ≤ c ∧ c ≤ maxLen := own_slice h
/-- The cells of the k-th one. -/
theorem Rd.at_ {A : Option Addr} {n c : Nat} (h : Rd E w (.slice A n c) L) (hk : L[k]? = some a) : ∃ ad : Addr, A = some ad ∧ ad.block < w.heap.size ∧ ∀ j u, (E.c a)[j]? = some u → w.cell? (ad.add (k * E.s + j)) = some u := by
  obtain ⟨h1, A', c', he, h2⟩ := h
  injection he with hA _ _
  subst hA
  have h0 := E.pos
  have hl := E.len a
  obtain ⟨u, hu⟩ : ∃ u, (E.c a)[0]? = some u := ⟨_, List.getElem?_eq_getElem (by omega)⟩
  obtain ⟨ad, rfl, hb, _⟩ := h2 (k * E.s + 0) u ((flat_get hk h0).trans hu)
  refine ⟨ad, rfl, hb, fun j u hj => ?_⟩
  have hjl : j < E.s := by have := (List.getElem?_eq_some_iff.1 hj).1; omega
  obtain ⟨ad', e, _, hc⟩ := h2 (k * E.s + j) u ((flat_get hk hjl).trans hj)
  cases e
  exact hc
theorem Ow.at_ {g n c : Nat} (h : Ow E e w B (.slice (some ⟨g, 0, none⟩) n c) L) (hk : L[k]? = some a) : ∀ j u, (E.c a)[j]? = some u → w.cell? ⟨g, k * E.s + j, none⟩ = some u := by
  intro j u hj
  have hjl : j < E.s := by have := (List.getElem?_eq_some_iff.1 hj).1; rw [E.len] at this; exact this
  have hn : n = L.length := by
    obtain ⟨A, c', he, _⟩ := own_slice h
    injection he
  subst hn
  exact own_cell h _ u ((flat_get hk hjl).trans hj)
theorem Rd.take {A : Option Addr} {n c : Nat} (h : Rd E w (.slice A n c) L) (k : Nat) (hk : k ≤ L.length) (c' : Nat) : Rd E w (.slice A k c') (L.take k) := by
  have hn : n = L.length := by
    obtain ⟨_, A', c2, he, _⟩ := h
    injection he
  subst hn
  unfold Rd
  rw [flat_take, List.length_take, Nat.min_eq_left hk]
  exact Src.take h k hk c'
theorem Rd.drop {A : Option Addr} {n c : Nat} (h : Rd E w (.slice A n c) L) (k : Nat) (hk : k ≤ L.length) (hc : n ≤ c) (c' : Nat) : Rd E w (.slice (if c = k then A else A.map (·.add (k * E.s))) (n - k) c') (L.drop k) := by
  have hn : n = L.length := by
    obtain ⟨_, A', c2, he, _⟩ := h
    injection he
  subst hn
  unfold Rd
  rw [flat_drop, List.length_drop]
  exact Src.drop h k hk hc c'
end

/-- From w to w' only blocks of F, and new ones, have turned; F' are of F, or new. -/
structure Frm (F F' : List Nat) (w w' : World) : Prop where
  upd : Upd F w w'
  sub : ∀ k ∈ F', k ∈ F ∨ w.heap.size ≤ k
def Disj (F G : List Nat) : Prop := ∀ k ∈ F, k ∉ G
section
variable {F F' F'' G : List Nat} {w w' w0 w1 : World} {B : Nat}
theorem Frm.refl (F : List Nat) (w : World) : Frm F F w w := ⟨.refl _ _, fun _ h => .inl h⟩
theorem Frm.trans (h : Frm F F' w w1) (h' : Frm F' F'' w1 w') : Frm F F'' w w' :=
  ⟨h.upd.trans' h'.upd h.sub, fun k hk => (h'.sub k hk).elim (h.sub k) (fun g => .inr (Nat.le_trans h.upd.size g))⟩
theorem Frm.of0 (h : Upd [] w w') : Frm F F w w' := ⟨h.mono (by simp), fun _ h => .inl h⟩
theorem Frm.pre (h0 : Upd [] w0 w) (h : Frm F F' w w') : Frm F F' w0 w' := (Frm.of0 h0).trans h
theorem Frm.post (h : Frm F F' w w') (h0 : Upd [] w' w1) : Frm F F' w w1 := h.trans (.of0 h0)
theorem Disj.symm (h : Disj F G) : Disj G F := fun k hk hf => h k hf hk
theorem Frm.disj (h : Frm F F' w w') (hd : Disj F G) (hG : ∀ k ∈ G, k < w.heap.size) : Disj F' G := fun k hk hg => (h.sub k hk).elim (fun hf => hd k hf hg) (fun hs => by have := hG k hg; omega)
theorem Frm.base (h : Frm F F' w w') (hB : ∀ k ∈ F, B ≤ k) (hw : B ≤ w.heap.size) : ∀ k ∈ F', B ≤ k := fun k hk => (h.sub k hk).elim (hB k) (fun hs => Nat.le_trans hw hs)
/-- What the call made, and turns: the rest stays. -/
theorem Frm.rest (h : Frm F F' w w') (h0 : Upd [] w0 w) (hF : ∀ k ∈ F, w0.heap.size ≤ k) : Upd [] w0 w' := h0.trans' h.upd (fun k hk => .inr (hF k hk))
theorem Upd.rest (h : Upd F w w') (h0 : Upd [] w0 w) (hF : ∀ k ∈ F, w0.heap.size ≤ k) : Upd [] w0 w' := h0.trans' h (fun k hk => .inr (hF k hk))
end
end Go.Proofs.YteddiknlcdbhjaaGreat

namespace Go.Proofs.YteddiknlcdbhjaaGreat.TrP

structure Ev where
  txn : Int
  cell : Int
  ver : Int
  wr : Bool
deriving DecidableEq, Inhabited
abbrev Ed := Int × Int × Int

/-- An event behind others: its error. -/
def argB (x : Ev) : Bool := decide (x.txn < 0) || decide (x.ver < 0) || x.wr && decide (x.ver = 0)
def hits (k x : Ev) : Bool := x.wr && k.wr && decide (x.cell = k.cell) && decide (x.ver = k.ver) && !decide (x.txn = k.txn)
def noteE (pre : List Ev) (x : Ev) : Int := if argB x then 2 else if pre.any (fun k => hits k x) then 7 else 0
def notesE (pre : List Ev) : List Ev → Int × Int
  | [] => (0, 0)
  | x :: r => if noteE pre x ≠ 0 then (noteE pre x, pre.length + 1) else notesE (pre ++ [x]) r
def writes (c v : Int) (k : Ev) : Bool := k.wr && decide (k.cell = c) && decide (k.ver = v)
def wroteOf (l : List Ev) (c v : Int) : Option Int := (l.find? (writes c v)).map (·.txn)
def lostB (l : List Ev) (x : Ev) : Bool := !x.wr && decide (0 < x.ver) && (wroteOf l x.cell x.ver).isNone
def lostE (l : List Ev) : Nat → List Ev → Int × Int
  | _, [] => (0, 0)
  | i, x :: r => if lostB l x then (6, i + 1) else lostE l (i + 1) r
/-- What is wrong with events, and where. -/
def wrongE (l : List Ev) : Int × Int := if (notesE [] l).1 ≠ 0 then notesE [] l else lostE l 0 l

/-- No event is bad behind those ahead of it. -/
def Noted (l : List Ev) : Prop := ∀ pre x r, l = pre ++ x :: r → noteE pre x = 0
theorem Noted.nil : Noted [] := fun pre x r h => by cases pre <;> cases h
theorem noteE_le (pre : List Ev) (x : Ev) : noteE pre x = 0 ∨ noteE pre x = 2 ∨ noteE pre x = 7 := by
  unfold noteE
  split
  · simp
  · split <;> simp
theorem Noted.snoc {l : List Ev} {x : Ev} (h : Noted l) (hx : noteE l x = 0) : Noted (l ++ [x]) := by
  intro pre y r e
  rcases List.eq_nil_or_concat r with rfl | ⟨r', z, rfl⟩
  · obtain ⟨h1, h2⟩ := List.append_inj' e rfl
    simp at h2
    subst h1 h2
    exact hx
  · have e' : l ++ [x] = (pre ++ y :: r') ++ [z] := by rw [e]; simp
    obtain ⟨h1, _⟩ := List.append_inj' e' rfl
    exact h pre y r' h1
theorem Noted.pre {l m : List Ev} (h : Noted (l ++ m)) : Noted l := fun pre x r e => h pre x (r ++ m) (by rw [e]; simp)
theorem notesE_ok {l : List Ev} : ∀ {pre r : List Ev}, Noted pre → pre ++ r = l → ((notesE pre r).1 = 0 ↔ Noted l) ∧ ((notesE pre r).1 = 0 → notesE pre r = (0, 0))
  | pre, [], hp, e => by
    rw [List.append_nil] at e
    subst e
    simp [notesE, hp]
  | pre, x :: r, hp, e => by
    unfold notesE
    by_cases h : noteE pre x = 0
    · rw [if_neg (by simpa using h)]
      exact notesE_ok (hp.snoc h) (by rw [← e]; simp)
    · rw [if_pos h]
      refine ⟨⟨fun h0 => absurd h0 h, fun hn => absurd (hn pre x r e.symm) h⟩, fun h0 => absurd h0 h⟩

section
variable {l : List Ev}
theorem Noted.arg (h : Noted l) {x : Ev} (hx : x ∈ l) : argB x = false := by
  obtain ⟨pre, r, rfl⟩ := List.append_of_mem hx
  have := h pre x r rfl
  unfold noteE at this
  cases ha : argB x with
  | false => rfl
  | true => rw [ha] at this; simp at this
theorem argB_iff {x : Ev} : argB x = false ↔ 0 ≤ x.txn ∧ 0 ≤ x.ver ∧ (x.wr = true → 0 < x.ver) := by
  unfold argB
  cases x.wr <;> simp <;> omega
theorem hits_iff {k x : Ev} : hits k x = true ↔ x.wr = true ∧ k.wr = true ∧ x.cell = k.cell ∧ x.ver = k.ver ∧ x.txn ≠ k.txn := by
  unfold hits
  cases x.wr <;> cases k.wr <;> simp [and_assoc]
/-- Who wrote one version of one cell is one. -/
theorem Noted.one (h : Noted l) {x k : Ev} (hx : x ∈ l) (hk : k ∈ l) (h1 : x.wr = true) (h2 : k.wr = true) (h3 : x.cell = k.cell) (h4 : x.ver = k.ver) : x.txn = k.txn := by
  have key : ∀ (x k : Ev) (pre r : List Ev), l = pre ++ x :: r → k ∈ pre → x.wr = true → k.wr = true → x.cell = k.cell → x.ver = k.ver → x.txn = k.txn := by
    intro x k pre r e hk h1 h2 h3 h4
    have := h pre x r e
    unfold noteE at this
    split at this
    · cases this
    · split at this
      · cases this
      · rename_i hn
        rcases Decidable.em (x.txn = k.txn) with e | e
        · exact e
        · have hh : (pre.any fun k => hits k x) = true := List.any_eq_true.2 ⟨k, hk, hits_iff.2 ⟨h1, h2, h3, h4, e⟩⟩
          exact absurd hh hn
  obtain ⟨i, hi, rfl⟩ := List.getElem_of_mem hx
  obtain ⟨j, hj, rfl⟩ := List.getElem_of_mem hk
  have sp : ∀ i (hi : i < l.length), l = l.take i ++ l[i] :: l.drop (i + 1) := fun i hi => by
    rw [← List.drop_eq_getElem_cons hi, List.take_append_drop]
  rcases Nat.lt_trichotomy i j with hlt | rfl | hgt
  · exact (key _ _ _ _ (sp j hj) (List.mem_take_iff_getElem.2 ⟨i, by omega, rfl⟩) h2 h1 h3.symm h4.symm).symm
  · rfl
  · exact key _ _ _ _ (sp i hi) (List.mem_take_iff_getElem.2 ⟨j, by omega, rfl⟩) h1 h2 h3 h4
theorem writes_iff {c v : Int} {k : Ev} : writes c v k = true ↔ k.wr = true ∧ k.cell = c ∧ k.ver = v := by
  unfold writes
  cases k.wr <;> simp
theorem wroteOf_mem {c v t : Int} (h : wroteOf l c v = some t) : ∃ x ∈ l, x.wr = true ∧ x.cell = c ∧ x.ver = v ∧ x.txn = t := by
  unfold wroteOf at h
  cases hf : l.find? (writes c v) with
  | none => rw [hf] at h; cases h
  | some x =>
    rw [hf] at h
    have h1 := writes_iff.1 (List.find?_some hf)
    exact ⟨x, List.mem_of_find?_eq_some hf, h1.1, h1.2.1, h1.2.2, by simpa using h⟩
theorem Noted.wroteOf_of (h : Noted l) {x : Ev} (hx : x ∈ l) (hw : x.wr = true) : wroteOf l x.cell x.ver = some x.txn := by
  unfold wroteOf
  cases hf : l.find? (writes x.cell x.ver) with
  | none =>
    have := List.find?_eq_none.1 hf x hx
    exact absurd (writes_iff.2 ⟨hw, rfl, rfl⟩) this
  | some y =>
    have h1 := writes_iff.1 (List.find?_some hf)
    simp [h.one (List.mem_of_find?_eq_some hf) hx h1.1 hw h1.2.1 h1.2.2]
theorem Noted.wroteOf_iff (h : Noted l) {c v t : Int} : wroteOf l c v = some t ↔ ∃ x ∈ l, x.wr = true ∧ x.cell = c ∧ x.ver = v ∧ x.txn = t :=
  ⟨wroteOf_mem, fun ⟨x, hx, h1, h2, h3, h4⟩ => by subst h2 h3 h4; exact h.wroteOf_of hx h1⟩
theorem wroteOf_none {c v : Int} : wroteOf l c v = none ↔ ∀ x ∈ l, x.wr = true → x.cell = c → x.ver ≠ v := by
  unfold wroteOf
  rw [Option.map_eq_none_iff, List.find?_eq_none]
  constructor
  · intro h x hx h1 h2 h3
    exact h x hx (writes_iff.2 ⟨h1, h2, h3⟩)
  · intro h x hx hw
    have := writes_iff.1 hw
    exact h x hx this.1 this.2.1 this.2.2
theorem wroteOf_snoc (x : Ev) (c v : Int) : wroteOf (l ++ [x]) c v = (wroteOf l c v).or (if x.wr = true ∧ x.cell = c ∧ x.ver = v then some x.txn else none) := by
  unfold wroteOf
  rw [List.find?_append]
  cases l.find? (writes c v) with
  | some y => simp
  | none =>
    by_cases h : writes c v x = true
    · simp [List.find?_cons, h, writes_iff.1 h]
    · have : ¬ (x.wr = true ∧ x.cell = c ∧ x.ver = v) := fun e => h (writes_iff.2 e)
      simp [List.find?_cons, h, this]
/-- What an event is noted as, behind what is noted. -/
theorem Noted.note_eq (h : Noted l) (x : Ev) : noteE l x = if argB x then 2 else if x.wr = true ∧ ∃ t, wroteOf l x.cell x.ver = some t ∧ t ≠ x.txn then 7 else 0 := by
  unfold noteE
  split
  · rfl
  · congr 1
    rw [eq_iff_iff, List.any_eq_true]
    constructor
    · rintro ⟨k, hk, hh⟩
      obtain ⟨h1, h2, h3, h4, h5⟩ := hits_iff.1 hh
      exact ⟨h1, k.txn, by rw [h3, h4]; exact h.wroteOf_of hk h2, fun e => h5 e.symm⟩
    · rintro ⟨h1, t, ht, hne⟩
      obtain ⟨k, hk, h2, h3, h4, h5⟩ := wroteOf_mem ht
      exact ⟨k, hk, hits_iff.2 ⟨h1, h2, h3.symm, h4.symm, fun e => hne (by rw [← h5, e])⟩⟩
end

/-- The next greater version of a cell that was written. -/
def Succ (l : List Ev) (c v v' : Int) : Prop := (wroteOf l c v').isSome = true ∧ v < v' ∧ ∀ u, (wroteOf l c u).isSome = true → v < u → v' ≤ u
def Reads (l : List Ev) (c v t : Int) : Prop := ∃ x ∈ l, x.wr = false ∧ x.cell = c ∧ x.ver = v ∧ x.txn = t
/-- One stands ahead of another one, for a reason. -/
def EdgeP (l : List Ev) (e : Ed) : Prop := e.1 ≠ e.2.1 ∧ (
  (e.2.2 = 1 ∧ ∃ c v, wroteOf l c v = some e.1 ∧ Reads l c v e.2.1) ∨
  (e.2.2 = 2 ∧ ∃ c v v', wroteOf l c v = some e.1 ∧ Succ l c v v' ∧ wroteOf l c v' = some e.2.1) ∨
  (e.2.2 = 3 ∧ ∃ c v v', Reads l c v e.1 ∧ Succ l c v v' ∧ wroteOf l c v' = some e.2.1))
theorem Succ.uniq {l : List Ev} {c v a b : Int} (h : Succ l c v a) (k : Succ l c v b) : a = b := by
  have h1 := h.2.2 b k.1 k.2.1
  have h2 := k.2.2 a h.1 h.2.1
  omega

/-- Lists that rise. -/
def ltE (a b : Ed) : Bool := decide (a.1 < b.1) || decide (a.1 = b.1) && (decide (a.2.1 < b.2.1) || decide (a.2.1 = b.2.1) && decide (a.2.2 < b.2.2))
theorem ltE_iff {a b : Ed} : ltE a b = true ↔ a.1 < b.1 ∨ a.1 = b.1 ∧ (a.2.1 < b.2.1 ∨ a.2.1 = b.2.1 ∧ a.2.2 < b.2.2) := by
  unfold ltE
  simp
theorem ltE_irr (a : Ed) : ltE a a = false := by
  cases h : ltE a a with
  | false => rfl
  | true => have := ltE_iff.1 h; omega
theorem ltE_trans {a b c : Ed} (h : ltE a b = true) (k : ltE b c = true) : ltE a c = true := by
  rw [ltE_iff] at *
  omega
theorem ltE_tri (a b : Ed) (h : a ≠ b) : ltE a b = true ∨ ltE b a = true := by
  rw [ltE_iff, ltE_iff]
  by_cases h1 : a.1 = b.1
  · by_cases h2 : a.2.1 = b.2.1
    · by_cases h3 : a.2.2 = b.2.2
      · exact absurd (Prod.ext h1 (Prod.ext h2 h3)) h
      · omega
    · omega
  · omega
theorem rising_uniq {α : Type} {lt : α → α → Prop} (irr : ∀ a, ¬ lt a a) (tr : ∀ a b c, lt a b → lt b c → lt a c) :
    ∀ {l m : List α}, l.Pairwise lt → m.Pairwise lt → (∀ x, x ∈ l ↔ x ∈ m) → l = m
  | [], [], _, _, _ => rfl
  | [], b :: m, _, _, h => absurd ((h b).2 (by simp)) (by simp)
  | a :: l, [], _, _, h => absurd ((h a).1 (by simp)) (by simp)
  | a :: l, b :: m, hl, hm, h => by
    rw [List.pairwise_cons] at hl hm
    have hab : a = b := by
      rcases List.mem_cons.1 ((h a).1 (by simp)) with e | ha
      · exact e
      · rcases List.mem_cons.1 ((h b).2 (by simp)) with e | hb
        · exact e.symm
        · exact absurd (tr _ _ _ (hm.1 a ha) (hl.1 b hb)) (irr b)
    subst hab
    rw [rising_uniq irr tr hl.2 hm.2 fun x => ?_]
    constructor
    · intro hx
      rcases List.mem_cons.1 ((h x).1 (by simp [hx])) with e | hx'
      · subst e; exact absurd (hl.1 x hx) (irr x)
      · exact hx'
    · intro hx
      rcases List.mem_cons.1 ((h x).2 (by simp [hx])) with e | hx'
      · subst e; exact absurd (hm.1 x hx) (irr x)
      · exact hx'
def RiseE (g : List Ed) : Prop := g.Pairwise (fun a b => ltE a b = true)
def RiseI (l : List Int) : Prop := l.Pairwise (· < ·)
theorem riseE_uniq {g h : List Ed} (hg : RiseE g) (hh : RiseE h) (e : ∀ x, x ∈ g ↔ x ∈ h) : g = h :=
  rising_uniq (lt := fun a b => ltE a b = true) (fun a h => by rw [ltE_irr] at h; cases h) (fun a b c => ltE_trans) hg hh e
theorem riseI_uniq {g h : List Int} (hg : RiseI g) (hh : RiseI h) (e : ∀ x, x ∈ g ↔ x ∈ h) : g = h :=
  rising_uniq (lt := fun a b : Int => a < b) (fun a h => by omega) (fun a b c h k => by omega) hg hh e
end Go.Proofs.YteddiknlcdbhjaaGreat.TrP

namespace Go.Proofs.YteddiknlcdbhjaaGreat.TrP

section
variable {α : Type} {lt : α → α → Bool}
/-- One more into a list that rises. -/
def posG (lt : α → α → Bool) : List α → α → Nat
  | [], _ => 0
  | a :: l, x => if lt a x then posG lt l x + 1 else 0
theorem posG_le : ∀ (l : List α) (x : α), posG lt l x ≤ l.length
  | [], x => Nat.le_refl _
  | a :: l, x => by
    unfold posG
    split
    · simpa using posG_le l x
    · simp
theorem posG_lt : ∀ {l : List α} {x : α} {i : Nat}, i < posG lt l x → ∃ a, l[i]? = some a ∧ lt a x = true
  | [], x, i, h => by simp [posG] at h
  | a :: l, x, i, h => by
    unfold posG at h
    split at h
    · rename_i ha
      cases i with
      | zero => exact ⟨a, rfl, ha⟩
      | succ i => simpa using posG_lt (l := l) (x := x) (i := i) (by omega)
    · omega
theorem posG_at : ∀ {l : List α} {x a : α}, l[posG lt l x]? = some a → lt a x = false
  | [], x, a, h => by simp at h
  | b :: l, x, a, h => by
    unfold posG at h
    split at h
    · simp at h; exact posG_at h
    · rename_i hb
      simp at h
      subst h
      simpa using hb
theorem posG_step {l : List α} {x a : α} {k : Nat} (hk : k ≤ posG lt l x) (ha : l[k]? = some a) (h : lt a x = true) : k + 1 ≤ posG lt l x := by
  rcases Nat.lt_or_ge k (posG lt l x) with h1 | h1
  · exact h1
  · have : k = posG lt l x := by omega
    subst this
    rw [posG_at ha] at h
    cases h
theorem posG_stop {l : List α} {x a : α} {k : Nat} (hk : k ≤ posG lt l x) (ha : l[k]? = some a) (h : lt a x = false) : k = posG lt l x := by
  rcases Nat.lt_or_ge k (posG lt l x) with h1 | h1
  · obtain ⟨b, hb, hl⟩ := posG_lt h1
    rw [ha] at hb
    cases hb
    rw [hl] at h
    cases h
  · omega
end
section
variable {α : Type} [DecidableEq α] {lt : α → α → Bool}
def insG (lt : α → α → Bool) (l : List α) (x : α) : List α := if l[posG lt l x]? = some x then l else l.take (posG lt l x) ++ x :: l.drop (posG lt l x)
theorem insG_rise (irr : ∀ a, lt a a = false) (tr : ∀ a b c, lt a b = true → lt b c = true → lt a c = true) (tri : ∀ a b, a ≠ b → lt a b = true ∨ lt b a = true) {l : List α} (x : α) (h : l.Pairwise (fun a b => lt a b = true)) :
    (insG lt l x).Pairwise (fun a b => lt a b = true) ∧ ∀ y, y ∈ insG lt l x ↔ y ∈ l ∨ y = x := by
  unfold insG
  split
  · rename_i hx
    exact ⟨h, fun y => ⟨.inl, fun hy => hy.elim id fun e => e ▸ List.mem_of_getElem? hx⟩⟩
  · rename_i hx
    have hp := posG_le (lt := lt) l x
    have hl : ∀ a ∈ l.take (posG lt l x), lt a x = true := by
      intro a ha
      obtain ⟨i, hi, rfl⟩ := List.getElem_of_mem ha
      rw [List.length_take] at hi
      obtain ⟨b, hb, hlt⟩ := posG_lt (lt := lt) (l := l) (x := x) (i := i) (by omega)
      rw [List.getElem_take]
      rw [List.getElem?_eq_getElem (by omega)] at hb
      cases hb
      exact hlt
    have hsp : l.take (posG lt l x) ++ l.drop (posG lt l x) = l := List.take_append_drop _ _
    have h' := h
    rw [← hsp, List.pairwise_append] at h'
    have hr : ∀ a ∈ l.drop (posG lt l x), lt x a = true := by
      cases hd : l.drop (posG lt l x) with
      | nil => simp
      | cons b r =>
        have hb : l[posG lt l x]? = some b := by
          have := List.head?_drop (l := l) (i := posG lt l x)
          rw [hd] at this
          exact this.symm
        have h1 := posG_at hb
        have hxb : lt x b = true := by
          rcases tri x b (fun e => hx (by rw [hb, e])) with e | e
          · exact e
          · rw [h1] at e; cases e
        have h2 := h'.2.1
        rw [hd, List.pairwise_cons] at h2
        intro a ha
        rcases List.mem_cons.1 ha with rfl | ha
        · exact hxb
        · exact tr _ _ _ hxb (h2.1 a ha)
    refine ⟨?_, fun y => ?_⟩
    · rw [List.pairwise_append]
      refine ⟨h'.1, List.pairwise_cons.2 ⟨hr, h'.2.1⟩, fun a ha b hb => ?_⟩
      rcases List.mem_cons.1 hb with rfl | hb
      · exact hl a ha
      · exact h'.2.2 a ha b hb
    · have : y ∈ l ↔ y ∈ l.take (posG lt l x) ∨ y ∈ l.drop (posG lt l x) := by
        conv => lhs; rw [← hsp]
        exact List.mem_append
      rw [this, List.mem_append, List.mem_cons]
      constructor
      · rintro (h | h | h)
        · exact .inl (.inl h)
        · exact .inr h
        · exact .inl (.inr h)
      · rintro ((h | h) | h)
        · exact .inl h
        · exact .inr (.inr h)
        · exact .inr (.inl h)
end
def putE (l : List Ed) (x : Ed) : List Ed := if x.1 = x.2.1 then l else insG ltE l x
theorem putE_rise {l : List Ed} (h : RiseE l) (x : Ed) : RiseE (putE l x) ∧ ∀ y, y ∈ putE l x ↔ y ∈ l ∨ y = x ∧ x.1 ≠ x.2.1 := by
  unfold putE
  split
  · rename_i e
    exact ⟨h, fun y => by simp [e]⟩
  · rename_i e
    obtain ⟨h1, h2⟩ := insG_rise ltE_irr (fun _ _ _ => ltE_trans) ltE_tri x h
    exact ⟨h1, fun y => by rw [h2]; simp [e]⟩
def ltI (a b : Int) : Bool := decide (a < b)
def putI' (l : List Int) (x : Int) : List Int := insG ltI l x
theorem putI_rise {l : List Int} (h : RiseI l) (x : Int) : RiseI (putI' l x) ∧ ∀ y, y ∈ putI' l x ↔ y ∈ l ∨ y = x := by
  have h' : l.Pairwise (fun a b => ltI a b = true) := h.imp (fun h => by simpa [ltI] using h)
  obtain ⟨h1, h2⟩ := insG_rise (lt := ltI) (fun a => by simp [ltI]) (fun a b c h k => by simp [ltI] at *; omega) (fun a b h => by simp [ltI]; omega) x h'
  exact ⟨h1.imp (fun h => by simpa [ltI] using h), h2⟩

/-- Who wrote the next greater version, as the document finds it. -/
def bestS (c v : Int) (b : Option Ev) (x : Ev) : Option Ev := if x.wr = true ∧ x.cell = c ∧ v < x.ver ∧ (∀ y, b = some y → x.ver < y.ver) then some x else b
instance (c v : Int) (b : Option Ev) (x : Ev) : Decidable (x.wr = true ∧ x.cell = c ∧ v < x.ver ∧ (∀ y, b = some y → x.ver < y.ver)) :=
  match b with
  | none => decidable_of_iff (x.wr = true ∧ x.cell = c ∧ v < x.ver) (by simp)
  | some y => decidable_of_iff (x.wr = true ∧ x.cell = c ∧ v < x.ver ∧ x.ver < y.ver) (by simp)
def bestN (l : List Ev) (c v : Int) : Option Ev := l.foldl (bestS c v) none
def nextR (l : List Ev) (c v : Int) : Int := match bestN l c v with | none => -1 | some x => x.txn
/-- What the best one is. -/
def BestOf (l : List Ev) (c v : Int) : Option Ev → Prop
  | none => ∀ x ∈ l, x.wr = true → x.cell = c → ¬ v < x.ver
  | some b => b ∈ l ∧ b.wr = true ∧ b.cell = c ∧ v < b.ver ∧ ∀ x ∈ l, x.wr = true → x.cell = c → v < x.ver → b.ver ≤ x.ver
theorem best_step {l : List Ev} {c v : Int} {b : Option Ev} (h : BestOf l c v b) (x : Ev) : BestOf (l ++ [x]) c v (bestS c v b x) := by
  unfold bestS
  split
  · rename_i hx
    refine ⟨by simp, hx.1, hx.2.1, hx.2.2.1, fun y hy h1 h2 h3 => ?_⟩
    rcases List.mem_append.1 hy with hy | hy
    · cases b with
      | none => exact absurd h3 (h y hy h1 h2)
      | some b =>
        have := hx.2.2.2 b rfl
        have := h.2.2.2.2 y hy h1 h2 h3
        omega
    · simp at hy; subst hy; omega
  · rename_i hx
    cases b with
    | none =>
      intro y hy h1 h2 h3
      rcases List.mem_append.1 hy with hy | hy
      · exact h y hy h1 h2 h3
      · simp at hy; subst hy
        exact hx ⟨h1, h2, h3, by simp⟩
    | some b =>
      refine ⟨by simp [h.1], h.2.1, h.2.2.1, h.2.2.2.1, fun y hy h1 h2 h3 => ?_⟩
      rcases List.mem_append.1 hy with hy | hy
      · exact h.2.2.2.2 y hy h1 h2 h3
      · simp at hy; subst hy
        rcases Decidable.em (y.ver < b.ver) with e | e
        · exact absurd ⟨h1, h2, h3, fun z hz => by cases hz; exact e⟩ hx
        · omega
theorem best_of (l : List Ev) (c v : Int) : BestOf l c v (bestN l c v) := by
  have key : ∀ (r pre : List Ev) (b : Option Ev), BestOf pre c v b → BestOf (pre ++ r) c v (r.foldl (bestS c v) b) := by
    intro r
    induction r with
    | nil => intro pre b h; simpa using h
    | cons x r ih =>
      intro pre b h
      have := ih (pre ++ [x]) _ (best_step h x)
      rw [List.append_assoc] at this
      exact this
  have := key l [] none (by intro x hx; cases hx)
  rwa [List.nil_append] at this
theorem next_iff {l : List Ev} (h : Noted l) {c v t : Int} (ht : 0 ≤ t) : nextR l c v = t ↔ ∃ v', Succ l c v v' ∧ wroteOf l c v' = some t := by
  have hb := best_of l c v
  unfold nextR
  cases hf : bestN l c v with
  | none =>
    rw [hf] at hb
    show -1 = t ↔ _
    refine ⟨fun e => by omega, ?_⟩
    rintro ⟨v', h1, h2⟩
    obtain ⟨x, hx, h3, h4, h5, _⟩ := wroteOf_mem h2
    exact absurd (by rw [h5]; exact h1.2.1) (hb x hx h3 h4)
  | some b =>
    rw [hf] at hb
    obtain ⟨h1, h2, h3, h4, h5⟩ := hb
    have hw : wroteOf l c b.ver = some b.txn := by rw [← h3]; exact h.wroteOf_of h1 h2
    have hs : Succ l c v b.ver := by
      refine ⟨by rw [hw]; rfl, h4, fun u hu hv => ?_⟩
      obtain ⟨t', ht'⟩ := Option.isSome_iff_exists.1 hu
      obtain ⟨x, hx, g1, g2, g3, _⟩ := wroteOf_mem ht'
      have := h5 x hx g1 g2 (by rw [g3]; exact hv)
      omega
    constructor
    · intro e
      exact ⟨b.ver, hs, by rw [hw, ← e]⟩
    · rintro ⟨v', g1, g2⟩
      have := g1.uniq hs
      subst this
      rw [hw] at g2
      exact Option.some.inj g2
theorem next_neg {l : List Ev} (h : Noted l) (c v : Int) : 0 ≤ nextR l c v ∨ nextR l c v = -1 := by
  have hb := best_of l c v
  unfold nextR
  cases hf : bestN l c v with
  | none => exact .inr rfl
  | some b =>
    rw [hf] at hb
    exact .inl (argB_iff.1 (h.arg hb.1)).1
/-- What one event adds. -/
def addW (l : List Ev) (out : List Ed) (x : Ev) : List Ed := match wroteOf l x.cell x.ver with | some t => putE out (t, x.txn, 1) | none => out
def stepG (l : List Ev) (out : List Ed) (x : Ev) : List Ed :=
  if x.wr = true then (if 0 ≤ nextR l x.cell x.ver then putE out (x.txn, nextR l x.cell x.ver, 2) else out)
  else if 0 ≤ nextR l x.cell x.ver then putE (addW l out x) (x.txn, nextR l x.cell x.ver, 3) else addW l out x
def graphR (l : List Ev) : List Ed := l.foldl (stepG l) []
/-- Which edges one event adds. -/
def EdgeX (l : List Ev) (x : Ev) (e : Ed) : Prop := e.1 ≠ e.2.1 ∧ (
  (x.wr = false ∧ ∃ t, wroteOf l x.cell x.ver = some t ∧ e = (t, x.txn, 1)) ∨
  (x.wr = true ∧ 0 ≤ nextR l x.cell x.ver ∧ e = (x.txn, nextR l x.cell x.ver, 2)) ∨
  (x.wr = false ∧ 0 ≤ nextR l x.cell x.ver ∧ e = (x.txn, nextR l x.cell x.ver, 3)))
theorem stepG_rise {l : List Ev} {out : List Ed} (h : RiseE out) (x : Ev) : RiseE (stepG l out x) ∧ ∀ e, e ∈ stepG l out x ↔ e ∈ out ∨ EdgeX l x e := by
  unfold stepG EdgeX
  cases hw : x.wr with
  | true =>
    rw [if_pos rfl]
    split
    · rename_i hn
      obtain ⟨h1, h2⟩ := putE_rise h (x.txn, nextR l x.cell x.ver, 2)
      refine ⟨h1, fun e => ?_⟩
      rw [h2]
      constructor
      · rintro (g | ⟨g1, g2⟩)
        · exact .inl g
        · exact .inr ⟨by rw [g1]; exact g2, .inr (.inl ⟨rfl, hn, g1⟩)⟩
      · rintro (g | ⟨g1, ⟨g2, _⟩ | ⟨_, _, g3⟩ | ⟨g2, _⟩⟩)
        · exact .inl g
        · cases g2
        · exact .inr ⟨g3, by rw [g3] at g1; exact g1⟩
        · cases g2
    · rename_i hn
      refine ⟨h, fun e => ⟨.inl, ?_⟩⟩
      rintro (g | ⟨g1, ⟨g2, _⟩ | ⟨_, g2, _⟩ | ⟨g2, _⟩⟩)
      · exact g
      · cases g2
      · exact absurd g2 hn
      · cases g2
  | false =>
    rw [if_neg (by simp)]
    have hA : ∃ out1, out1 = addW l out x ∧ RiseE out1 ∧ ∀ e, e ∈ out1 ↔ e ∈ out ∨ (e.1 ≠ e.2.1 ∧ ∃ t, wroteOf l x.cell x.ver = some t ∧ e = (t, x.txn, 1)) := by
      unfold addW
      cases hw : wroteOf l x.cell x.ver with
      | none => exact ⟨_, rfl, h, fun e => by simp⟩
      | some t =>
        obtain ⟨h1, h2⟩ := putE_rise h (t, x.txn, 1)
        refine ⟨_, rfl, h1, fun e => ?_⟩
        rw [h2]
        constructor
        · rintro (g | ⟨g1, g2⟩)
          · exact .inl g
          · exact .inr ⟨by rw [g1]; exact g2, t, rfl, g1⟩
        · rintro (g | ⟨g1, t', ht, g3⟩)
          · exact .inl g
          · cases ht
            exact .inr ⟨g3, by rw [g3] at g1; exact g1⟩
    obtain ⟨out1, ho, hr1, hm1⟩ := hA
    rw [← ho]
    split
    · rename_i hn
      obtain ⟨h1, h2⟩ := putE_rise hr1 (x.txn, nextR l x.cell x.ver, 3)
      refine ⟨h1, fun e => ?_⟩
      rw [h2, hm1]
      constructor
      · rintro ((g | ⟨g1, t, g2, g3⟩) | ⟨g1, g2⟩)
        · exact .inl g
        · exact .inr ⟨g1, .inl ⟨rfl, t, g2, g3⟩⟩
        · exact .inr ⟨by rw [g1]; exact g2, .inr (.inr ⟨rfl, hn, g1⟩)⟩
      · rintro (g | ⟨g1, ⟨_, t, g2, g3⟩ | ⟨g2, _⟩ | ⟨_, _, g3⟩⟩)
        · exact .inl (.inl g)
        · exact .inl (.inr ⟨g1, t, g2, g3⟩)
        · cases g2
        · exact .inr ⟨g3, by rw [g3] at g1; exact g1⟩
    · rename_i hn
      refine ⟨hr1, fun e => ?_⟩
      rw [hm1]
      constructor
      · rintro (g | ⟨g1, t, g2, g3⟩)
        · exact .inl g
        · exact .inr ⟨g1, .inl ⟨rfl, t, g2, g3⟩⟩
      · rintro (g | ⟨g1, ⟨_, t, g2, g3⟩ | ⟨g2, _⟩ | ⟨_, g2, g3⟩⟩)
        · exact .inl g
        · exact .inr ⟨g1, t, g2, g3⟩
        · cases g2
        · exact absurd g2 hn
theorem graphR_rise (l : List Ev) : RiseE (graphR l) ∧ ∀ e, e ∈ graphR l ↔ ∃ x ∈ l, EdgeX l x e := by
  have key : ∀ (r : List Ev) (out : List Ed), RiseE out → RiseE (r.foldl (stepG l) out) ∧ ∀ e, e ∈ r.foldl (stepG l) out ↔ e ∈ out ∨ ∃ x ∈ r, EdgeX l x e := by
    intro r
    induction r with
    | nil => intro out h; exact ⟨h, fun e => by simp⟩
    | cons x r ih =>
      intro out h
      obtain ⟨h1, h2⟩ := stepG_rise (l := l) h x
      obtain ⟨h3, h4⟩ := ih _ h1
      refine ⟨h3, fun e => ?_⟩
      rw [List.foldl_cons, h4, h2]
      simp [or_assoc]
  obtain ⟨h1, h2⟩ := key l [] List.Pairwise.nil
  exact ⟨h1, fun e => by rw [show graphR l = l.foldl (stepG l) [] from rfl, h2]; simp⟩
/-- The document's edges are the edges. -/
theorem graphR_iff {l : List Ev} (h : Noted l) (e : Ed) : e ∈ graphR l ↔ EdgeP l e := by
  rw [(graphR_rise l).2]
  constructor
  · rintro ⟨x, hx, h0, ⟨h1, t, h2, rfl⟩ | ⟨h1, h2, rfl⟩ | ⟨h1, h2, rfl⟩⟩
    · exact ⟨h0, .inl ⟨rfl, x.cell, x.ver, h2, x, hx, h1, rfl, rfl, rfl⟩⟩
    · obtain ⟨v', h3, h4⟩ := (next_iff h h2).1 rfl
      exact ⟨h0, .inr (.inl ⟨rfl, x.cell, x.ver, v', h.wroteOf_of hx h1, h3, h4⟩)⟩
    · obtain ⟨v', h3, h4⟩ := (next_iff h h2).1 rfl
      exact ⟨h0, .inr (.inr ⟨rfl, x.cell, x.ver, v', ⟨x, hx, h1, rfl, rfl, rfl⟩, h3, h4⟩)⟩
  · rintro ⟨h0, ⟨h1, c, v, h2, x, hx, g1, rfl, rfl, g4⟩ | ⟨h1, c, v, v', h2, h3, h4⟩ | ⟨h1, c, v, v', ⟨x, hx, g1, rfl, rfl, g4⟩, h3, h4⟩⟩
    · exact ⟨x, hx, h0, .inl ⟨g1, e.1, h2, by rw [g4, ← h1]⟩⟩
    · obtain ⟨x, hx, g1, rfl, rfl, g4⟩ := wroteOf_mem h2
      obtain ⟨y, hy, _, _, _, g5⟩ := wroteOf_mem h4
      have h5 : 0 ≤ e.2.1 := by rw [← g5]; exact (argB_iff.1 (h.arg hy)).1
      have h6 := (next_iff h h5).2 ⟨v', h3, h4⟩
      exact ⟨x, hx, h0, .inr (.inl ⟨g1, by rw [h6]; exact h5, by rw [h6, g4, ← h1]⟩)⟩
    · obtain ⟨y, hy, _, _, _, g5⟩ := wroteOf_mem h4
      have h5 : 0 ≤ e.2.1 := by rw [← g5]; exact (argB_iff.1 (h.arg hy)).1
      have h6 := (next_iff h h5).2 ⟨v', h3, h4⟩
      exact ⟨x, hx, h0, .inr (.inr ⟨g1, by rw [h6]; exact h5, by rw [h6, g4, ← h1]⟩)⟩
def txnsR (l : List Ev) : List Int := l.foldl (fun out x => putI' out x.txn) []
theorem txnsR_rise (l : List Ev) : RiseI (txnsR l) ∧ ∀ t, t ∈ txnsR l ↔ ∃ x ∈ l, x.txn = t := by
  have key : ∀ (r : List Ev) (out : List Int), RiseI out → RiseI (r.foldl (fun out x => putI' out x.txn) out) ∧ ∀ t, t ∈ r.foldl (fun out x => putI' out x.txn) out ↔ t ∈ out ∨ ∃ x ∈ r, x.txn = t := by
    intro r
    induction r with
    | nil => intro out h; exact ⟨h, fun e => by simp⟩
    | cons x r ih =>
      intro out h
      obtain ⟨h1, h2⟩ := putI_rise h x.txn
      obtain ⟨h3, h4⟩ := ih _ h1
      refine ⟨h3, fun e => ?_⟩
      rw [List.foldl_cons, h4, h2]
      simp [or_assoc, eq_comm]
  obtain ⟨h1, h2⟩ := key l [] List.Pairwise.nil
  exact ⟨h1, fun e => by rw [show txnsR l = l.foldl (fun out x => putI' out x.txn) [] from rfl, h2]; simp⟩
end Go.Proofs.YteddiknlcdbhjaaGreat.TrP

namespace Go.Proofs.YteddiknlcdbhjaaGreat.TrP

def leadsB (g : List Ed) (a b : Int) : Bool := g.any (fun e => decide (e.1 = a) && decide (e.2.1 = b))
theorem leadsB_iff {g : List Ed} {a b : Int} : leadsB g a b = true ↔ ∃ e ∈ g, e.1 = a ∧ e.2.1 = b := by
  unfold leadsB
  rw [List.any_eq_true]
  simp
/-- What edges are between. -/
structure GOk (g : List Ed) (all : List Int) : Prop where
  ne : ∀ e ∈ g, e.1 ≠ e.2.1
  fr : ∀ e ∈ g, e.1 ∈ all
  to : ∀ e ∈ g, e.2.1 ∈ all
  rise : RiseI all
section
variable {g : List Ed} {all : List Int}
theorem GOk.irr (h : GOk g all) (a : Int) : leadsB g a a = false := by
  cases e : leadsB g a a with
  | false => rfl
  | true =>
    obtain ⟨x, hx, h1, h2⟩ := leadsB_iff.1 e
    exact absurd (h1.trans h2.symm) (h.ne x hx)
theorem GOk.memL (h : GOk g all) {a b : Int} (e : leadsB g a b = true) : a ∈ all ∧ b ∈ all := by
  obtain ⟨x, hx, rfl, rfl⟩ := leadsB_iff.1 e
  exact ⟨h.fr x hx, h.to x hx⟩
theorem RiseI.nodup {l : List Int} (h : RiseI l) : l.Nodup := h.imp (fun h => by omega)

/-- The order. -/
def freeB (g : List Ed) (all out : List Int) (b : Int) : Bool := all.all (fun k => out.contains k || !leadsB g k b)
def pickB (g : List Ed) (all out : List Int) (b : Int) : Bool := !out.contains b && freeB g all out b
def nextF (g : List Ed) (all out : List Int) : Option Int := all.find? (pickB g all out)
def serialGo (g : List Ed) (all : List Int) : Nat → List Int → Option (List Int)
  | 0, out => if out.length < all.length then none else some out
  | n + 1, out => if out.length < all.length then (match nextF g all out with | none => none | some b => serialGo g all n (out ++ [b])) else some out
def serialL (g : List Ed) (all : List Int) : Option (List Int) := serialGo g all all.length []
theorem freeB_iff {out : List Int} {b : Int} : freeB g all out b = true ↔ ∀ k ∈ all, leadsB g k b = true → k ∈ out := by
  unfold freeB
  rw [List.all_eq_true]
  constructor
  · intro h k hk hl
    have := h k hk
    rw [hl] at this
    simpa using this
  · intro h k hk
    cases hl : leadsB g k b with
    | false => simp
    | true => simp [h k hk hl]
theorem pickB_iff {out : List Int} {b : Int} : pickB g all out b = true ↔ b ∉ out ∧ ∀ k ∈ all, leadsB g k b = true → k ∈ out := by
  unfold pickB
  rw [Bool.and_eq_true, freeB_iff]
  simp
structure Ser (g : List Ed) (all out : List Int) : Prop where
  nodup : out.Nodup
  sub : ∀ x ∈ out, x ∈ all
  fits : ∀ pre b r, out = pre ++ b :: r → ∀ k ∈ all, leadsB g k b = true → k ∈ pre
theorem Ser.nil : Ser g all [] := ⟨by simp, by simp, fun pre b r h => by cases pre <;> cases h⟩
theorem Ser.snoc {out : List Int} {b : Int} (h : Ser g all out) (hb : b ∈ all) (hp : pickB g all out b = true) : Ser g all (out ++ [b]) := by
  obtain ⟨h1, h2⟩ := pickB_iff.1 hp
  refine ⟨?_, ?_, ?_⟩
  · rw [List.nodup_append]
    exact ⟨h.nodup, by simp, fun a ha c hc => by simp at hc; subst hc; exact fun e => h1 (e ▸ ha)⟩
  · intro x hx
    rcases List.mem_append.1 hx with hx | hx
    · exact h.sub x hx
    · simp at hx; subst hx; exact hb
  · intro pre c r e k hk hl
    rcases List.eq_nil_or_concat r with rfl | ⟨r', z, rfl⟩
    · obtain ⟨e1, e2⟩ := List.append_inj' e rfl
      simp at e2
      subst e1 e2
      exact h2 k hk hl
    · have e' : out ++ [b] = (pre ++ c :: r') ++ [z] := by rw [e]; simp
      obtain ⟨e1, _⟩ := List.append_inj' e' rfl
      exact h.fits pre c r' e1 k hk hl
theorem nextF_some {out : List Int} {b : Int} (h : nextF g all out = some b) : b ∈ all ∧ pickB g all out b = true := ⟨List.mem_of_find?_eq_some h, List.find?_some h⟩
theorem serialGo_some : ∀ (n : Nat) {out s : List Int}, Ser g all out → out.length ≤ all.length → serialGo g all n out = some s → Ser g all s ∧ s.length = all.length
  | 0, out, s, h, hl, e => by
    unfold serialGo at e
    split at e
    · cases e
    · cases e; exact ⟨h, by omega⟩
  | n + 1, out, s, h, hl, e => by
    unfold serialGo at e
    split at e
    · cases hf : nextF g all out with
      | none => rw [hf] at e; cases e
      | some b =>
        rw [hf] at e
        obtain ⟨h1, h2⟩ := nextF_some hf
        exact serialGo_some n (h.snoc h1 h2) (by simp; omega) e
    · cases e; exact ⟨h, by omega⟩
theorem serialGo_none : ∀ (n : Nat) {out : List Int}, Ser g all out → all.length ≤ out.length + n → serialGo g all n out = none → ∃ out', Ser g all out' ∧ out'.length < all.length ∧ nextF g all out' = none
  | 0, out, h, hl, e => by
    unfold serialGo at e
    split at e
    · omega
    · cases e
  | n + 1, out, h, hl, e => by
    unfold serialGo at e
    split at e
    · rename_i hlt
      cases hf : nextF g all out with
      | none => exact ⟨out, h, hlt, hf⟩
      | some b =>
        rw [hf] at e
        obtain ⟨h1, h2⟩ := nextF_some hf
        exact serialGo_none n (h.snoc h1 h2) (by simp; omega) e
    · cases e
theorem serialL_some {s : List Int} (h : serialL g all = some s) : Ser g all s ∧ s.length = all.length := serialGo_some _ Ser.nil (by simp) h

/-- Ways along edges. -/
inductive Way (g : List Ed) : Int → Int → Prop
  | one {a b : Int} : leadsB g a b = true → Way g a b
  | snoc {a b c : Int} : Way g a b → leadsB g b c = true → Way g a c
theorem Way.trans {a b c : Int} (h : Way g a b) (k : Way g b c) : Way g a c := by
  induction k with
  | one k => exact h.snoc k
  | snoc _ k ih => exact ih.snoc k
theorem len_sub : ∀ {l m : List Int}, l.Nodup → (∀ x ∈ l, x ∈ m) → l.length ≤ m.length
  | [], m, _, _ => Nat.zero_le _
  | a :: l, m, hn, hs => by
    rw [List.nodup_cons] at hn
    have ha := hs a (by simp)
    have := len_sub (m := m.erase a) hn.2 (fun x hx => by
      have hne : x ≠ a := fun e => hn.1 (by rw [← e]; exact hx)
      exact (List.mem_erase_of_ne hne).2 (hs x (by simp [hx])))
    rw [List.length_erase_of_mem ha] at this
    have := List.length_pos_of_mem ha
    simp
    omega
theorem mem_of_len {s : List Int} (hn : s.Nodup) (hs : ∀ x ∈ s, x ∈ all) (hl : all.length ≤ s.length) (x : Int) (hx : x ∈ all) : x ∈ s := by
  refine Classical.byContradiction fun e => ?_
  have := len_sub (l := x :: s) (m := all) (List.nodup_cons.2 ⟨e, hn⟩) (fun y hy => by
    rcases List.mem_cons.1 hy with rfl | hy
    · exact hx
    · exact hs y hy)
  simp at this
  omega
theorem Ser.before {s : List Int} (h : Ser g all s) (hg : GOk g all) (hall : ∀ x ∈ all, x ∈ s) {a b : Int} (e : leadsB g a b = true) : s.idxOf a < s.idxOf b := by
  obtain ⟨ha, hb⟩ := hg.memL e
  obtain ⟨pre, r, hs⟩ := List.append_of_mem (hall b hb)
  have hp := h.fits pre b r hs a ha e
  have hn := h.nodup
  rw [hs, List.nodup_append] at hn
  have hbp : b ∉ pre := fun hm => hn.2.2 b hm b (by simp) rfl
  rw [hs, List.idxOf_append, List.idxOf_append, if_pos hp, if_neg hbp]
  have := List.idxOf_lt_length_iff.2 hp
  simp
  omega
theorem no_way_of_serial {s : List Int} (hg : GOk g all) (h : serialL g all = some s) (a : Int) : ¬ Way g a a := by
  obtain ⟨h1, h2⟩ := serialL_some h
  have hall := mem_of_len h1.nodup h1.sub (by omega)
  have key : ∀ a b, Way g a b → s.idxOf a < s.idxOf b := by
    intro a b hw
    induction hw with
    | one e => exact h1.before hg hall e
    | snoc _ e ih => exact Nat.lt_trans ih (h1.before hg hall e)
  intro hw
  have := key a a hw
  omega
theorem minimal {R : Int → Int → Prop} (irr : ∀ a, ¬ R a a) (tr : ∀ a b c, R a b → R b c → R a c) : ∀ (U : List Int), U ≠ [] → ∃ m ∈ U, ∀ k ∈ U, ¬ R k m
  | [], h => absurd rfl h
  | [a], _ => ⟨a, by simp, fun k hk => by simp at hk; subst hk; exact irr _⟩
  | a :: b :: U, _ => by
    obtain ⟨m, hm, hk⟩ := minimal irr tr (b :: U) (by simp)
    rcases Classical.em (R a m) with h | h
    · refine ⟨a, by simp, fun k hk' => ?_⟩
      rcases List.mem_cons.1 hk' with rfl | hk'
      · exact irr _
      · exact fun e => hk k hk' (tr _ _ _ e h)
    · refine ⟨m, by simp only [List.mem_cons] at hm ⊢; exact .inr hm, fun k hk' => ?_⟩
      rcases List.mem_cons.1 hk' with rfl | hk'
      · exact h
      · exact hk k hk'
theorem way_of_none (hg : GOk g all) (h : serialL g all = none) : ∃ a, Way g a a := by
  obtain ⟨out, h1, h2, h3⟩ := serialGo_none _ Ser.nil (by simp) h
  refine Classical.byContradiction fun hno => ?_
  have hno' : ∀ a, ¬ Way g a a := fun a ha => hno ⟨a, ha⟩
  obtain ⟨x, hx, hxo⟩ : ∃ x ∈ all, x ∉ out := by
    refine Classical.byContradiction fun hn => ?_
    have : ∀ x ∈ all, x ∈ out := fun x hx => Classical.byContradiction fun e => hn ⟨x, hx, e⟩
    have := len_sub hg.rise.nodup this
    omega
  obtain ⟨m, hm, hk⟩ := minimal hno' (fun a b c => Way.trans) (all.filter (fun x => !out.contains x)) (fun e => by
    have : x ∈ all.filter (fun x => !out.contains x) := by rw [List.mem_filter]; exact ⟨hx, by simp [hxo]⟩
    rw [e] at this
    cases this)
  rw [List.mem_filter] at hm
  have h4 := List.find?_eq_none.1 h3 m hm.1
  apply h4
  rw [pickB_iff]
  refine ⟨by simpa using hm.2, fun k hk' hl => Classical.byContradiction fun e => ?_⟩
  exact hk k (by rw [List.mem_filter]; exact ⟨hk', by simp [e]⟩) (.one hl)

/-- The ring. -/
def scanR (g : List Ed) (n last : Int) (w : List Int) : List Int → List Int → List (List Int) → Option (List Int × List (List Int))
  | [], met, ways => some (met, ways)
  | k :: ks, met, ways =>
    if leadsB g last k = true then
      if k = n then none
      else if k ∈ met then scanR g n last w ks met ways else scanR g n last w ks (met ++ [k]) (ways ++ [w ++ [k]])
    else scanR g n last w ks met ways
def bfsR (g : List Ed) (all : List Int) (n : Int) : Nat → Nat → List Int → List (List Int) → List Int
  | 0, _, _, _ => []
  | f + 1, m, met, ways =>
    match ways[m]? with
    | none => []
    | some w =>
      match scanR g n (w.getLastD 0) w all met ways with
      | none => w
      | some (met', ways') => bfsR g all n f (m + 1) met' ways'
def aroundR (g : List Ed) (all : List Int) (n : Int) : List Int := bfsR g all n (all.length + 1) 0 [] [[n]]
def ringGo (g : List Ed) (all : List Int) : List Int → List Int
  | [] => []
  | n :: r => if aroundR g all n = [] then ringGo g all r else aroundR g all n
def ringL (g : List Ed) (all : List Int) : List Int := ringGo g all all

/-- A way from n that is known. -/
structure WayOk (g : List Ed) (n : Int) (w : List Int) : Prop where
  ne : w ≠ []
  head : w[0]? = some n
  chain : ∀ i a b, w[i]? = some a → w[i + 1]? = some b → leadsB g a b = true
theorem WayOk.snoc {n : Int} {w : List Int} {k : Int} (h : WayOk g n w) (hk : leadsB g (w.getLastD 0) k = true) : WayOk g n (w ++ [k]) := by
  have hp : 0 < w.length := List.length_pos_iff.2 h.ne
  refine ⟨by simp, by rw [List.getElem?_append_left hp]; exact h.head, fun i a b ha hb => ?_⟩
  rcases Nat.lt_trichotomy (i + 1) w.length with hlt | heq | hgt
  · rw [List.getElem?_append_left (by omega)] at ha hb
    exact h.chain i a b ha hb
  · rw [List.getElem?_append_left (by omega)] at ha
    rw [List.getElem?_append_right (by omega)] at hb
    have : i + 1 - w.length = 0 := by omega
    rw [this] at hb
    simp at hb
    subst hb
    have hl : w.getLastD 0 = a := by
      rw [List.getLastD_eq_getLast?, List.getLast?_eq_getElem?]
      have : w.length - 1 = i := by omega
      rw [this, ha]
      rfl
    rwa [hl] at hk
  · rw [List.getElem?_append_right (by omega)] at hb
    have := (List.getElem?_eq_some_iff.1 hb).1
    simp at this
    omega
structure Bfs (g : List Ed) (all : List Int) (n : Int) (met : List Int) (ways : List (List Int)) : Prop where
  len : ways.length = met.length + 1
  w0 : ways[0]? = some [n]
  last : ∀ (i : Nat) w, ways[i + 1]? = some w → met[i]? = some (w.getLastD 0)
  ok : ∀ w ∈ ways, WayOk g n w
  nodup : met.Nodup
  sub : ∀ x ∈ met, x ∈ all
  notn : n ∉ met
theorem Bfs.start (n : Int) : Bfs g all n [] [[n]] where
  len := rfl
  w0 := rfl
  last i w h := by simp at h
  ok w hw := by
    simp at hw; subst hw
    exact ⟨by simp, rfl, fun i a b ha hb => by simp at hb⟩
  nodup := by simp
  sub := by simp
  notn := by simp
theorem Bfs.push {n : Int} {met : List Int} {ways : List (List Int)} {w : List Int} {k : Int} (h : Bfs g all n met ways) (hw : w ∈ ways) (hl : leadsB g (w.getLastD 0) k = true) (hn : k ≠ n) (hm : k ∉ met) (hk : k ∈ all) : Bfs g all n (met ++ [k]) (ways ++ [w ++ [k]]) := by
  refine ⟨by simp [h.len], ?_, ?_, ?_, ?_, ?_, ?_⟩
  · rw [List.getElem?_append_left (by rw [h.len]; omega)]
    exact h.w0
  · intro i v hv
    rcases Nat.lt_or_ge i met.length with hi | hi
    · rw [List.getElem?_append_left (by rw [h.len]; omega)] at hv
      rw [List.getElem?_append_left hi]
      exact h.last i v hv
    · rw [List.getElem?_append_right (by rw [h.len]; omega), h.len] at hv
      have hlt := (List.getElem?_eq_some_iff.1 hv).1
      simp at hlt
      have e : i = met.length := by omega
      subst e
      simp at hv
      subst hv
      simp [List.getLastD_eq_getLast?]
  · intro v hv
    rcases List.mem_append.1 hv with hv | hv
    · exact h.ok v hv
    · simp at hv; subst hv
      exact (h.ok w hw).snoc hl
  · rw [List.nodup_append]
    exact ⟨h.nodup, by simp, fun a ha c hc => by simp at hc; subst hc; exact fun e => hm (e ▸ ha)⟩
  · intro x hx
    rcases List.mem_append.1 hx with hx | hx
    · exact h.sub x hx
    · simp at hx; subst hx; exact hk
  · intro hx
    rcases List.mem_append.1 hx with hx | hx
    · exact h.notn hx
    · simp at hx; exact hn hx.symm
theorem scanR_some {n last : Int} {w : List Int} (hl : w.getLastD 0 = last) : ∀ (ks : List Int) {met : List Int} {ways : List (List Int)} {met' : List Int} {ways' : List (List Int)}, Bfs g all n met ways → w ∈ ways → (∀ k ∈ ks, k ∈ all) → scanR g n last w ks met ways = some (met', ways') →
    Bfs g all n met' ways' ∧ (∃ r, met' = met ++ r) ∧ (∃ r, ways' = ways ++ r) ∧ ∀ k ∈ ks, leadsB g last k = true → k ≠ n ∧ k ∈ met'
  | [], met, ways, met', ways', h, hw, hk, e => by
    unfold scanR at e
    cases e
    exact ⟨h, ⟨[], by simp⟩, ⟨[], by simp⟩, by simp⟩
  | k :: ks, met, ways, met', ways', h, hw, hk, e => by
    unfold scanR at e
    split at e
    · rename_i h1
      split at e
      · cases e
      · rename_i h2
        split at e
        · rename_i h3
          obtain ⟨i1, ⟨r, i2⟩, i3, i4⟩ := scanR_some hl ks h hw (fun k hk' => hk k (by simp [hk'])) e
          refine ⟨i1, ⟨r, i2⟩, i3, fun x hx hxl => ?_⟩
          rcases List.mem_cons.1 hx with rfl | hx
          · exact ⟨h2, by rw [i2]; simp [h3]⟩
          · exact i4 x hx hxl
        · rename_i h3
          obtain ⟨i1, ⟨r, i2⟩, ⟨r', i3⟩, i4⟩ := scanR_some hl ks (h.push hw (by rw [hl]; exact h1) h2 h3 (hk k (by simp))) (by simp [hw]) (fun k hk' => hk k (by simp [hk'])) e
          refine ⟨i1, ⟨k :: r, by rw [i2]; simp⟩, ⟨(w ++ [k]) :: r', by rw [i3]; simp⟩, fun x hx hxl => ?_⟩
          rcases List.mem_cons.1 hx with rfl | hx
          · exact ⟨h2, by rw [i2]; simp⟩
          · exact i4 x hx hxl
    · rename_i h1
      obtain ⟨i1, i2, i3, i4⟩ := scanR_some hl ks h hw (fun k hk' => hk k (by simp [hk'])) e
      refine ⟨i1, i2, i3, fun x hx hxl => ?_⟩
      rcases List.mem_cons.1 hx with rfl | hx
      · exact absurd hxl h1
      · exact i4 x hx hxl
theorem scanR_none {n last : Int} {w : List Int} : ∀ (ks : List Int) {met : List Int} {ways : List (List Int)}, scanR g n last w ks met ways = none → n ∈ ks ∧ leadsB g last n = true
  | [], met, ways, e => by unfold scanR at e; cases e
  | k :: ks, met, ways, e => by
    unfold scanR at e
    split at e
    · rename_i h1
      split at e
      · rename_i h2; subst h2; exact ⟨by simp, h1⟩
      · split at e
        · obtain ⟨i1, i2⟩ := scanR_none ks e; exact ⟨by simp [i1], i2⟩
        · obtain ⟨i1, i2⟩ := scanR_none ks e; exact ⟨by simp [i1], i2⟩
    · obtain ⟨i1, i2⟩ := scanR_none ks e; exact ⟨by simp [i1], i2⟩
/-- What the first m ways lead to is met. -/
def Seen (g : List Ed) (all : List Int) (n : Int) (m : Nat) (met : List Int) (ways : List (List Int)) : Prop := ∀ i w, i < m → ways[i]? = some w → ∀ k ∈ all, leadsB g (w.getLastD 0) k = true → k ≠ n ∧ k ∈ met
theorem bfsR_spec (hg : GOk g all) (n : Int) : ∀ (f m : Nat) {met : List Int} {ways : List (List Int)}, Bfs g all n met ways → Seen g all n m met ways → m ≤ ways.length → all.length + 1 ≤ f + m →
    (bfsR g all n f m met ways ≠ [] → WayOk g n (bfsR g all n f m met ways) ∧ leadsB g ((bfsR g all n f m met ways).getLastD 0) n = true) ∧ (bfsR g all n f m met ways = [] → ¬ Way g n n)
  | 0, m, met, ways, h, hs, hm, hf => by
    refine ⟨fun e => absurd rfl e, fun _ => ?_⟩
    have hle : met.length ≤ all.length := len_sub h.nodup h.sub
    have hme : m = ways.length := by have := h.len; omega
    exact bfs_end hg h (by rw [← hme]; exact hs)
  | f + 1, m, met, ways, h, hs, hm, hf => by
    unfold bfsR
    cases hw : ways[m]? with
    | none =>
      refine ⟨fun e => absurd rfl e, fun _ => ?_⟩
      have hme : m = ways.length := by
        have := List.getElem?_eq_none_iff.1 hw
        omega
      exact bfs_end hg h (by rw [← hme]; exact hs)
    | some w =>
      have hwm := List.mem_of_getElem? hw
      simp only
      cases hsc : scanR g n (w.getLastD 0) w all met ways with
      | none =>
        obtain ⟨_, h2⟩ := scanR_none all hsc
        exact ⟨fun _ => ⟨h.ok w hwm, h2⟩, fun e => absurd e (h.ok w hwm).ne⟩
      | some p =>
        obtain ⟨met', ways'⟩ := p
        obtain ⟨i1, ⟨r, i2⟩, ⟨r', i3⟩, i4⟩ := scanR_some rfl all h hwm (fun _ h => h) hsc
        have hml := (List.getElem?_eq_some_iff.1 hw).1
        refine bfsR_spec hg n f (m + 1) i1 ?_ (by rw [i3]; simp; omega) (by omega)
        intro i v hi hv k hk hl
        rcases Nat.lt_or_ge i m with hlt | hge
        · rw [i3, List.getElem?_append_left (by omega)] at hv
          obtain ⟨j1, j2⟩ := hs i v hlt hv k hk hl
          exact ⟨j1, by rw [i2]; simp [j2]⟩
        · have e : i = m := by omega
          subst e
          rw [i3, List.getElem?_append_left hml, hw] at hv
          cases hv
          exact i4 k hk hl
where
  bfs_end (hg : GOk g all) {n : Int} {met : List Int} {ways : List (List Int)} (h : Bfs g all n met ways) (hs : Seen g all n ways.length met ways) : ¬ Way g n n := by
    have hmet : ∀ x ∈ met, ∀ k ∈ all, leadsB g x k = true → k ≠ n ∧ k ∈ met := by
      intro x hx k hk hl
      obtain ⟨i, hi, rfl⟩ := List.getElem_of_mem hx
      have hlt : i + 1 < ways.length := by rw [h.len]; omega
      have hw : ways[i + 1]? = some ways[i + 1] := List.getElem?_eq_getElem hlt
      have h1 := h.last i _ hw
      rw [List.getElem?_eq_getElem hi] at h1
      have h1' := Option.some.inj h1
      exact hs (i + 1) _ hlt hw k hk (by rw [← h1']; exact hl)
    have hn0 : ∀ k ∈ all, leadsB g n k = true → k ≠ n ∧ k ∈ met := by
      intro k hk hl
      exact hs 0 [n] (by rw [h.len]; omega) h.w0 k hk hl
    have key : ∀ a b, Way g a b → a = n → b ≠ n ∧ b ∈ met := by
      intro a b hw
      induction hw with
      | one e => rintro rfl; exact hn0 _ (hg.memL e).2 e
      | snoc _ e ih => intro ea; exact hmet _ (ih ea).2 _ (hg.memL e).2 e
    intro hw
    exact (key n n hw rfl).1 rfl
theorem aroundR_spec (hg : GOk g all) (n : Int) : (aroundR g all n ≠ [] → WayOk g n (aroundR g all n) ∧ leadsB g ((aroundR g all n).getLastD 0) n = true) ∧ (aroundR g all n = [] → ¬ Way g n n) :=
  bfsR_spec hg n _ 0 (Bfs.start n) (fun i w h => by omega) (by simp) (by omega)
theorem ringGo_spec (hg : GOk g all) : ∀ (l : List Int), (ringGo g all l ≠ [] → ∃ n, WayOk g n (ringGo g all l) ∧ leadsB g ((ringGo g all l).getLastD 0) n = true) ∧ (ringGo g all l = [] → ∀ n ∈ l, ¬ Way g n n)
  | [] => ⟨fun h => absurd rfl h, fun _ n hn => by cases hn⟩
  | n :: r => by
    unfold ringGo
    split
    · rename_i e
      obtain ⟨h1, h2⟩ := ringGo_spec hg r
      refine ⟨h1, fun e2 x hx => ?_⟩
      rcases List.mem_cons.1 hx with rfl | hx
      · exact (aroundR_spec hg _).2 e
      · exact h2 e2 x hx
    · rename_i e
      exact ⟨fun _ => ⟨n, (aroundR_spec hg n).1 e⟩, fun e2 => absurd e2 e⟩
theorem Way.mem (hg : GOk g all) {a b : Int} (h : Way g a b) : a ∈ all := by
  induction h with
  | one e => exact (hg.memL e).1
  | snoc _ _ ih => exact ih
/-- There is a way round just where there is a ring. -/
theorem WayOk.way {n : Int} {w : List Int} (h : WayOk g n w) : ∀ (i : Nat) a, w[i]? = some a → a = n ∨ Way g n a
  | 0, a, ha => by rw [h.head] at ha; cases ha; exact .inl rfl
  | i + 1, a, ha => by
    have hlt := (List.getElem?_eq_some_iff.1 ha).1
    have hb : w[i]? = some w[i] := List.getElem?_eq_getElem (by omega)
    have hl := h.chain i _ _ hb ha
    rcases h.way i _ hb with e | e
    · rw [e] at hl; exact .inr (.one hl)
    · exact .inr (e.snoc hl)
theorem WayOk.round {n : Int} {w : List Int} (h : WayOk g n w) (hl : leadsB g (w.getLastD 0) n = true) : Way g n n := by
  have hp : 0 < w.length := List.length_pos_iff.2 h.ne
  have hlast : w[w.length - 1]? = some (w.getLastD 0) := by
    rw [List.getLastD_eq_getLast?, List.getLast?_eq_getElem?, List.getElem?_eq_getElem (by omega)]
    rfl
  rcases h.way _ _ hlast with e | e
  · rw [e] at hl; exact .one hl
  · exact e.snoc hl
theorem ring_iff (hg : GOk g all) : ringL g all = [] ↔ (serialL g all).isSome = true := by
  obtain ⟨h1, h2⟩ := ringGo_spec hg all
  constructor
  · intro e
    cases hs : serialL g all with
    | some s => rfl
    | none =>
      obtain ⟨a, ha⟩ := way_of_none hg hs
      exact absurd ha (h2 e a (ha.mem hg))
  · intro hs
    obtain ⟨s, hs⟩ := Option.isSome_iff_exists.1 hs
    refine Classical.byContradiction fun e => ?_
    obtain ⟨n, g1, g2⟩ := h1 e
    exact no_way_of_serial hg hs n (g1.round g2)
/-- In a ring each stands ahead of the next one. -/
theorem ring_leads (hg : GOk g all) (i : Nat) (hi : i < (ringL g all).length) : leadsB g ((ringL g all).getD i 0) ((ringL g all).getD ((i + 1) % (ringL g all).length) 0) = true := by
  obtain ⟨h1, _⟩ := ringGo_spec hg all
  have hne : ringGo g all all ≠ [] := by
    intro e
    have e' : ringL g all = [] := e
    rw [e'] at hi
    simp at hi
  obtain ⟨n, g1, g2⟩ := h1 hne
  have hR : ringGo g all all = ringL g all := rfl
  rw [hR] at g1 g2
  rcases Nat.lt_or_ge (i + 1) (ringL g all).length with hlt | hge
  · rw [Nat.mod_eq_of_lt hlt]
    simp only [List.getD_eq_getElem?_getD, List.getElem?_eq_getElem hi, List.getElem?_eq_getElem hlt, Option.getD_some]
    exact g1.chain i _ _ (List.getElem?_eq_getElem hi) (List.getElem?_eq_getElem hlt)
  · have e : i + 1 = (ringL g all).length := by omega
    rw [e, Nat.mod_self, List.getD_eq_getElem?_getD (i := 0), g1.head]
    have : (ringL g all).getD i 0 = (ringL g all).getLastD 0 := by
      rw [List.getLastD_eq_getLast?, List.getLast?_eq_getElem?, List.getD_eq_getElem?_getD]
      congr 2
      omega
    rw [this]
    exact g2
theorem ring_long (hg : GOk g all) (h : ringL g all ≠ []) : 1 < (ringL g all).length := by
  have hp : 0 < (ringL g all).length := List.length_pos_iff.2 h
  rcases Nat.lt_or_ge 1 (ringL g all).length with h1 | h1
  · exact h1
  · have e : (ringL g all).length = 1 := by omega
    have := ring_leads hg 0 hp
    rw [e] at this
    rw [hg.irr] at this
    cases this
/-- In the order none stands behind what stands behind it. -/
theorem serial_back (hg : GOk g all) {s : List Int} (h : serialL g all = some s) {i k : Nat} (hk : k < i) (hi : i < s.length) : s.getD i 0 ≠ s.getD k 0 ∧ leadsB g (s.getD i 0) (s.getD k 0) = false := by
  obtain ⟨h1, h2⟩ := serialL_some h
  have gi : s.getD i 0 = s[i] := by simp [List.getD_eq_getElem?_getD, hi]
  have gk : s.getD k 0 = s[k] := by simp [List.getD_eq_getElem?_getD, Nat.lt_trans hk hi]
  rw [gi, gk]
  have hne : s[i] ≠ s[k] := fun e => by
    have := List.pairwise_iff_getElem.1 h1.nodup k i (by omega) hi hk
    exact this e.symm
  refine ⟨hne, ?_⟩
  cases hl : leadsB g s[i] s[k] with
  | false => rfl
  | true =>
    have hsp : s = s.take k ++ s[k] :: s.drop (k + 1) := by rw [← List.drop_eq_getElem_cons (by omega), List.take_append_drop]
    have hm := h1.fits _ _ _ hsp s[i] (hg.memL hl).1 hl
    obtain ⟨j, hj, e⟩ := List.mem_take_iff_getElem.1 hm
    have := List.pairwise_iff_getElem.1 h1.nodup j i (by omega) hi (by omega)
    exact absurd e this
end
end Go.Proofs.YteddiknlcdbhjaaGreat.TrP

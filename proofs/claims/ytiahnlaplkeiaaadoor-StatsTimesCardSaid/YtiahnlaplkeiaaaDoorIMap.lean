/-
  Maps whose keys are integers: what they hold, what a look-up, a store, a delete, an assignment's two halves make of them. No program in sight.
-/
import Derived.Test.YtiahnlaplkeiaaaDoorApp
import Derived.MapKept
import Derived.Maps.Own
set_option linter.unusedVariables false
namespace Go.Proofs.YtiahnlaplkeiaaaDoor
open Go Go.RowKit Go.MapKept

abbrev IEnt := Int × Value × Nat
def ent (q : IntKind) (p : IEnt) : MapEntry := { key := .int q p.1, val := p.2.1, born := p.2.2 }
structure IRaw (w : World) (q : IntKind) (b : Nat) (L : List IEnt) (c : Nat) : Prop where
  blk : w.heap[b]? = some (.map (L.map (ent q)).toArray c)
  keys : (L.map (·.1)).Nodup
  stamps : (L.map (·.2.2)).Nodup
  lt : ∀ p ∈ L, p.2.2 < c
def findI (L : List IEnt) (k : Int) : Option Value := (L.find? (fun p => p.1 == k)).map (·.2.1)
/-- Block b is a map with these values, n in all. -/
def IMap (w : World) (q : IntKind) (b : Nat) (f : Int → Option Value) (n : Nat) : Prop := ∃ L c, IRaw w q b L c ∧ (∀ k, f k = findI L k) ∧ L.length = n

section
variable {P : Program} {w w' : World} {q : IntKind} {b : Nat} {L : List IEnt} {c : Nat} {f : Int → Option Value} {n : Nat}
theorem IRaw.lt' (h : IRaw w q b L c) : b < w.heap.size := by
  rcases Nat.lt_or_ge b w.heap.size with hl | hg
  · exact hl
  · have := h.blk
    rw [Array.getElem?_eq_none hg] at this
    cases this
theorem IMap.lt (h : IMap w q b f n) : b < w.heap.size := by
  obtain ⟨L, c, h, _⟩ := h
  exact h.lt'
theorem IMap.upd {S : List Nat} (h : IMap w q b f n) (hu : Upd S w w') (hb : b ∉ S) : IMap w' q b f n := by
  obtain ⟨L, c, h, h1, h2⟩ := h
  exact ⟨L, c, ⟨(hu.keep b h.lt' hb).trans h.blk, h.keys, h.stamps, h.lt⟩, h1, h2⟩
theorem IMap.drew (h : IMap w q b f n) : IMap w.drew q b f n := by
  obtain ⟨L, c, h, h1, h2⟩ := h
  exact ⟨L, c, ⟨h.blk, h.keys, h.stamps, h.lt⟩, h1, h2⟩
theorem IMap.new (w : World) (q : IntKind) : IMap (w.alloc (.map #[] 0)) q w.heap.size (fun _ => none) 0 :=
  ⟨[], 0, ⟨by simpa using heap_alloc_new w (.map #[] 0), by simp, by simp, by simp⟩, fun _ => rfl, rfl⟩
theorem IMap.congr {g : Int → Option Value} (h : IMap w q b f n) (hg : ∀ k, f k = g k) : IMap w q b g n := by
  obtain ⟨L, c, h, h1, h2⟩ := h
  exact ⟨L, c, h, fun k => (hg k).symm.trans (h1 k), h2⟩

theorem findNow_ent (k : Int) : ∀ (L : List IEnt) (i : Nat), Instr.findNow (.int q) (.int q k) (L.map (ent q)) i = some ((L.findIdx? (fun p => p.1 == k)).map (fun j => (i + j, (L.getD j (0, undef, 0)).2.1)))
  | [], i => rfl
  | p :: L, i => by
    rw [List.map_cons]
    unfold Instr.findNow
    have e : Instr.sameNow (.int q) (.int q k) (ent q p).key = some (k == p.1) := by simp [Instr.sameNow, ent]
    rw [e]
    by_cases h : p.1 = k
    · subst h
      simp [ent, List.findIdx?_cons]
    · have h1 : (k == p.1) = false := by simpa using fun e => h e.symm
      have h2 : (p.1 == k) = false := by simpa using h
      rw [h1]
      simp only
      rw [findNow_ent k L (i + 1), List.findIdx?_cons, h2]
      cases L.findIdx? (fun p => p.1 == k) with
      | none => rfl
      | some j => simp; omega
theorem findI_idx {k : Int} : findI L k = (L.findIdx? (fun p => p.1 == k)).map (fun j => (L.getD j (0, undef, 0)).2.1) := by
  induction L with
  | nil => rfl
  | cons p L ih =>
    unfold findI at ih ⊢
    rw [List.find?_cons, List.findIdx?_cons]
    cases h : p.1 == k with
    | true => simp
    | false =>
      simp only [Bool.false_eq_true, if_false]
      rw [ih]
      cases L.findIdx? (fun p => p.1 == k) <;> simp
theorem run_findKey_int {kt : TypeId} (hk : P.underlying kt = some (.int q)) (k : Int) (L : List IEnt) (W : World) : (Instr.findKey kt (.int q k) (L.map (ent q))).run P W = .ok ((L.findIdx? (fun p => p.1 == k)).map (fun j => (j, (L.getD j (0, undef, 0)).2.1))) W := by
  unfold Instr.findKey
  simp only [Sem.run_bind, run_underlying hk, Result.andThen]
  rw [findNow_ent]
  simp
theorem run_getObj_blk {b : Nat} {es : Array MapEntry} {c : Nat} (h : w.heap[b]? = some (.map es c)) : (getObj b).run P w = .ok (.map es c) w := by
  simp [getObj, Sem.run, h]
theorem run_lookup_int {mt kt et : TypeId} {z : Value} (hm : P.underlying mt = some (.map kt et)) (hk : P.underlying kt = some (.int q)) (hz : (zeroValue et).run P w = .ok z w) (h : IMap w q b f n) (k : Int) :
    (Instr.lookup mt (.map (some b)) (.int q k) true).run P w = .ok (.tuple #[(f k).getD z, .bool (f k).isSome]) w := by
  obtain ⟨L, c, h, hf, _⟩ := h
  rw [hf, findI_idx]
  unfold Instr.lookup
  simp only [Sem.run_bind, run_underlying hm, Result.andThen, run_getObj_blk h.blk, Sem.run_pure, run_checkKey hk (show IsKey (.int q) (.int q k) by simp [IsKey])]
  have e : (Instr.findKey kt (.int q k) (L.map (ent q)).toArray.toList).run P w = _ := run_findKey_int hk k L w
  rw [e]
  simp only
  cases L.findIdx? (fun p => p.1 == k) with
  | none => simp [Sem.run_bind, hz, Result.andThen]
  | some j => simp [Result.andThen]
theorem run_lookup_int' {mt kt et : TypeId} {z : Value} (hm : P.underlying mt = some (.map kt et)) (hk : P.underlying kt = some (.int q)) (hz : (zeroValue et).run P w = .ok z w) (h : IMap w q b f n) (k : Int) :
    (Instr.lookup mt (.map (some b)) (.int q k) false).run P w = .ok ((f k).getD z) w := by
  obtain ⟨L, c, h, hf, _⟩ := h
  rw [hf, findI_idx]
  unfold Instr.lookup
  simp only [Sem.run_bind, run_underlying hm, Result.andThen, run_getObj_blk h.blk, Sem.run_pure, run_checkKey hk (show IsKey (.int q) (.int q k) by simp [IsKey])]
  have e : (Instr.findKey kt (.int q k) (L.map (ent q)).toArray.toList).run P w = _ := run_findKey_int hk k L w
  rw [e]
  simp only
  cases L.findIdx? (fun p => p.1 == k) with
  | none => simp [Sem.run_bind, hz, Result.andThen]
  | some j => simp [Result.andThen]

def putI (f : Int → Option Value) (k : Int) (v : Value) : Int → Option Value := fun x => if x = k then some v else f x
def delI (f : Int → Option Value) (k : Int) : Int → Option Value := fun x => if x = k then none else f x
theorem upd_setBlk {b : Nat} (o : Obj) (hb : b < w.heap.size) : Upd [b] w { w with heap := w.heap.setIfInBounds b o } :=
  ⟨rfl, rfl, rfl, by simp, fun k hk hn => by
    have : b ≠ k := fun e => hn (by simp [e])
    simp [this]⟩
theorem find_some_mem {k : Int} {j : Nat} (h : L.findIdx? (fun p => p.1 == k) = some j) : ∃ hj : j < L.length, L[j].1 = k := by
  rw [List.findIdx?_eq_some_iff_getElem] at h
  obtain ⟨hj, h1, _⟩ := h
  exact ⟨hj, by simpa using h1⟩
theorem find_none {k : Int} (h : L.findIdx? (fun p => p.1 == k) = none) : ∀ p ∈ L, p.1 ≠ k := by
  rw [List.findIdx?_eq_none_iff] at h
  intro p hp
  simpa using h p hp
theorem findI_none {k : Int} (h : ∀ p ∈ L, p.1 ≠ k) : findI L k = none := by
  unfold findI
  rw [List.find?_eq_none.2 (fun p hp => by simpa using h p hp)]
  rfl
/-- What a list of entries with unlike keys has. -/
theorem findI_mem (hn : (L.map (·.1)).Nodup) {p : IEnt} (hp : p ∈ L) : findI L p.1 = some p.2.1 := by
  induction L with
  | nil => simp at hp
  | cons a L ih =>
    rw [List.map_cons, List.nodup_cons] at hn
    unfold findI at ih ⊢
    rw [List.find?_cons]
    rcases List.mem_cons.1 hp with rfl | hp
    · simp
    · have : (a.1 == p.1) = false := by
        have : a.1 ≠ p.1 := fun e => hn.1 (e ▸ List.mem_map.2 ⟨p, hp, rfl⟩)
        simpa using this
      rw [this]
      exact ih hn.2 hp
theorem findI_append {M : List IEnt} (k : Int) : findI (L ++ M) k = (findI L k).or (findI M k) := by
  unfold findI
  rw [List.find?_append]
  cases L.find? (fun p => p.1 == k) <;> simp
theorem findI_set {j : Nat} {k : Int} (hn : (L.map (·.1)).Nodup) (hj : j < L.length) (hk : L[j].1 = k) (v : Value) (s : Nat) (x : Int) : findI (L.set j (k, v, s)) x = if x = k then some v else findI L x := by
  induction L generalizing j with
  | nil => simp at hj
  | cons a L ih =>
    rw [List.map_cons, List.nodup_cons] at hn
    cases j with
    | zero =>
      simp only [List.getElem_cons_zero] at hk
      rw [List.set_cons_zero]
      unfold findI
      rw [List.find?_cons, List.find?_cons, hk]
      by_cases h : x = k
      · subst h; simp
      · have : (k == x) = false := by simpa using fun e => h e.symm
        simp only [this]
        rw [if_neg h]
    | succ j =>
      rw [List.set_cons_succ]
      unfold findI at ih ⊢
      rw [List.find?_cons, List.find?_cons]
      by_cases h : a.1 = x
      · subst h
        have : a.1 ≠ k := fun e => hn.1 (by
          have hj' : j < L.length := by simpa using hj
          refine List.mem_map.2 ⟨L[j], List.getElem_mem hj', ?_⟩
          simpa [e] using hk)
        simp [this]
      · have : (a.1 == x) = false := by simpa using h
        rw [this]
        simp only
        exact ih hn.2 (by simpa using hj) (by simpa using hk)
theorem set_same {α : Type} {l : List α} {j : Nat} {x : α} (hj : j < l.length) (h : l[j] = x) : l.set j x = l := by
  subst h
  exact List.set_getElem_self hj
theorem IRaw.set {j : Nat} {k : Int} (h : IRaw w q b L c) (hj : j < L.length) (hk : L[j].1 = k) (v : Value) : IRaw { w with heap := w.heap.setIfInBounds b (.map ((L.set j (k, v, L[j].2.2)).map (ent q)).toArray c) } q b (L.set j (k, v, L[j].2.2)) c := by
  refine ⟨(heap_set h.blk).1, ?_, ?_, ?_⟩
  · rw [List.map_set, set_same (by simpa using hj) (by simpa using hk)]
    exact h.keys
  · rw [List.map_set, set_same (by simpa using hj) (by simp)]
    exact h.stamps
  · intro p hp
    rcases List.mem_or_eq_of_mem_set hp with hp | rfl
    · exact h.lt p hp
    · exact h.lt L[j] (List.getElem_mem hj)
theorem IRaw.push {k : Int} (h : IRaw w q b L c) (hk : ∀ p ∈ L, p.1 ≠ k) (v : Value) : IRaw { w with heap := w.heap.setIfInBounds b (.map ((L ++ [(k, v, c)]).map (ent q)).toArray (c + 1)) } q b (L ++ [(k, v, c)]) (c + 1) := by
  refine ⟨(heap_set h.blk).1, ?_, ?_, ?_⟩
  · rw [List.map_append, List.nodup_append]
    refine ⟨h.keys, by simp, ?_⟩
    intro a ha x hx
    simp at hx
    subst hx
    obtain ⟨p, hp, rfl⟩ := List.mem_map.1 ha
    exact hk p hp
  · rw [List.map_append, List.nodup_append]
    refine ⟨h.stamps, by simp, ?_⟩
    intro a ha x hx
    simp at hx
    subst hx
    obtain ⟨p, hp, rfl⟩ := List.mem_map.1 ha
    have := h.lt p hp
    omega
  · intro p hp
    rcases List.mem_append.1 hp with hp | hp
    · have := h.lt p hp; omega
    · simp at hp; subst hp; simp
theorem modify_ent {j : Nat} {k : Int} (hj : j < L.length) (hk : L[j].1 = k) (g : MapEntry → MapEntry) (v : Value) (hg : g (ent q L[j]) = ent q (k, v, L[j].2.2)) : (L.map (ent q)).toArray.modify j g = ((L.set j (k, v, L[j].2.2)).map (ent q)).toArray := by
  apply Array.ext_getElem?
  intro i
  rw [Array.getElem?_modify]
  simp only [List.getElem?_toArray, List.getElem?_map, List.getElem?_set]
  by_cases h : j = i
  · subst h
    simp [hj, hg]
  · simp [h]
theorem run_keyStays (k : Int) (W : World) : (Instr.keyThatStays (.int q k) (.int q k)).run P W = .ok (.int q k) W := by
  unfold Instr.keyThatStays
  have : Instr.sameBits 10000 (.int q k) (.int q k) = true := by simp [Instr.sameBits]
  rw [if_pos this]
  simp
theorem run_mapUpdate_int {mt kt et : TypeId} (hm : P.underlying mt = some (.map kt et)) (hk : P.underlying kt = some (.int q)) (h : IMap w q b f n) (k : Int) (v : Value) :
    ∃ w', (Instr.mapUpdate mt (.map (some b)) (.int q k) v).run P w = .ok () w' ∧ IMap w' q b (putI f k v) (if (f k).isSome then n else n + 1) ∧ Upd [b] w w' := by
  obtain ⟨L, c, h, hf, hn⟩ := h
  have hfk := hf k
  rw [findI_idx] at hfk
  unfold Instr.mapUpdate
  simp only [Sem.run_bind, run_underlying hm, Result.andThen, run_getObj_blk h.blk, run_checkKey hk (show IsKey (.int q) (.int q k) by simp [IsKey])]
  have e : (Instr.findKey kt (.int q k) (L.map (ent q)).toArray.toList).run P w = _ := run_findKey_int hk k L w
  rw [e]
  simp only
  cases hi : L.findIdx? (fun p => p.1 == k) with
  | none =>
    have hno := find_none hi
    rw [hi] at hfk
    rw [hfk]
    refine ⟨_, by simp only [Option.map_none]; exact run_setObj_map _ h.blk, ⟨L ++ [(k, v, c)], c + 1, ?_, fun x => ?_, by simp [hn]⟩, upd_setBlk _ h.lt'⟩
    · have := h.push hno v
      rw [List.map_append] at this
      rw [List.push_toArray]
      exact this
    · unfold putI
      rw [findI_append, hf]
      by_cases hx : x = k
      · subst hx
        rw [if_pos rfl, findI_none hno]
        simp [findI]
      · rw [if_neg hx]
        have : findI [(k, v, c)] x = none := findI_none (by simp; exact fun e => hx e.symm)
        rw [this]
        simp
  | some j =>
    obtain ⟨hj, hjk⟩ := find_some_mem hi
    rw [hi] at hfk
    have hke : (((L.map (ent q)).toArray[j]?).map (·.key)).getD (.int q k) = .int q k := by
      simp [hj, ent, hjk]
    refine ⟨_, ?_, ⟨L.set j (k, v, L[j].2.2), c, h.set hj hjk v, fun x => ?_, by rw [hfk]; simp [hn]⟩, upd_setBlk _ h.lt'⟩
    · simp only [Option.map_some, Sem.run_bind, Result.andThen, hke, run_keyStays]
      rw [modify_ent hj hjk _ v (by simp [ent])]
      exact run_setObj_map _ h.blk
    · unfold putI
      rw [findI_set h.keys hj hjk, hf]
theorem run_delete_int {mt kt et ty : TypeId} {ats : Array TypeId} (ha : ats[0]? = some mt) (hm : P.underlying mt = some (.map kt et)) (hk : P.underlying kt = some (.int q)) (h : IMap w q b f n) (k : Int) :
    ∃ w', (Builtin.delete_ ats ty #[.map (some b), .int q k]).run P w = .ok (.tuple #[]) w' ∧ IMap w' q b (delI f k) (if (f k).isSome then n - 1 else n) ∧ Upd [b] w w' := by
  obtain ⟨L, c, h, hf, hn⟩ := h
  have hfk := hf k
  rw [findI_idx] at hfk
  unfold Builtin.delete_
  rw [ha]
  simp only [List.getElem?_toArray, List.getElem?_cons_zero, List.getElem?_cons_succ, Sem.run_bind, run_underlying hm, Result.andThen, run_getObj_blk h.blk, run_checkKey hk (show IsKey (.int q) (.int q k) by simp [IsKey])]
  have e : (Instr.findKey kt (.int q k) (L.map (ent q)).toArray.toList).run P w = _ := run_findKey_int hk k L w
  rw [e]
  simp only
  cases hi : L.findIdx? (fun p => p.1 == k) with
  | none =>
    have hno := find_none hi
    rw [hi] at hfk
    rw [hfk]
    refine ⟨_, by simp only [Option.map_none, Sem.run_bind, run_setObj_map _ h.blk, Result.andThen, Sem.run_pure], ⟨L, c, ⟨(heap_set h.blk).1, h.keys, h.stamps, h.lt⟩, fun x => ?_, by simp [hn]⟩, upd_setBlk _ h.lt'⟩
    unfold delI
    by_cases hx : x = k
    · subst hx; rw [if_pos rfl, findI_none hno]
    · rw [if_neg hx, hf]
  | some j =>
    obtain ⟨hj, hjk⟩ := find_some_mem hi
    rw [hi] at hfk
    have e1 : (L.map (ent q)).toArray.eraseIdxIfInBounds j = ((L.eraseIdx j).map (ent q)).toArray := by
      have : (L.map (ent q)).eraseIdx j = (L.eraseIdx j).map (ent q) := by
        rw [List.eraseIdx_eq_take_drop_succ, List.eraseIdx_eq_take_drop_succ, List.map_append, List.map_take, List.map_drop]
      simp [Array.eraseIdxIfInBounds, hj, List.eraseIdx_toArray, this]
    refine ⟨{ w with heap := w.heap.setIfInBounds b (.map ((L.eraseIdx j).map (ent q)).toArray c) }, by simp only [Option.map_some, Sem.run_bind, run_setObj_map _ h.blk, Result.andThen, Sem.run_pure]; rw [e1], ⟨L.eraseIdx j, c, ⟨(heap_set h.blk).1, ?_, ?_, fun p hp => h.lt p (List.mem_of_mem_eraseIdx hp)⟩, fun x => ?_, by rw [hfk, List.length_eraseIdx_of_lt hj, hn]; rfl⟩, upd_setBlk _ h.lt'⟩
    · exact h.keys.sublist ((List.eraseIdx_sublist L j).map _)
    · exact h.stamps.sublist ((List.eraseIdx_sublist L j).map _)
    · unfold delI
      have hL : L = L.take j ++ L[j] :: L.drop (j + 1) := by rw [← List.drop_eq_getElem_cons hj, List.take_append_drop]
      have hE : L.eraseIdx j = L.take j ++ L.drop (j + 1) := List.eraseIdx_eq_take_drop_succ ..
      have hnd := h.keys
      rw [hL, List.map_append, List.map_cons, hjk] at hnd
      rw [List.nodup_append, List.nodup_cons] at hnd
      obtain ⟨_, ⟨n1, _⟩, n3⟩ := hnd
      rw [hf, hE]
      conv => lhs; rw [hL]
      rw [findI_append, findI_append]
      by_cases hx : x = k
      · subst hx
        rw [if_pos rfl, findI_none (L := L.take j) (fun p hp e => n3 _ (List.mem_map.2 ⟨p, hp, rfl⟩) _ (List.mem_cons_self ..) e), findI_none (L := L.drop (j + 1)) (fun p hp e => n1 (List.mem_map.2 ⟨p, hp, e⟩))]
        rfl
      · rw [if_neg hx]
        have : findI (L[j] :: L.drop (j + 1)) x = findI (L.drop (j + 1)) x := by
          unfold findI
          rw [List.find?_cons]
          have : (L[j].1 == x) = false := by rw [hjk]; simpa using fun e => hx e.symm
          rw [this]
        rw [this]
/-- An assignment's first half: the entry is found, or made. -/
theorem run_mapEntry_int {mt kt et : TypeId} {z : Value} (hm : P.underlying mt = some (.map kt et)) (hk : P.underlying kt = some (.int q)) (hz : ∀ w, (zeroValue et).run P w = .ok z w) (h : IMap w q b f n) (k : Int) :
    ∃ (w' : World) (s : Nat), (Instr.mapEntry mt (.map (some b)) (.int q k)).run P w = .ok (.tuple #[(f k).getD z, goInt s]) w' ∧ (∃ L c, IRaw w' q b L c ∧ (∃ v, (k, v, s) ∈ L) ∧ (∀ x, findI L x = if x = k then some ((f k).getD z) else f x) ∧ L.length = if (f k).isSome then n else n + 1) ∧ Upd [b] w w' := by
  obtain ⟨L, c, h, hf, hn⟩ := h
  have hfk := hf k
  rw [findI_idx] at hfk
  unfold Instr.mapEntry
  simp only [Sem.run_bind, run_underlying hm, Result.andThen, run_getObj_blk h.blk, run_checkKey hk (show IsKey (.int q) (.int q k) by simp [IsKey])]
  have e : (Instr.findKey kt (.int q k) (L.map (ent q)).toArray.toList).run P w = _ := run_findKey_int hk k L w
  rw [e]
  simp only
  cases hi : L.findIdx? (fun p => p.1 == k) with
  | none =>
    have hno := find_none hi
    rw [hi] at hfk
    rw [hfk]
    refine ⟨_, c, by simp only [Option.map_none, Sem.run_bind, hz, Result.andThen, run_setObj_map _ h.blk, Sem.run_pure]; rfl, ⟨L ++ [(k, z, c)], c + 1, ?_, ⟨z, by simp⟩, fun x => ?_, by simp [hn]⟩, upd_setBlk _ h.lt'⟩
    · have := h.push hno z
      rw [List.map_append] at this
      rw [List.push_toArray]
      exact this
    · rw [findI_append, ← hf]
      by_cases hx : x = k
      · subst hx
        rw [if_pos rfl, hf, findI_none hno]
        simp [findI]
      · rw [if_neg hx]
        have : findI [(k, z, c)] x = none := findI_none (by simp; exact fun e => hx e.symm)
        rw [this]
        simp
  | some j =>
    obtain ⟨hj, hjk⟩ := find_some_mem hi
    rw [hi] at hfk
    have hke : (((L.map (ent q)).toArray[j]?).map (·.key)).getD (.int q k) = .int q k := by
      simp [hj, ent, hjk]
    have hbo : (((L.map (ent q)).toArray[j]?).map (fun x => (x.born : Int))).getD 0 = (L[j].2.2 : Int) := by
      simp [hj, ent]
    have hgd : L.getD j (0, undef, 0) = L[j] := by simp [List.getD_eq_getElem?_getD, hj]
    refine ⟨_, L[j].2.2, ?_, ⟨L.set j (k, L[j].2.1, L[j].2.2), c, h.set hj hjk L[j].2.1, ⟨L[j].2.1, List.mem_iff_getElem.2 ⟨j, by simpa using hj, by simp⟩⟩, fun x => ?_, by rw [hfk]; simp [hn]⟩, upd_setBlk _ h.lt'⟩
    · simp only [Option.map_some, Sem.run_bind, Result.andThen, hke, run_keyStays]
      rw [modify_ent hj hjk _ L[j].2.1 (by simp [ent]), run_setObj_map _ h.blk]
      simp only [Sem.run_pure, hbo, hfk, hgd, Option.map_some, Option.getD_some]
    · rw [findI_set h.keys hj hjk, ← hf, hfk]
      simp only [Option.map_some, Option.getD_some, hgd]
/-- Its second half. -/
theorem run_entryStore_int {mt : TypeId} {s : Nat} {k : Int} {v0 : Value} (h : IRaw w q b L c) (hs : (k, v0, s) ∈ L) (v : Value) :
    ∃ w', (Instr.entryStore mt (.map (some b)) (goInt s) v).run P w = .ok () w' ∧ IMap w' q b (fun x => if x = k then some v else findI L x) L.length ∧ Upd [b] w w' := by
  obtain ⟨j, hj, hjs⟩ := List.mem_iff_getElem.1 hs
  have hidx : (L.map (ent q)).toArray.findIdx? (fun e => (e.born : Int) == (s : Int)) = some j := by
    rw [List.findIdx?_toArray, List.findIdx?_eq_some_iff_getElem]
    refine ⟨by simpa using hj, by simp [ent, hjs], fun i hi => ?_⟩
    simp only [List.getElem_map, ent]
    have hne : L[i].2.2 ≠ s := by
      intro e
      have := List.pairwise_iff_getElem.1 h.stamps i j (by simp; omega) (by simpa using hj) hi
      simp [e, hjs] at this
    simp
    omega
  refine ⟨{ w with heap := w.heap.setIfInBounds b (.map ((L.set j (k, v, L[j].2.2)).map (ent q)).toArray c) }, ?_, ⟨L.set j (k, v, L[j].2.2), c, h.set hj (by rw [hjs]) v, fun x => ?_, by simp⟩, upd_setBlk _ h.lt'⟩
  · unfold Instr.entryStore
    simp only [Sem.run_bind, Result.andThen, run_getObj_blk h.blk]
    have : (asInt (goInt s)).run P w = .ok (s : Int) w := by simp [asInt, asIntOf, goInt, Result.andThen]
    rw [this]
    simp only
    rw [hidx]
    simp only
    rw [modify_ent hj (by rw [hjs]) _ v (by simp [ent, hjs])]
    exact run_setObj_map _ h.blk
  · rw [findI_set h.keys hj (by rw [hjs])]
end
end Go.Proofs.YtiahnlaplkeiaaaDoor

/-
  Maps whatever their keys are, as long as these can be told apart: what they hold, what a look-up, a store, a delete, an assignment's two halves make of them. No program in sight.
  Keys that are structs, or arrays, of integers; a key that is one integer. No program in sight.
  Maps whose keys are integers: what they hold, what a look-up, a store, a delete, an assignment's two halves make of them. No program in sight.
  Going over a map, whatever its keys: each entry comes once, in whatever order. No program in sight.
  Which blocks may have turned, said by a predicate. No program in sight.
  Lists of things that have so many cells each, laid flat; what a slice of them reads as, owns; which blocks a thing's turns may turn. No program in sight.
-/
import Derived.Test.YteddiknlcdbhjaaGreatDoorTgB0
import Derived.MapKept
import Derived.Maps.Own
import Derived.WideKeyRuns
import Derived.Maps.RangeWalk
set_option linter.unusedVariables false
namespace Go.Proofs.YteddiknlcdbhjaaGreatDoor
open Go Go.RowKit Go.MapKept

abbrev KEnt (κ : Type) := κ × Value × Nat
def kent {κ : Type} (kv : κ → Value) (p : KEnt κ) : MapEntry := { key := kv p.1, val := p.2.1, born := p.2.2 }
/-- What is asked of a key's type: finding, checking, staying. -/
structure KLaw {κ : Type} [DecidableEq κ] (P : Program) (kt : TypeId) (kv : κ → Value) : Prop where
  find : ∀ (k : κ) (L : List (KEnt κ)) (W : World), (Instr.findKey kt (kv k) (L.map (kent kv))).run P W = .ok ((L.findIdx? (fun p => p.1 == k)).map (fun j => (j, (L.getD j (k, undef, 0)).2.1))) W
  check : ∀ (em : Bool) (k : κ) (W : World), (Instr.checkKey em 10000 kt (kv k)).run P W = .ok () W
  stays : ∀ (k : κ) (W : World), (Instr.keyThatStays (kv k) (kv k)).run P W = .ok (kv k) W
structure KRaw {κ : Type} (w : World) (kv : κ → Value) (b : Nat) (L : List (KEnt κ)) (c : Nat) : Prop where
  blk : w.heap[b]? = some (.map (L.map (kent kv)).toArray c)
  keys : (L.map (·.1)).Nodup
  stamps : (L.map (·.2.2)).Nodup
  lt : ∀ p ∈ L, p.2.2 < c
def findK {κ : Type} [DecidableEq κ] (L : List (KEnt κ)) (k : κ) : Option Value := (L.find? (fun p => p.1 == k)).map (·.2.1)
/-- Block b is a map with these values, n in all. -/
def KMap {κ : Type} [DecidableEq κ] (w : World) (kv : κ → Value) (b : Nat) (f : κ → Option Value) (n : Nat) : Prop := ∃ L c, KRaw w kv b L c ∧ (∀ k, f k = findK L k) ∧ L.length = n

section
variable {κ : Type} {P : Program} {w w' : World} {kv : κ → Value} {b : Nat} {L : List (KEnt κ)} {c : Nat} {f : κ → Option Value} {n : Nat}
theorem run_getObj_blkK {b : Nat} {es : Array MapEntry} {c : Nat} (h : w.heap[b]? = some (.map es c)) : (getObj b).run P w = .ok (.map es c) w := by
  simp [getObj, Sem.run, h]
theorem KRaw.lt' (h : KRaw w kv b L c) : b < w.heap.size := by
  rcases Nat.lt_or_ge b w.heap.size with hl | hg
  · exact hl
  · have := h.blk
    rw [Array.getElem?_eq_none hg] at this
    cases this
theorem upd_setBlkK {b : Nat} (o : Obj) (hb : b < w.heap.size) : Upd [b] w { w with heap := w.heap.setIfInBounds b o } :=
  ⟨rfl, rfl, rfl, by simp, fun k hk hn => by
    have : b ≠ k := fun e => hn (by simp [e])
    simp [this]⟩
theorem set_sameK {α : Type} {l : List α} {j : Nat} {x : α} (hj : j < l.length) (h : l[j] = x) : l.set j x = l := by
  subst h
  exact List.set_getElem_self hj
theorem KRaw.set {j : Nat} {k : κ} (h : KRaw w kv b L c) (hj : j < L.length) (hk : L[j].1 = k) (v : Value) : KRaw { w with heap := w.heap.setIfInBounds b (.map ((L.set j (k, v, L[j].2.2)).map (kent kv)).toArray c) } kv b (L.set j (k, v, L[j].2.2)) c := by
  refine ⟨(heap_set h.blk).1, ?_, ?_, ?_⟩
  · rw [List.map_set, set_sameK (by simpa using hj) (by simpa using hk)]
    exact h.keys
  · rw [List.map_set, set_sameK (by simpa using hj) (by simp)]
    exact h.stamps
  · intro p hp
    rcases List.mem_or_eq_of_mem_set hp with hp | rfl
    · exact h.lt p hp
    · exact h.lt L[j] (List.getElem_mem hj)
theorem KRaw.push {k : κ} (h : KRaw w kv b L c) (hk : ∀ p ∈ L, p.1 ≠ k) (v : Value) : KRaw { w with heap := w.heap.setIfInBounds b (.map ((L ++ [(k, v, c)]).map (kent kv)).toArray (c + 1)) } kv b (L ++ [(k, v, c)]) (c + 1) := by
  refine ⟨(heap_set h.blk).1, ?_, ?_, ?_⟩
  · rw [List.map_append, List.nodup_append]
    refine ⟨h.keys, by simp, ?_⟩
    intro a ha x hx
    simp at hx
    subst hx
    obtain ⟨p, hp, rfl⟩ := List.mem_map.1 ha
    exact hk p hp
  · rw [List.map_append, List.nodup_append]
    refine ⟨h.stamps, by simp, ?_⟩
    intro a ha x hx
    simp at hx
    subst hx
    obtain ⟨p, hp, rfl⟩ := List.mem_map.1 ha
    have := h.lt p hp
    omega
  · intro p hp
    rcases List.mem_append.1 hp with hp | hp
    · have := h.lt p hp; omega
    · simp at hp; subst hp; simp
theorem modify_entK {j : Nat} {k : κ} (hj : j < L.length) (hk : L[j].1 = k) (g : MapEntry → MapEntry) (v : Value) (hg : g (kent kv L[j]) = kent kv (k, v, L[j].2.2)) : (L.map (kent kv)).toArray.modify j g = ((L.set j (k, v, L[j].2.2)).map (kent kv)).toArray := by
  apply Array.ext_getElem?
  intro i
  rw [Array.getElem?_modify]
  simp only [List.getElem?_toArray, List.getElem?_map, List.getElem?_set]
  by_cases h : j = i
  · subst h
    simp [hj, hg]
  · simp [h]
end
section
variable {κ : Type} [DecidableEq κ] {P : Program} {w w' : World} {kv : κ → Value} {b : Nat} {L : List (KEnt κ)} {c : Nat} {f : κ → Option Value} {n : Nat}
theorem KMap.lt (h : KMap w kv b f n) : b < w.heap.size := by
  obtain ⟨L, c, h, _⟩ := h
  exact h.lt'
theorem KMap.upd {S : List Nat} (h : KMap w kv b f n) (hu : Upd S w w') (hb : b ∉ S) : KMap w' kv b f n := by
  obtain ⟨L, c, h, h1, h2⟩ := h
  exact ⟨L, c, ⟨(hu.keep b h.lt' hb).trans h.blk, h.keys, h.stamps, h.lt⟩, h1, h2⟩
theorem KMap.drew (h : KMap w kv b f n) : KMap w.drew kv b f n := by
  obtain ⟨L, c, h, h1, h2⟩ := h
  exact ⟨L, c, ⟨h.blk, h.keys, h.stamps, h.lt⟩, h1, h2⟩
theorem KMap.new (w : World) (kv : κ → Value) : KMap (w.alloc (.map #[] 0)) kv w.heap.size (fun _ => none) 0 :=
  ⟨[], 0, ⟨by simpa using heap_alloc_new w (.map #[] 0), by simp, by simp, by simp⟩, fun _ => rfl, rfl⟩
theorem KMap.congr {g : κ → Option Value} (h : KMap w kv b f n) (hg : ∀ k, f k = g k) : KMap w kv b g n := by
  obtain ⟨L, c, h, h1, h2⟩ := h
  exact ⟨L, c, h, fun k => (hg k).symm.trans (h1 k), h2⟩

theorem findK_idx {k : κ} : findK L k = (L.findIdx? (fun p => p.1 == k)).map (fun j => (L.getD j (k, undef, 0)).2.1) := by
  induction L with
  | nil => rfl
  | cons p L ih =>
    unfold findK at ih ⊢
    rw [List.find?_cons, List.findIdx?_cons]
    cases h : p.1 == k with
    | true => simp
    | false =>
      simp only [Bool.false_eq_true, if_false]
      rw [ih]
      cases L.findIdx? (fun p => p.1 == k) <;> simp
theorem run_lookup_k {mt kt et : TypeId} {z : Value} (hm : P.underlying mt = some (.map kt et)) (hk : KLaw P kt kv) (hz : (zeroValue et).run P w = .ok z w) (h : KMap w kv b f n) (k : κ) :
    (Instr.lookup mt (.map (some b)) (kv k) true).run P w = .ok (.tuple #[(f k).getD z, .bool (f k).isSome]) w := by
  obtain ⟨L, c, h, hf, _⟩ := h
  rw [hf, findK_idx]
  unfold Instr.lookup
  simp only [Sem.run_bind, run_underlying hm, Result.andThen, run_getObj_blkK h.blk, Sem.run_pure, hk.check]
  have e : (Instr.findKey kt (kv k) (L.map (kent kv)).toArray.toList).run P w = _ := hk.find k L w
  rw [e]
  simp only
  cases L.findIdx? (fun p => p.1 == k) with
  | none => simp [Sem.run_bind, hz, Result.andThen]
  | some j => simp [Result.andThen]
theorem run_lookup_k' {mt kt et : TypeId} {z : Value} (hm : P.underlying mt = some (.map kt et)) (hk : KLaw P kt kv) (hz : (zeroValue et).run P w = .ok z w) (h : KMap w kv b f n) (k : κ) :
    (Instr.lookup mt (.map (some b)) (kv k) false).run P w = .ok ((f k).getD z) w := by
  obtain ⟨L, c, h, hf, _⟩ := h
  rw [hf, findK_idx]
  unfold Instr.lookup
  simp only [Sem.run_bind, run_underlying hm, Result.andThen, run_getObj_blkK h.blk, Sem.run_pure, hk.check]
  have e : (Instr.findKey kt (kv k) (L.map (kent kv)).toArray.toList).run P w = _ := hk.find k L w
  rw [e]
  simp only
  cases L.findIdx? (fun p => p.1 == k) with
  | none => simp [Sem.run_bind, hz, Result.andThen]
  | some j => simp [Result.andThen]

def putK (f : κ → Option Value) (k : κ) (v : Value) : κ → Option Value := fun x => if x = k then some v else f x
def delK (f : κ → Option Value) (k : κ) : κ → Option Value := fun x => if x = k then none else f x
theorem find_some_memK {k : κ} {j : Nat} (h : L.findIdx? (fun p => p.1 == k) = some j) : ∃ hj : j < L.length, L[j].1 = k := by
  rw [List.findIdx?_eq_some_iff_getElem] at h
  obtain ⟨hj, h1, _⟩ := h
  exact ⟨hj, by simpa using h1⟩
theorem find_noneK {k : κ} (h : L.findIdx? (fun p => p.1 == k) = none) : ∀ p ∈ L, p.1 ≠ k := by
  rw [List.findIdx?_eq_none_iff] at h
  intro p hp
  simpa using h p hp
theorem findK_none {k : κ} (h : ∀ p ∈ L, p.1 ≠ k) : findK L k = none := by
  unfold findK
  rw [List.find?_eq_none.2 (fun p hp => by simpa using h p hp)]
  rfl
/-- What a list of entries with unlike keys has. -/
theorem findK_mem (hn : (L.map (·.1)).Nodup) {p : KEnt κ} (hp : p ∈ L) : findK L p.1 = some p.2.1 := by
  induction L with
  | nil => simp at hp
  | cons a L ih =>
    rw [List.map_cons, List.nodup_cons] at hn
    unfold findK at ih ⊢
    rw [List.find?_cons]
    rcases List.mem_cons.1 hp with rfl | hp
    · simp
    · have : (a.1 == p.1) = false := by
        have : a.1 ≠ p.1 := fun e => hn.1 (e ▸ List.mem_map.2 ⟨p, hp, rfl⟩)
        simpa using this
      rw [this]
      exact ih hn.2 hp
theorem findK_append {M : List (KEnt κ)} (k : κ) : findK (L ++ M) k = (findK L k).or (findK M k) := by
  unfold findK
  rw [List.find?_append]
  cases L.find? (fun p => p.1 == k) <;> simp
theorem findK_set {j : Nat} {k : κ} (hn : (L.map (·.1)).Nodup) (hj : j < L.length) (hk : L[j].1 = k) (v : Value) (s : Nat) (x : κ) : findK (L.set j (k, v, s)) x = if x = k then some v else findK L x := by
  induction L generalizing j with
  | nil => simp at hj
  | cons a L ih =>
    rw [List.map_cons, List.nodup_cons] at hn
    cases j with
    | zero =>
      simp only [List.getElem_cons_zero] at hk
      rw [List.set_cons_zero]
      unfold findK
      rw [List.find?_cons, List.find?_cons, hk]
      by_cases h : x = k
      · subst h; simp
      · have : (k == x) = false := by simpa using fun e => h e.symm
        simp only [this]
        rw [if_neg h]
    | succ j =>
      rw [List.set_cons_succ]
      unfold findK at ih ⊢
      rw [List.find?_cons, List.find?_cons]
      by_cases h : a.1 = x
      · subst h
        have : a.1 ≠ k := fun e => hn.1 (by
          have hj' : j < L.length := by simpa using hj
          refine List.mem_map.2 ⟨L[j], List.getElem_mem hj', ?_⟩
          simpa [e] using hk)
        simp [this]
      · have : (a.1 == x) = false := by simpa using h
        rw [this]
        simp only
        exact ih hn.2 (by simpa using hj) (by simpa using hk)
theorem run_mapUpdate_k {mt kt et : TypeId} (hm : P.underlying mt = some (.map kt et)) (hk : KLaw P kt kv) (h : KMap w kv b f n) (k : κ) (v : Value) :
    ∃ w', (Instr.mapUpdate mt (.map (some b)) (kv k) v).run P w = .ok () w' ∧ KMap w' kv b (putK f k v) (if (f k).isSome then n else n + 1) ∧ Upd [b] w w' := by
  obtain ⟨L, c, h, hf, hn⟩ := h
  have hfk := hf k
  rw [findK_idx] at hfk
  unfold Instr.mapUpdate
  simp only [Sem.run_bind, run_underlying hm, Result.andThen, run_getObj_blkK h.blk, hk.check]
  have e : (Instr.findKey kt (kv k) (L.map (kent kv)).toArray.toList).run P w = _ := hk.find k L w
  rw [e]
  simp only
  cases hi : L.findIdx? (fun p => p.1 == k) with
  | none =>
    have hno := find_noneK hi
    rw [hi] at hfk
    rw [hfk]
    refine ⟨_, by simp only [Option.map_none]; exact run_setObj_map _ h.blk, ⟨L ++ [(k, v, c)], c + 1, ?_, fun x => ?_, by simp [hn]⟩, upd_setBlkK _ h.lt'⟩
    · have := h.push hno v
      rw [List.map_append] at this
      rw [List.push_toArray]
      exact this
    · unfold putK
      rw [findK_append, hf]
      by_cases hx : x = k
      · subst hx
        rw [if_pos rfl, findK_none hno]
        simp [findK]
      · rw [if_neg hx]
        have : findK [(k, v, c)] x = none := findK_none (by simp; exact fun e => hx e.symm)
        rw [this]
        simp
  | some j =>
    obtain ⟨hj, hjk⟩ := find_some_memK hi
    rw [hi] at hfk
    have hke : (((L.map (kent kv)).toArray[j]?).map (·.key)).getD (kv k) = kv k := by
      simp [hj, kent, hjk]
    refine ⟨_, ?_, ⟨L.set j (k, v, L[j].2.2), c, h.set hj hjk v, fun x => ?_, by rw [hfk]; simp [hn]⟩, upd_setBlkK _ h.lt'⟩
    · simp only [Option.map_some, Sem.run_bind, Result.andThen, hke, hk.stays]
      rw [modify_entK hj hjk _ v (by simp [kent])]
      exact run_setObj_map _ h.blk
    · unfold putK
      rw [findK_set h.keys hj hjk, hf]
theorem run_delete_k {mt kt et ty : TypeId} {ats : Array TypeId} (ha : ats[0]? = some mt) (hm : P.underlying mt = some (.map kt et)) (hk : KLaw P kt kv) (h : KMap w kv b f n) (k : κ) :
    ∃ w', (Builtin.delete_ ats ty #[.map (some b), kv k]).run P w = .ok (.tuple #[]) w' ∧ KMap w' kv b (delK f k) (if (f k).isSome then n - 1 else n) ∧ Upd [b] w w' := by
  obtain ⟨L, c, h, hf, hn⟩ := h
  have hfk := hf k
  rw [findK_idx] at hfk
  unfold Builtin.delete_
  rw [ha]
  simp only [List.getElem?_toArray, List.getElem?_cons_zero, List.getElem?_cons_succ, Sem.run_bind, run_underlying hm, Result.andThen, run_getObj_blkK h.blk, hk.check]
  have e : (Instr.findKey kt (kv k) (L.map (kent kv)).toArray.toList).run P w = _ := hk.find k L w
  rw [e]
  simp only
  cases hi : L.findIdx? (fun p => p.1 == k) with
  | none =>
    have hno := find_noneK hi
    rw [hi] at hfk
    rw [hfk]
    refine ⟨_, by simp only [Option.map_none, Sem.run_bind, run_setObj_map _ h.blk, Result.andThen, Sem.run_pure], ⟨L, c, ⟨(heap_set h.blk).1, h.keys, h.stamps, h.lt⟩, fun x => ?_, by simp [hn]⟩, upd_setBlkK _ h.lt'⟩
    unfold delK
    by_cases hx : x = k
    · subst hx; rw [if_pos rfl, findK_none hno]
    · rw [if_neg hx, hf]
  | some j =>
    obtain ⟨hj, hjk⟩ := find_some_memK hi
    rw [hi] at hfk
    have e1 : (L.map (kent kv)).toArray.eraseIdxIfInBounds j = ((L.eraseIdx j).map (kent kv)).toArray := by
      have : (L.map (kent kv)).eraseIdx j = (L.eraseIdx j).map (kent kv) := by
        rw [List.eraseIdx_eq_take_drop_succ, List.eraseIdx_eq_take_drop_succ, List.map_append, List.map_take, List.map_drop]
      simp [Array.eraseIdxIfInBounds, hj, List.eraseIdx_toArray, this]
    refine ⟨{ w with heap := w.heap.setIfInBounds b (.map ((L.eraseIdx j).map (kent kv)).toArray c) }, by simp only [Option.map_some, Sem.run_bind, run_setObj_map _ h.blk, Result.andThen, Sem.run_pure]; rw [e1], ⟨L.eraseIdx j, c, ⟨(heap_set h.blk).1, ?_, ?_, fun p hp => h.lt p (List.mem_of_mem_eraseIdx hp)⟩, fun x => ?_, by rw [hfk, List.length_eraseIdx_of_lt hj, hn]; rfl⟩, upd_setBlkK _ h.lt'⟩
    · exact h.keys.sublist ((List.eraseIdx_sublist L j).map _)
    · exact h.stamps.sublist ((List.eraseIdx_sublist L j).map _)
    · unfold delK
      have hL : L = L.take j ++ L[j] :: L.drop (j + 1) := by rw [← List.drop_eq_getElem_cons hj, List.take_append_drop]
      have hE : L.eraseIdx j = L.take j ++ L.drop (j + 1) := List.eraseIdx_eq_take_drop_succ ..
      have hnd := h.keys
      rw [hL, List.map_append, List.map_cons, hjk] at hnd
      rw [List.nodup_append, List.nodup_cons] at hnd
      obtain ⟨_, ⟨n1, _⟩, n3⟩ := hnd
      rw [hf, hE]
      conv => lhs; rw [hL]
      rw [findK_append, findK_append]
      by_cases hx : x = k
      · subst hx
        rw [if_pos rfl, findK_none (L := L.take j) (fun p hp e => n3 _ (List.mem_map.2 ⟨p, hp, rfl⟩) _ (List.mem_cons_self ..) e), findK_none (L := L.drop (j + 1)) (fun p hp e => n1 (List.mem_map.2 ⟨p, hp, e⟩))]
        rfl
      · rw [if_neg hx]
        have : findK (L[j] :: L.drop (j + 1)) x = findK (L.drop (j + 1)) x := by
          unfold findK
          rw [List.find?_cons]
          have : (L[j].1 == x) = false := by rw [hjk]; simpa using fun e => hx e.symm
          rw [this]
        rw [this]
/-- An assignment's first half: the entry is found, or made. -/
theorem run_mapEntry_k {mt kt et : TypeId} {z : Value} (hm : P.underlying mt = some (.map kt et)) (hk : KLaw P kt kv) (hz : ∀ w, (zeroValue et).run P w = .ok z w) (h : KMap w kv b f n) (k : κ) :
    ∃ (w' : World) (s : Nat), (Instr.mapEntry mt (.map (some b)) (kv k)).run P w = .ok (.tuple #[(f k).getD z, goInt s]) w' ∧ (∃ L c, KRaw w' kv b L c ∧ (∃ v, (k, v, s) ∈ L) ∧ (∀ x, findK L x = if x = k then some ((f k).getD z) else f x) ∧ L.length = if (f k).isSome then n else n + 1) ∧ Upd [b] w w' := by
  obtain ⟨L, c, h, hf, hn⟩ := h
  have hfk := hf k
  rw [findK_idx] at hfk
  unfold Instr.mapEntry
  simp only [Sem.run_bind, run_underlying hm, Result.andThen, run_getObj_blkK h.blk, hk.check]
  have e : (Instr.findKey kt (kv k) (L.map (kent kv)).toArray.toList).run P w = _ := hk.find k L w
  rw [e]
  simp only
  cases hi : L.findIdx? (fun p => p.1 == k) with
  | none =>
    have hno := find_noneK hi
    rw [hi] at hfk
    rw [hfk]
    refine ⟨_, c, by simp only [Option.map_none, Sem.run_bind, hz, Result.andThen, run_setObj_map _ h.blk, Sem.run_pure]; rfl, ⟨L ++ [(k, z, c)], c + 1, ?_, ⟨z, by simp⟩, fun x => ?_, by simp [hn]⟩, upd_setBlkK _ h.lt'⟩
    · have := h.push hno z
      rw [List.map_append] at this
      rw [List.push_toArray]
      exact this
    · rw [findK_append, ← hf]
      by_cases hx : x = k
      · subst hx
        rw [if_pos rfl, hf, findK_none hno]
        simp [findK]
      · rw [if_neg hx]
        have : findK [(k, z, c)] x = none := findK_none (by simp; exact fun e => hx e.symm)
        rw [this]
        simp
  | some j =>
    obtain ⟨hj, hjk⟩ := find_some_memK hi
    rw [hi] at hfk
    have hke : (((L.map (kent kv)).toArray[j]?).map (·.key)).getD (kv k) = kv k := by
      simp [hj, kent, hjk]
    have hbo : (((L.map (kent kv)).toArray[j]?).map (fun x => (x.born : Int))).getD 0 = (L[j].2.2 : Int) := by
      simp [hj, kent]
    have hgd : L.getD j (k, undef, 0) = L[j] := by simp [List.getD_eq_getElem?_getD, hj]
    refine ⟨_, L[j].2.2, ?_, ⟨L.set j (k, L[j].2.1, L[j].2.2), c, h.set hj hjk L[j].2.1, ⟨L[j].2.1, List.mem_iff_getElem.2 ⟨j, by simpa using hj, by simp⟩⟩, fun x => ?_, by rw [hfk]; simp [hn]⟩, upd_setBlkK _ h.lt'⟩
    · simp only [Option.map_some, Sem.run_bind, Result.andThen, hke, hk.stays]
      rw [modify_entK hj hjk _ L[j].2.1 (by simp [kent]), run_setObj_map _ h.blk]
      simp only [Sem.run_pure, hbo, hfk, hgd, Option.map_some, Option.getD_some]
    · rw [findK_set h.keys hj hjk, ← hf, hfk]
      simp only [Option.map_some, Option.getD_some, hgd]
/-- Its second half. -/
theorem run_entryStore_k {mt : TypeId} {s : Nat} {k : κ} {v0 : Value} (h : KRaw w kv b L c) (hs : (k, v0, s) ∈ L) (v : Value) :
    ∃ w', (Instr.entryStore mt (.map (some b)) (goInt s) v).run P w = .ok () w' ∧ KMap w' kv b (fun x => if x = k then some v else findK L x) L.length ∧ Upd [b] w w' := by
  obtain ⟨j, hj, hjs⟩ := List.mem_iff_getElem.1 hs
  have hidx : (L.map (kent kv)).toArray.findIdx? (fun e => (e.born : Int) == (s : Int)) = some j := by
    rw [List.findIdx?_toArray, List.findIdx?_eq_some_iff_getElem]
    refine ⟨by simpa using hj, by simp [kent, hjs], fun i hi => ?_⟩
    simp only [List.getElem_map, kent]
    have hne : L[i].2.2 ≠ s := by
      intro e
      have := List.pairwise_iff_getElem.1 h.stamps i j (by simp; omega) (by simpa using hj) hi
      simp [e, hjs] at this
    simp
    omega
  refine ⟨{ w with heap := w.heap.setIfInBounds b (.map ((L.set j (k, v, L[j].2.2)).map (kent kv)).toArray c) }, ?_, ⟨L.set j (k, v, L[j].2.2), c, h.set hj (by rw [hjs]) v, fun x => ?_, by simp⟩, upd_setBlkK _ h.lt'⟩
  · unfold Instr.entryStore
    simp only [Sem.run_bind, Result.andThen, run_getObj_blkK h.blk]
    have : (asInt (goInt s)).run P w = .ok (s : Int) w := by simp [asInt, asIntOf, goInt, Result.andThen]
    rw [this]
    simp only
    rw [hidx]
    simp only
    rw [modify_entK hj (by rw [hjs]) _ v (by simp [kent, hjs])]
    exact run_setObj_map _ h.blk
  · rw [findK_set h.keys hj (by rw [hjs])]
end
end Go.Proofs.YteddiknlcdbhjaaGreatDoor

namespace Go.Proofs.YteddiknlcdbhjaaGreatDoor
open Go Go.RowKit Go.MapKept

section
variable {P : Program} {κ : Type} [DecidableEq κ] {kt : TypeId} {kv : κ → Value}
theorem findAsking_k (heq : ∀ a b W, (Op.equal kt (kv a) (kv b)).run P W = .ok (decide (a = b)) W) (k : κ) (W : World) : ∀ (L : List (KEnt κ)) (i : Nat), (Instr.findAsking kt (kv k) (L.map (kent kv)) i).run P W = .ok ((L.findIdx? (fun p => p.1 == k)).map (fun j => (i + j, (L.getD j (k, undef, 0)).2.1))) W
  | [], i => rfl
  | p :: L, i => by
    rw [List.map_cons]
    unfold Instr.findAsking
    simp only [Sem.run_bind, kent, heq, Result.andThen]
    by_cases h : k = p.1
    · subst h
      simp [List.findIdx?_cons]
    · have h2 : (p.1 == k) = false := by simpa using fun e => h e.symm
      simp only [h, decide_false, Bool.false_eq_true, if_false]
      rw [findAsking_k heq k W L (i + 1), List.findIdx?_cons, h2]
      cases L.findIdx? (fun p => p.1 == k) with
      | none => rfl
      | some j => simp; omega
theorem klaw_of (hwide : (match P.underlying kt with | some (.array _ _) | some (.struct _) => true | _ => false) = true) (heq : ∀ a b W, (Op.equal kt (kv a) (kv b)).run P W = .ok (decide (a = b)) W)
    (hch : ∀ (em : Bool) (k : κ) (W : World), (Instr.checkKey em 10000 kt (kv k)).run P W = .ok () W) (hb : ∀ k, Instr.sameBits 10000 (kv k) (kv k) = true) : KLaw P kt kv where
  find k L W := by
    rw [run_findKey_eq W hwide, findAsking_k heq]
    simp
  check := hch
  stays k W := by
    unfold Instr.keyThatStays
    rw [if_pos (hb k)]
    simp
end
def kIII (q0 q1 q2 : IntKind) (p : Int × Int × Int) : Value := .agg #[.int q0 p.1, .int q1 p.2.1, .int q2 p.2.2]
def kII (q : IntKind) (p : Int × Int) : Value := .agg #[.int q p.1, .int q p.2]
theorem sameBits_kIII (q0 q1 q2 : IntKind) (p : Int × Int × Int) : Instr.sameBits 10000 (kIII q0 q1 q2 p) (kIII q0 q1 q2 p) = true := by
  simp [kIII, Instr.sameBits]
theorem sameBits_kII (q : IntKind) (p : Int × Int) : Instr.sameBits 10000 (kII q p) (kII q p) = true := by
  simp [kII, Instr.sameBits]
section
variable {P : Program}
theorem plain_int {t : TypeId} {q : IntKind} (h : P.underlying t = some (.int q)) : P.plainKey t = true := by simp [Program.plainKey, h]
theorem run_equal_kIII (d : Nat) {t : TypeId} {f0 f1 f2 : Field} {q0 q1 q2 : IntKind} (W : World) (hu : P.underlying t = some (.struct #[f0, f1, f2])) (hs : P.stoodInHeld t = false)
    (n0 : f0.name ≠ "_") (n1 : f1.name ≠ "_") (n2 : f2.name ≠ "_") (o0 : f0.offset = 0) (o1 : f1.offset = 1) (o2 : f2.offset = 2) (h0 : P.underlying f0.type = some (.int q0)) (h1 : P.underlying f1.type = some (.int q1)) (h2 : P.underlying f2.type = some (.int q2)) (a b : Int × Int × Int) :
    (Op.equalIn (d + 1 + 1) t (kIII q0 q1 q2 a) (kIII q0 q1 q2 b)).run P W = .ok (decide (a = b)) W := by
  have p0 : ∀ x y z : Int, (part f0.type #[.int q0 x, .int q1 y, .int q2 z] f0.offset).run P W = .ok (.int q0 x) W := fun x y z => run_part_plain W (plain_int h0) (by rw [o0]; rfl)
  have p1 : ∀ x y z : Int, (part f1.type #[.int q0 x, .int q1 y, .int q2 z] f1.offset).run P W = .ok (.int q1 y) W := fun x y z => run_part_plain W (plain_int h1) (by rw [o1]; rfl)
  have p2 : ∀ x y z : Int, (part f2.type #[.int q0 x, .int q1 y, .int q2 z] f2.offset).run P W = .ok (.int q2 z) W := fun x y z => run_part_plain W (plain_int h2) (by rw [o2]; rfl)
  have e0 : ∀ x y : Int, (Op.equalIn (d + 1) f0.type (.int q0 x) (.int q0 y)).run P W = .ok (x == y) W := fun x y => by simp [Op.equalIn, run_underlying h0, Result.andThen]
  have e1 : ∀ x y : Int, (Op.equalIn (d + 1) f1.type (.int q1 x) (.int q1 y)).run P W = .ok (x == y) W := fun x y => by simp [Op.equalIn, run_underlying h1, Result.andThen]
  have e2 : ∀ x y : Int, (Op.equalIn (d + 1) f2.type (.int q2 x) (.int q2 y)).run P W = .ok (x == y) W := fun x y => by simp [Op.equalIn, run_underlying h2, Result.andThen]
  have hp : (program).run P W = .ok P W := rfl
  unfold kIII
  conv => lhs; unfold Op.equalIn
  simp only [Sem.run_bind, run_underlying hu, Result.andThen_ok, hp, hs, Bool.false_eq_true, if_false]
  simp only [List.forIn_toArray, List.forIn_cons, List.forIn_nil, n0, n1, n2, ne_eq, not_false_eq_true, if_true, Sem.run_bind, p0, p1, p2, e0, e1, e2, Result.andThen_ok]
  obtain ⟨a0, a1, a2⟩ := a
  obtain ⟨b0, b1, b2⟩ := b
  by_cases g0 : a0 = b0
  · by_cases g1 : a1 = b1
    · by_cases g2 : a2 = b2
      · simp [g0, g1, g2, Result.andThen, p1, p2, e1, e2]
      · simp [g0, g1, g2, Result.andThen, p1, p2, e1, e2]
    · simp [g0, g1, Result.andThen, p1, e1]
  · simp [g0, Result.andThen]
theorem run_check_kIII (d : Nat) {t : TypeId} {f0 f1 f2 : Field} {q0 q1 q2 : IntKind} (W : World) (hu : P.underlying t = some (.struct #[f0, f1, f2]))
    (n0 : f0.name ≠ "_") (n1 : f1.name ≠ "_") (n2 : f2.name ≠ "_") (o0 : f0.offset = 0) (o1 : f1.offset = 1) (o2 : f2.offset = 2) (h0 : P.underlying f0.type = some (.int q0)) (h1 : P.underlying f1.type = some (.int q1)) (h2 : P.underlying f2.type = some (.int q2)) (em : Bool) (a : Int × Int × Int) :
    (Instr.checkKey em (d + 1 + 1) t (kIII q0 q1 q2 a)).run P W = .ok () W := by
  have p0 : ∀ x y z : Int, (part f0.type #[.int q0 x, .int q1 y, .int q2 z] f0.offset).run P W = .ok (.int q0 x) W := fun x y z => run_part_plain W (plain_int h0) (by rw [o0]; rfl)
  have p1 : ∀ x y z : Int, (part f1.type #[.int q0 x, .int q1 y, .int q2 z] f1.offset).run P W = .ok (.int q1 y) W := fun x y z => run_part_plain W (plain_int h1) (by rw [o1]; rfl)
  have p2 : ∀ x y z : Int, (part f2.type #[.int q0 x, .int q1 y, .int q2 z] f2.offset).run P W = .ok (.int q2 z) W := fun x y z => run_part_plain W (plain_int h2) (by rw [o2]; rfl)
  have e0 : ∀ x : Int, (Instr.checkKey em (d + 1) f0.type (.int q0 x)).run P W = .ok () W := fun x => run_checkKey h0 (show IsKey (.int q0) (.int q0 x) by simp [IsKey]) em d
  have e1 : ∀ x : Int, (Instr.checkKey em (d + 1) f1.type (.int q1 x)).run P W = .ok () W := fun x => run_checkKey h1 (show IsKey (.int q1) (.int q1 x) by simp [IsKey]) em d
  have e2 : ∀ x : Int, (Instr.checkKey em (d + 1) f2.type (.int q2 x)).run P W = .ok () W := fun x => run_checkKey h2 (show IsKey (.int q2) (.int q2 x) by simp [IsKey]) em d
  unfold kIII
  conv => lhs; unfold Instr.checkKey
  simp only [Sem.run_bind, run_underlying hu, Result.andThen_ok]
  simp only [List.forIn_toArray, List.forIn_cons, List.forIn_nil, n0, n1, n2, ne_eq, not_false_eq_true, if_true, Sem.run_bind, p0, p1, p2, e0, e1, e2, Result.andThen_ok, Sem.run_pure]
theorem run_equal_kII (d : Nat) {t e : TypeId} {q : IntKind} (W : World) (hu : P.underlying t = some (.array 2 e)) (hc : P.cellsOf e = 1) (he : P.underlying e = some (.int q)) (a b : Int × Int) :
    (Op.equalIn (d + 1 + 1) t (kII q a) (kII q b)).run P W = .ok (decide (a = b)) W := by
  obtain ⟨i, hi⟩ := info_of_underlying he
  have p0 : ∀ x y : Int, (part e #[.int q x, .int q y] (0 * 1)).run P W = .ok (.int q x) W := fun x y => run_part_plain W (plain_int he) rfl
  have p1 : ∀ x y : Int, (part e #[.int q x, .int q y] 1).run P W = .ok (.int q y) W := fun x y => run_part_plain W (plain_int he) rfl
  have e0 : ∀ x y : Int, (Op.equalIn (d + 1) e (.int q x) (.int q y)).run P W = .ok (x == y) W := fun x y => by simp [Op.equalIn, run_underlying he, Result.andThen]
  unfold kII
  rw [run_equalIn_array W (d + 1) _ _ hu hi, hc]
  show (Op.eqItems (d + 1) e 1 _ _ [0, 1]).run P W = _
  simp only [Op.eqItems, Sem.run_bind, p0, Nat.one_mul, p1, e0, Result.andThen_ok]
  obtain ⟨a0, a1⟩ := a
  obtain ⟨b0, b1⟩ := b
  by_cases g0 : a0 = b0
  · by_cases g1 : a1 = b1
    · simp [g0, g1, p1, e0]
    · simp [g0, g1, p1, e0]
  · simp [g0]
theorem run_check_kII (d : Nat) {t e : TypeId} {q : IntKind} (W : World) (hu : P.underlying t = some (.array 2 e)) (hc : P.cellsOf e = 1) (he : P.underlying e = some (.int q)) (em : Bool) (a : Int × Int) :
    (Instr.checkKey em (d + 1 + 1) t (kII q a)).run P W = .ok () W := by
  obtain ⟨i, hi⟩ := info_of_underlying he
  have p0 : ∀ x y : Int, (part e #[.int q x, .int q y] (0 * 1)).run P W = .ok (.int q x) W := fun x y => run_part_plain W (plain_int he) rfl
  have p1 : ∀ x y : Int, (part e #[.int q x, .int q y] (1 * 1)).run P W = .ok (.int q y) W := fun x y => run_part_plain W (plain_int he) rfl
  have e0 : ∀ x : Int, (Instr.checkKey em (d + 1) e (.int q x)).run P W = .ok () W := fun x => run_checkKey he (show IsKey (.int q) (.int q x) by simp [IsKey]) em d
  have hz : (sizeOf e).run P W = .ok 1 W := by rw [run_sizeOf W hi, hc]
  unfold kII
  conv => lhs; unfold Instr.checkKey
  simp only [Sem.run_bind, run_underlying hu, Result.andThen_ok]
  simp only [Std.Legacy.Range.forIn_eq_forIn_range', Std.Legacy.Range.size, Nat.sub_zero, Nat.add_one_sub_one, Nat.div_one, List.range', Nat.reduceAdd, List.forIn_cons, List.forIn_nil, Sem.run_bind, hz, p0, p1, e0, Result.andThen_ok, Sem.run_pure]
end
end Go.Proofs.YteddiknlcdbhjaaGreatDoor

namespace Go.Proofs.YteddiknlcdbhjaaGreatDoor
open Go Go.RowKit Go.MapKept

abbrev IEnt := Int × Value × Nat
def ent (q : IntKind) (p : IEnt) : MapEntry := { key := .int q p.1, val := p.2.1, born := p.2.2 }
structure IRaw (w : World) (q : IntKind) (b : Nat) (L : List IEnt) (c : Nat) : Prop where
  blk : w.heap[b]? = some (.map (L.map (ent q)).toArray c)
  keys : (L.map (·.1)).Nodup
  stamps : (L.map (·.2.2)).Nodup
  lt : ∀ p ∈ L, p.2.2 < c
def findI (L : List IEnt) (k : Int) : Option Value := (L.find? (fun p => p.1 == k)).map (·.2.1)
/-- Block b is a map with these values, n in all. -/
def IMap (w : World) (q : IntKind) (b : Nat) (f : Int → Option Value) (n : Nat) : Prop := ∃ L c, IRaw w q b L c ∧ (∀ k, f k = findI L k) ∧ L.length = n

section
variable {P : Program} {w w' : World} {q : IntKind} {b : Nat} {L : List IEnt} {c : Nat} {f : Int → Option Value} {n : Nat}
theorem IRaw.lt' (h : IRaw w q b L c) : b < w.heap.size := by
  rcases Nat.lt_or_ge b w.heap.size with hl | hg
  · exact hl
  · have := h.blk
    rw [Array.getElem?_eq_none hg] at this
    cases this
theorem IMap.lt (h : IMap w q b f n) : b < w.heap.size := by
  obtain ⟨L, c, h, _⟩ := h
  exact h.lt'
theorem IMap.upd {S : List Nat} (h : IMap w q b f n) (hu : Upd S w w') (hb : b ∉ S) : IMap w' q b f n := by
  obtain ⟨L, c, h, h1, h2⟩ := h
  exact ⟨L, c, ⟨(hu.keep b h.lt' hb).trans h.blk, h.keys, h.stamps, h.lt⟩, h1, h2⟩
theorem IMap.drew (h : IMap w q b f n) : IMap w.drew q b f n := by
  obtain ⟨L, c, h, h1, h2⟩ := h
  exact ⟨L, c, ⟨h.blk, h.keys, h.stamps, h.lt⟩, h1, h2⟩
theorem IMap.new (w : World) (q : IntKind) : IMap (w.alloc (.map #[] 0)) q w.heap.size (fun _ => none) 0 :=
  ⟨[], 0, ⟨by simpa using heap_alloc_new w (.map #[] 0), by simp, by simp, by simp⟩, fun _ => rfl, rfl⟩
theorem IMap.congr {g : Int → Option Value} (h : IMap w q b f n) (hg : ∀ k, f k = g k) : IMap w q b g n := by
  obtain ⟨L, c, h, h1, h2⟩ := h
  exact ⟨L, c, h, fun k => (hg k).symm.trans (h1 k), h2⟩

theorem findNow_ent (k : Int) : ∀ (L : List IEnt) (i : Nat), Instr.findNow (.int q) (.int q k) (L.map (ent q)) i = some ((L.findIdx? (fun p => p.1 == k)).map (fun j => (i + j, (L.getD j (0, undef, 0)).2.1)))
  | [], i => rfl
  | p :: L, i => by
    rw [List.map_cons]
    unfold Instr.findNow
    have e : Instr.sameNow (.int q) (.int q k) (ent q p).key = some (k == p.1) := by simp [Instr.sameNow, ent]
    rw [e]
    by_cases h : p.1 = k
    · subst h
      simp [ent, List.findIdx?_cons]
    · have h1 : (k == p.1) = false := by simpa using fun e => h e.symm
      have h2 : (p.1 == k) = false := by simpa using h
      rw [h1]
      simp only
      rw [findNow_ent k L (i + 1), List.findIdx?_cons, h2]
      cases L.findIdx? (fun p => p.1 == k) with
      | none => rfl
      | some j => simp; omega
theorem findI_idx {k : Int} : findI L k = (L.findIdx? (fun p => p.1 == k)).map (fun j => (L.getD j (0, undef, 0)).2.1) := by
  induction L with
  | nil => rfl
  | cons p L ih =>
    unfold findI at ih ⊢
    rw [List.find?_cons, List.findIdx?_cons]
    cases h : p.1 == k with
    | true => simp
    | false =>
      simp only [Bool.false_eq_true, if_false]
      rw [ih]
      cases L.findIdx? (fun p => p.1 == k) <;> simp
theorem run_findKey_int {kt : TypeId} (hk : P.underlying kt = some (.int q)) (k : Int) (L : List IEnt) (W : World) : (Instr.findKey kt (.int q k) (L.map (ent q))).run P W = .ok ((L.findIdx? (fun p => p.1 == k)).map (fun j => (j, (L.getD j (0, undef, 0)).2.1))) W := by
  unfold Instr.findKey
  simp only [Sem.run_bind, run_underlying hk, Result.andThen]
  rw [findNow_ent]
  simp
theorem run_getObj_blk {b : Nat} {es : Array MapEntry} {c : Nat} (h : w.heap[b]? = some (.map es c)) : (getObj b).run P w = .ok (.map es c) w := by
  simp [getObj, Sem.run, h]
theorem run_lookup_int {mt kt et : TypeId} {z : Value} (hm : P.underlying mt = some (.map kt et)) (hk : P.underlying kt = some (.int q)) (hz : (zeroValue et).run P w = .ok z w) (h : IMap w q b f n) (k : Int) :
    (Instr.lookup mt (.map (some b)) (.int q k) true).run P w = .ok (.tuple #[(f k).getD z, .bool (f k).isSome]) w := by
  obtain ⟨L, c, h, hf, _⟩ := h
  rw [hf, findI_idx]
  unfold Instr.lookup
  simp only [Sem.run_bind, run_underlying hm, Result.andThen, run_getObj_blk h.blk, Sem.run_pure, run_checkKey hk (show IsKey (.int q) (.int q k) by simp [IsKey])]
  have e : (Instr.findKey kt (.int q k) (L.map (ent q)).toArray.toList).run P w = _ := run_findKey_int hk k L w
  rw [e]
  simp only
  cases L.findIdx? (fun p => p.1 == k) with
  | none => simp [Sem.run_bind, hz, Result.andThen]
  | some j => simp [Result.andThen]
theorem run_lookup_int' {mt kt et : TypeId} {z : Value} (hm : P.underlying mt = some (.map kt et)) (hk : P.underlying kt = some (.int q)) (hz : (zeroValue et).run P w = .ok z w) (h : IMap w q b f n) (k : Int) :
    (Instr.lookup mt (.map (some b)) (.int q k) false).run P w = .ok ((f k).getD z) w := by
  obtain ⟨L, c, h, hf, _⟩ := h
  rw [hf, findI_idx]
  unfold Instr.lookup
  simp only [Sem.run_bind, run_underlying hm, Result.andThen, run_getObj_blk h.blk, Sem.run_pure, run_checkKey hk (show IsKey (.int q) (.int q k) by simp [IsKey])]
  have e : (Instr.findKey kt (.int q k) (L.map (ent q)).toArray.toList).run P w = _ := run_findKey_int hk k L w
  rw [e]
  simp only
  cases L.findIdx? (fun p => p.1 == k) with
  | none => simp [Sem.run_bind, hz, Result.andThen]
  | some j => simp [Result.andThen]

def putI (f : Int → Option Value) (k : Int) (v : Value) : Int → Option Value := fun x => if x = k then some v else f x
def delI (f : Int → Option Value) (k : Int) : Int → Option Value := fun x => if x = k then none else f x
theorem upd_setBlk {b : Nat} (o : Obj) (hb : b < w.heap.size) : Upd [b] w { w with heap := w.heap.setIfInBounds b o } :=
  ⟨rfl, rfl, rfl, by simp, fun k hk hn => by
    have : b ≠ k := fun e => hn (by simp [e])
    simp [this]⟩
theorem find_some_mem {k : Int} {j : Nat} (h : L.findIdx? (fun p => p.1 == k) = some j) : ∃ hj : j < L.length, L[j].1 = k := by
  rw [List.findIdx?_eq_some_iff_getElem] at h
  obtain ⟨hj, h1, _⟩ := h
  exact ⟨hj, by simpa using h1⟩
theorem find_none {k : Int} (h : L.findIdx? (fun p => p.1 == k) = none) : ∀ p ∈ L, p.1 ≠ k := by
  rw [List.findIdx?_eq_none_iff] at h
  intro p hp
  simpa using h p hp
theorem findI_none {k : Int} (h : ∀ p ∈ L, p.1 ≠ k) : findI L k = none := by
  unfold findI
  rw [List.find?_eq_none.2 (fun p hp => by simpa using h p hp)]
  rfl
/-- What a list of entries with unlike keys has. -/
theorem findI_mem (hn : (L.map (·.1)).Nodup) {p : IEnt} (hp : p ∈ L) : findI L p.1 = some p.2.1 := by
  induction L with
  | nil => simp at hp
  | cons a L ih =>
    rw [List.map_cons, List.nodup_cons] at hn
    unfold findI at ih ⊢
    rw [List.find?_cons]
    rcases List.mem_cons.1 hp with rfl | hp
    · simp
    · have : (a.1 == p.1) = false := by
        have : a.1 ≠ p.1 := fun e => hn.1 (e ▸ List.mem_map.2 ⟨p, hp, rfl⟩)
        simpa using this
      rw [this]
      exact ih hn.2 hp
theorem findI_append {M : List IEnt} (k : Int) : findI (L ++ M) k = (findI L k).or (findI M k) := by
  unfold findI
  rw [List.find?_append]
  cases L.find? (fun p => p.1 == k) <;> simp
theorem findI_set {j : Nat} {k : Int} (hn : (L.map (·.1)).Nodup) (hj : j < L.length) (hk : L[j].1 = k) (v : Value) (s : Nat) (x : Int) : findI (L.set j (k, v, s)) x = if x = k then some v else findI L x := by
  induction L generalizing j with
  | nil => simp at hj
  | cons a L ih =>
    rw [List.map_cons, List.nodup_cons] at hn
    cases j with
    | zero =>
      simp only [List.getElem_cons_zero] at hk
      rw [List.set_cons_zero]
      unfold findI
      rw [List.find?_cons, List.find?_cons, hk]
      by_cases h : x = k
      · subst h; simp
      · have : (k == x) = false := by simpa using fun e => h e.symm
        simp only [this]
        rw [if_neg h]
    | succ j =>
      rw [List.set_cons_succ]
      unfold findI at ih ⊢
      rw [List.find?_cons, List.find?_cons]
      by_cases h : a.1 = x
      · subst h
        have : a.1 ≠ k := fun e => hn.1 (by
          have hj' : j < L.length := by simpa using hj
          refine List.mem_map.2 ⟨L[j], List.getElem_mem hj', ?_⟩
          simpa [e] using hk)
        simp [this]
      · have : (a.1 == x) = false := by simpa using h
        rw [this]
        simp only
        exact ih hn.2 (by simpa using hj) (by simpa using hk)
theorem set_same {α : Type} {l : List α} {j : Nat} {x : α} (hj : j < l.length) (h : l[j] = x) : l.set j x = l := by
  subst h
  exact List.set_getElem_self hj
theorem IRaw.set {j : Nat} {k : Int} (h : IRaw w q b L c) (hj : j < L.length) (hk : L[j].1 = k) (v : Value) : IRaw { w with heap := w.heap.setIfInBounds b (.map ((L.set j (k, v, L[j].2.2)).map (ent q)).toArray c) } q b (L.set j (k, v, L[j].2.2)) c := by
  refine ⟨(heap_set h.blk).1, ?_, ?_, ?_⟩
  · rw [List.map_set, set_same (by simpa using hj) (by simpa using hk)]
    exact h.keys
  · rw [List.map_set, set_same (by simpa using hj) (by simp)]
    exact h.stamps
  · intro p hp
    rcases List.mem_or_eq_of_mem_set hp with hp | rfl
    · exact h.lt p hp
    · exact h.lt L[j] (List.getElem_mem hj)
theorem IRaw.push {k : Int} (h : IRaw w q b L c) (hk : ∀ p ∈ L, p.1 ≠ k) (v : Value) : IRaw { w with heap := w.heap.setIfInBounds b (.map ((L ++ [(k, v, c)]).map (ent q)).toArray (c + 1)) } q b (L ++ [(k, v, c)]) (c + 1) := by
  refine ⟨(heap_set h.blk).1, ?_, ?_, ?_⟩
  · rw [List.map_append, List.nodup_append]
    refine ⟨h.keys, by simp, ?_⟩
    intro a ha x hx
    simp at hx
    subst hx
    obtain ⟨p, hp, rfl⟩ := List.mem_map.1 ha
    exact hk p hp
  · rw [List.map_append, List.nodup_append]
    refine ⟨h.stamps, by simp, ?_⟩
    intro a ha x hx
    simp at hx
    subst hx
    obtain ⟨p, hp, rfl⟩ := List.mem_map.1 ha
    have := h.lt p hp
    omega
  · intro p hp
    rcases List.mem_append.1 hp with hp | hp
    · have := h.lt p hp; omega
    · simp at hp; subst hp; simp
theorem modify_ent {j : Nat} {k : Int} (hj : j < L.length) (hk : L[j].1 = k) (g : MapEntry → MapEntry) (v : Value) (hg : g (ent q L[j]) = ent q (k, v, L[j].2.2)) : (L.map (ent q)).toArray.modify j g = ((L.set j (k, v, L[j].2.2)).map (ent q)).toArray := by
  apply Array.ext_getElem?
  intro i
  rw [Array.getElem?_modify]
  simp only [List.getElem?_toArray, List.getElem?_map, List.getElem?_set]
  by_cases h : j = i
  · subst h
    simp [hj, hg]
  · simp [h]
theorem run_keyStays (k : Int) (W : World) : (Instr.keyThatStays (.int q k) (.int q k)).run P W = .ok (.int q k) W := by
  unfold Instr.keyThatStays
  have : Instr.sameBits 10000 (.int q k) (.int q k) = true := by simp [Instr.sameBits]
  rw [if_pos this]
  simp
theorem run_mapUpdate_int {mt kt et : TypeId} (hm : P.underlying mt = some (.map kt et)) (hk : P.underlying kt = some (.int q)) (h : IMap w q b f n) (k : Int) (v : Value) :
    ∃ w', (Instr.mapUpdate mt (.map (some b)) (.int q k) v).run P w = .ok () w' ∧ IMap w' q b (putI f k v) (if (f k).isSome then n else n + 1) ∧ Upd [b] w w' := by
  obtain ⟨L, c, h, hf, hn⟩ := h
  have hfk := hf k
  rw [findI_idx] at hfk
  unfold Instr.mapUpdate
  simp only [Sem.run_bind, run_underlying hm, Result.andThen, run_getObj_blk h.blk, run_checkKey hk (show IsKey (.int q) (.int q k) by simp [IsKey])]
  have e : (Instr.findKey kt (.int q k) (L.map (ent q)).toArray.toList).run P w = _ := run_findKey_int hk k L w
  rw [e]
  simp only
  cases hi : L.findIdx? (fun p => p.1 == k) with
  | none =>
    have hno := find_none hi
    rw [hi] at hfk
    rw [hfk]
    refine ⟨_, by simp only [Option.map_none]; exact run_setObj_map _ h.blk, ⟨L ++ [(k, v, c)], c + 1, ?_, fun x => ?_, by simp [hn]⟩, upd_setBlk _ h.lt'⟩
    · have := h.push hno v
      rw [List.map_append] at this
      rw [List.push_toArray]
      exact this
    · unfold putI
      rw [findI_append, hf]
      by_cases hx : x = k
      · subst hx
        rw [if_pos rfl, findI_none hno]
        simp [findI]
      · rw [if_neg hx]
        have : findI [(k, v, c)] x = none := findI_none (by simp; exact fun e => hx e.symm)
        rw [this]
        simp
  | some j =>
    obtain ⟨hj, hjk⟩ := find_some_mem hi
    rw [hi] at hfk
    have hke : (((L.map (ent q)).toArray[j]?).map (·.key)).getD (.int q k) = .int q k := by
      simp [hj, ent, hjk]
    refine ⟨_, ?_, ⟨L.set j (k, v, L[j].2.2), c, h.set hj hjk v, fun x => ?_, by rw [hfk]; simp [hn]⟩, upd_setBlk _ h.lt'⟩
    · simp only [Option.map_some, Sem.run_bind, Result.andThen, hke, run_keyStays]
      rw [modify_ent hj hjk _ v (by simp [ent])]
      exact run_setObj_map _ h.blk
    · unfold putI
      rw [findI_set h.keys hj hjk, hf]
theorem run_delete_int {mt kt et ty : TypeId} {ats : Array TypeId} (ha : ats[0]? = some mt) (hm : P.underlying mt = some (.map kt et)) (hk : P.underlying kt = some (.int q)) (h : IMap w q b f n) (k : Int) :
    ∃ w', (Builtin.delete_ ats ty #[.map (some b), .int q k]).run P w = .ok (.tuple #[]) w' ∧ IMap w' q b (delI f k) (if (f k).isSome then n - 1 else n) ∧ Upd [b] w w' := by
  obtain ⟨L, c, h, hf, hn⟩ := h
  have hfk := hf k
  rw [findI_idx] at hfk
  unfold Builtin.delete_
  rw [ha]
  simp only [List.getElem?_toArray, List.getElem?_cons_zero, List.getElem?_cons_succ, Sem.run_bind, run_underlying hm, Result.andThen, run_getObj_blk h.blk, run_checkKey hk (show IsKey (.int q) (.int q k) by simp [IsKey])]
  have e : (Instr.findKey kt (.int q k) (L.map (ent q)).toArray.toList).run P w = _ := run_findKey_int hk k L w
  rw [e]
  simp only
  cases hi : L.findIdx? (fun p => p.1 == k) with
  | none =>
    have hno := find_none hi
    rw [hi] at hfk
    rw [hfk]
    refine ⟨_, by simp only [Option.map_none, Sem.run_bind, run_setObj_map _ h.blk, Result.andThen, Sem.run_pure], ⟨L, c, ⟨(heap_set h.blk).1, h.keys, h.stamps, h.lt⟩, fun x => ?_, by simp [hn]⟩, upd_setBlk _ h.lt'⟩
    unfold delI
    by_cases hx : x = k
    · subst hx; rw [if_pos rfl, findI_none hno]
    · rw [if_neg hx, hf]
  | some j =>
    obtain ⟨hj, hjk⟩ := find_some_mem hi
    rw [hi] at hfk
    have e1 : (L.map (ent q)).toArray.eraseIdxIfInBounds j = ((L.eraseIdx j).map (ent q)).toArray := by
      have : (L.map (ent q)).eraseIdx j = (L.eraseIdx j).map (ent q) := by
        rw [List.eraseIdx_eq_take_drop_succ, List.eraseIdx_eq_take_drop_succ, List.map_append, List.map_take, List.map_drop]
      simp [Array.eraseIdxIfInBounds, hj, List.eraseIdx_toArray, this]
    refine ⟨{ w with heap := w.heap.setIfInBounds b (.map ((L.eraseIdx j).map (ent q)).toArray c) }, by simp only [Option.map_some, Sem.run_bind, run_setObj_map _ h.blk, Result.andThen, Sem.run_pure]; rw [e1], ⟨L.eraseIdx j, c, ⟨(heap_set h.blk).1, ?_, ?_, fun p hp => h.lt p (List.mem_of_mem_eraseIdx hp)⟩, fun x => ?_, by rw [hfk, List.length_eraseIdx_of_lt hj, hn]; rfl⟩, upd_setBlk _ h.lt'⟩
    · exact h.keys.sublist ((List.eraseIdx_sublist L j).map _)
    · exact h.stamps.sublist ((List.eraseIdx_sublist L j).map _)
    · unfold delI
      have hL : L = L.take j ++ L[j] :: L.drop (j + 1) := by rw [← List.drop_eq_getElem_cons hj, List.take_append_drop]
      have hE : L.eraseIdx j = L.take j ++ L.drop (j + 1) := List.eraseIdx_eq_take_drop_succ ..
      have hnd := h.keys
      rw [hL, List.map_append, List.map_cons, hjk] at hnd
      rw [List.nodup_append, List.nodup_cons] at hnd
      obtain ⟨_, ⟨n1, _⟩, n3⟩ := hnd
      rw [hf, hE]
      conv => lhs; rw [hL]
      rw [findI_append, findI_append]
      by_cases hx : x = k
      · subst hx
        rw [if_pos rfl, findI_none (L := L.take j) (fun p hp e => n3 _ (List.mem_map.2 ⟨p, hp, rfl⟩) _ (List.mem_cons_self ..) e), findI_none (L := L.drop (j + 1)) (fun p hp e => n1 (List.mem_map.2 ⟨p, hp, e⟩))]
        rfl
      · rw [if_neg hx]
        have : findI (L[j] :: L.drop (j + 1)) x = findI (L.drop (j + 1)) x := by
          unfold findI
          rw [List.find?_cons]
          have : (L[j].1 == x) = false := by rw [hjk]; simpa using fun e => hx e.symm
          rw [this]
        rw [this]
/-- An assignment's first half: the entry is found, or made. -/
theorem run_mapEntry_int {mt kt et : TypeId} {z : Value} (hm : P.underlying mt = some (.map kt et)) (hk : P.underlying kt = some (.int q)) (hz : ∀ w, (zeroValue et).run P w = .ok z w) (h : IMap w q b f n) (k : Int) :
    ∃ (w' : World) (s : Nat), (Instr.mapEntry mt (.map (some b)) (.int q k)).run P w = .ok (.tuple #[(f k).getD z, goInt s]) w' ∧ (∃ L c, IRaw w' q b L c ∧ (∃ v, (k, v, s) ∈ L) ∧ (∀ x, findI L x = if x = k then some ((f k).getD z) else f x) ∧ L.length = if (f k).isSome then n else n + 1) ∧ Upd [b] w w' := by
  obtain ⟨L, c, h, hf, hn⟩ := h
  have hfk := hf k
  rw [findI_idx] at hfk
  unfold Instr.mapEntry
  simp only [Sem.run_bind, run_underlying hm, Result.andThen, run_getObj_blk h.blk, run_checkKey hk (show IsKey (.int q) (.int q k) by simp [IsKey])]
  have e : (Instr.findKey kt (.int q k) (L.map (ent q)).toArray.toList).run P w = _ := run_findKey_int hk k L w
  rw [e]
  simp only
  cases hi : L.findIdx? (fun p => p.1 == k) with
  | none =>
    have hno := find_none hi
    rw [hi] at hfk
    rw [hfk]
    refine ⟨_, c, by simp only [Option.map_none, Sem.run_bind, hz, Result.andThen, run_setObj_map _ h.blk, Sem.run_pure]; rfl, ⟨L ++ [(k, z, c)], c + 1, ?_, ⟨z, by simp⟩, fun x => ?_, by simp [hn]⟩, upd_setBlk _ h.lt'⟩
    · have := h.push hno z
      rw [List.map_append] at this
      rw [List.push_toArray]
      exact this
    · rw [findI_append, ← hf]
      by_cases hx : x = k
      · subst hx
        rw [if_pos rfl, hf, findI_none hno]
        simp [findI]
      · rw [if_neg hx]
        have : findI [(k, z, c)] x = none := findI_none (by simp; exact fun e => hx e.symm)
        rw [this]
        simp
  | some j =>
    obtain ⟨hj, hjk⟩ := find_some_mem hi
    rw [hi] at hfk
    have hke : (((L.map (ent q)).toArray[j]?).map (·.key)).getD (.int q k) = .int q k := by
      simp [hj, ent, hjk]
    have hbo : (((L.map (ent q)).toArray[j]?).map (fun x => (x.born : Int))).getD 0 = (L[j].2.2 : Int) := by
      simp [hj, ent]
    have hgd : L.getD j (0, undef, 0) = L[j] := by simp [List.getD_eq_getElem?_getD, hj]
    refine ⟨_, L[j].2.2, ?_, ⟨L.set j (k, L[j].2.1, L[j].2.2), c, h.set hj hjk L[j].2.1, ⟨L[j].2.1, List.mem_iff_getElem.2 ⟨j, by simpa using hj, by simp⟩⟩, fun x => ?_, by rw [hfk]; simp [hn]⟩, upd_setBlk _ h.lt'⟩
    · simp only [Option.map_some, Sem.run_bind, Result.andThen, hke, run_keyStays]
      rw [modify_ent hj hjk _ L[j].2.1 (by simp [ent]), run_setObj_map _ h.blk]
      simp only [Sem.run_pure, hbo, hfk, hgd, Option.map_some, Option.getD_some]
    · rw [findI_set h.keys hj hjk, ← hf, hfk]
      simp only [Option.map_some, Option.getD_some, hgd]
/-- Its second half. -/
theorem run_entryStore_int {mt : TypeId} {s : Nat} {k : Int} {v0 : Value} (h : IRaw w q b L c) (hs : (k, v0, s) ∈ L) (v : Value) :
    ∃ w', (Instr.entryStore mt (.map (some b)) (goInt s) v).run P w = .ok () w' ∧ IMap w' q b (fun x => if x = k then some v else findI L x) L.length ∧ Upd [b] w w' := by
  obtain ⟨j, hj, hjs⟩ := List.mem_iff_getElem.1 hs
  have hidx : (L.map (ent q)).toArray.findIdx? (fun e => (e.born : Int) == (s : Int)) = some j := by
    rw [List.findIdx?_toArray, List.findIdx?_eq_some_iff_getElem]
    refine ⟨by simpa using hj, by simp [ent, hjs], fun i hi => ?_⟩
    simp only [List.getElem_map, ent]
    have hne : L[i].2.2 ≠ s := by
      intro e
      have := List.pairwise_iff_getElem.1 h.stamps i j (by simp; omega) (by simpa using hj) hi
      simp [e, hjs] at this
    simp
    omega
  refine ⟨{ w with heap := w.heap.setIfInBounds b (.map ((L.set j (k, v, L[j].2.2)).map (ent q)).toArray c) }, ?_, ⟨L.set j (k, v, L[j].2.2), c, h.set hj (by rw [hjs]) v, fun x => ?_, by simp⟩, upd_setBlk _ h.lt'⟩
  · unfold Instr.entryStore
    simp only [Sem.run_bind, Result.andThen, run_getObj_blk h.blk]
    have : (asInt (goInt s)).run P w = .ok (s : Int) w := by simp [asInt, asIntOf, goInt, Result.andThen]
    rw [this]
    simp only
    rw [hidx]
    simp only
    rw [modify_ent hj (by rw [hjs]) _ v (by simp [ent, hjs])]
    exact run_setObj_map _ h.blk
  · rw [findI_set h.keys hj (by rw [hjs])]
end
end Go.Proofs.YteddiknlcdbhjaaGreatDoor

namespace Go.Proofs.YteddiknlcdbhjaaGreatDoor
open Go Go.RowKit Go.MapKept
open Go.ChangeMaps (setBlock)

/-- Block r goes over map b, which has L; rest are still to come. -/
structure KIter {κ : Type} (w : World) (kv : κ → Value) (b r : Nat) (L rest : List (KEnt κ)) : Prop where
  all : ∃ c since seen c0, KRaw w kv b L c ∧ w.heap[r]? = some (.mapIter (some b) since seen c0) ∧ (∀ p ∈ L, p.2.2 < since) ∧ since ≤ c0 ∧ since ≤ c ∧ rest = L.filter (fun p => !seen.contains p.2.2)
theorem KIter.lt {κ : Type} [DecidableEq κ] {w : World} {kv : κ → Value} {b r : Nat} {L rest : List (KEnt κ)} (h : KIter w kv b r L rest) : r < w.heap.size := by
  obtain ⟨_, s, n, c, _, h1, _⟩ := h.all
  rcases Nat.lt_or_ge r w.heap.size with hl | hg
  · exact hl
  · rw [Array.getElem?_eq_none hg] at h1
    cases h1
theorem KIter.map {κ : Type} [DecidableEq κ] {w : World} {kv : κ → Value} {b r : Nat} {L rest : List (KEnt κ)} (h : KIter w kv b r L rest) : KMap w kv b (findK L) L.length := by
  obtain ⟨c, _, _, _, hr, _⟩ := h.all
  exact ⟨L, c, hr, fun _ => rfl, rfl⟩
theorem KIter.upd {κ : Type} [DecidableEq κ] {S : List Nat} {w w' : World} {kv : κ → Value} {b r : Nat} {L rest : List (KEnt κ)} (h : KIter w kv b r L rest) (hu : Upd S w w') (hb : b ∉ S) (hr : r ∉ S) : KIter w' kv b r L rest := by
  obtain ⟨c, s, n, c0, h1, h2, h3⟩ := h.all
  exact ⟨c, s, n, c0, ⟨(hu.keep b h1.lt' hb).trans h1.blk, h1.keys, h1.stamps, h1.lt⟩, (hu.keep r h.lt hr).trans h2, h3⟩
section
variable {P : Program} {κ : Type} [DecidableEq κ] {w : World} {kv : κ → Value} {b r : Nat} {L rest : List (KEnt κ)} {f : κ → Option Value} {n : Nat}
/-- It begins. -/
theorem run_range_k {mt kt et : TypeId} (hm : P.underlying mt = some (.map kt et)) (h : KMap w kv b f n) :
    ∃ L w', (Instr.range mt (.map (some b))).run P w = .ok (.pointer (some ⟨w.heap.size, 0, none⟩)) w' ∧ KIter w' kv b w.heap.size L L ∧ (∀ k, f k = findK L k) ∧ (L.map (·.1)).Nodup ∧ L.length = n ∧ Upd [] w w' ∧ w'.heap.size = w.heap.size + 1 := by
  obtain ⟨L, c, hr, hf, hn⟩ := h
  refine ⟨L, _, run_range_map w mt kt et b _ c hm hr.blk, ⟨c, c, #[], c, ?_, heap_alloc_new w _, hr.lt, Nat.le_refl _, Nat.le_refl _, ?_⟩, hf, hr.keys, hn, (Upd.refl [] w).alloc _, by simp⟩
  · exact ⟨(Below.heap_alloc w _ b hr.lt').trans hr.blk, hr.keys, hr.stamps, hr.lt⟩
  · symm
    rw [List.filter_eq_self]
    intro p _
    simp
theorem filter_seenK {κ : Type} {L : List (KEnt κ)} {seen : Array Nat} {x : KEnt κ} (hn : (L.map (·.2.2)).Nodup) (hx : x ∈ L) (hs : seen.contains x.2.2 = false) :
    (x :: L.filter (fun p => !(seen.push x.2.2).contains p.2.2)).Perm (L.filter (fun p => !seen.contains p.2.2)) := by
  induction L with
  | nil => cases hx
  | cons a L ih =>
    rw [List.map_cons, List.nodup_cons] at hn
    rw [List.filter_cons, List.filter_cons]
    by_cases e : a = x
    · subst e
      have h1 : L.filter (fun p => !(seen.push a.2.2).contains p.2.2) = L.filter (fun p => !seen.contains p.2.2) := by
        refine List.filter_congr fun p hp => ?_
        have : p.2.2 ≠ a.2.2 := fun e => hn.1 (e ▸ List.mem_map.2 ⟨p, hp, rfl⟩)
        congr 1
        rw [Bool.eq_iff_iff]
        simp [this]
      have h2 : (seen.push a.2.2).contains a.2.2 = true := by simp
      rw [h1, h2, hs]
      simp
    · have hx' : x ∈ L := by
        rcases List.mem_cons.1 hx with h | h
        · exact absurd h.symm e
        · exact h
      have hne : a.2.2 ≠ x.2.2 := fun e => hn.1 (e ▸ List.mem_map.2 ⟨x, hx', rfl⟩)
      have h1 : (seen.push x.2.2).contains a.2.2 = seen.contains a.2.2 := by
        rw [Bool.eq_iff_iff]
        simp [hne]
      rw [h1]
      cases hsa : seen.contains a.2.2 with
      | true => simpa using ih hn.2 hx'
      | false =>
        simp only [Bool.not_false, if_true]
        exact (List.Perm.swap _ _ _).trans (List.Perm.cons a (ih hn.2 hx'))
/-- One more comes, or there is none. -/
theorem run_next_k (h : KIter w kv b r L rest) (ty : TypeId) :
    (rest = [] ∧ (Instr.next (.pointer (some ⟨r, 0, none⟩)) false ty).run P w = .ok (.tuple #[.bool false]) w) ∨
    ∃ x rest' w', (x :: rest').Perm rest ∧ (Instr.next (.pointer (some ⟨r, 0, none⟩)) false ty).run P w = .ok (.tuple #[.bool true, kv x.1, x.2.1]) w' ∧ KIter w' kv b r L rest' ∧ Upd [r] w w' ∧
      (Instr.entry (.pointer (some ⟨r, 0, none⟩))).run P w' = .ok (.tuple #[kv x.1, x.2.1]) w' := by
  have hrl := h.lt
  obtain ⟨c, since, seen, c0, hR, hr, hold, hsc, hcc, rfl⟩ := h.all
  have hbr : b ≠ r := by
    rintro rfl
    rw [hR.blk] at hr
    cases hr
  have hold' : ∀ x ∈ (L.map (kent kv)).toArray.toList, x.born < since := by
    intro x hx
    simp only [List.mem_map] at hx
    obtain ⟨p, hp, rfl⟩ := hx
    exact hold p hp
  have hl : leftOf (L.map (kent kv)).toArray seen = ((L.filter (fun p => !seen.contains p.2.2)).map (kent kv)).toArray := by
    unfold leftOf
    rw [List.filter_toArray, List.filter_map]
    rfl
  rcases run_next_at (P := P) w ty r b since c0 seen _ c hr hR.blk hold' hsc with ⟨h0, hrun⟩ | ⟨e, he, w1, hal, hrun⟩
  · refine .inl ⟨?_, hrun⟩
    rw [hl] at h0
    simpa using h0
  · rw [hl] at he
    simp only [List.mem_map] at he
    obtain ⟨x, hx, rfl⟩ := he
    obtain ⟨hxL, hxs⟩ := List.mem_filter.1 hx
    have hxs' : seen.contains x.2.2 = false := by simpa using hxs
    have hr1 : w1.heap[r]? = some (.mapIter (some b) since seen c0) := by rcases hal with rfl | rfl <;> exact hr
    have hb1 : w1.heap[b]? = some (.map (L.map (kent kv)).toArray c) := by rcases hal with rfl | rfl <;> exact hR.blk
    have hset := heap_set (o' := .mapIter (some b) since (seen.push x.2.2) c) hr1
    have hb' : (setBlock w1 r (.mapIter (some b) since (seen.push x.2.2) c)).heap[b]? = some (.map (L.map (kent kv)).toArray c) := (hset.2 b (fun e1 => hbr e1)).trans hb1
    refine .inr ⟨x, _, _, filter_seenK hR.stamps hxL hxs', hrun, ⟨c, since, seen.push x.2.2, c, ⟨hb', hR.keys, hR.stamps, hR.lt⟩, hset.1, hold, hcc, hcc, rfl⟩, ?_, ?_⟩
    · rcases hal with rfl | rfl <;> exact ⟨rfl, rfl, rfl, by simp [setBlock], fun i _ hi => hset.2 i (fun e1 => hi (by simp [e1]))⟩
    · refine run_entry_at _ r b since seen _ c (kent kv x) hset.1 hb' ?_ ?_
      · simp only [List.mem_map]
        exact ⟨x, hxL, rfl⟩
      · simp only [List.map_map]
        exact hR.stamps
end
end Go.Proofs.YteddiknlcdbhjaaGreatDoor

namespace Go.Proofs.YteddiknlcdbhjaaGreatDoor
open Go.RowKit

/-- From w to w' only blocks of O, and new ones, may have turned. -/
structure UpdP (O : Nat → Prop) (w w' : World) : Prop where
  os : w'.os = w.os
  tape : w'.tape = w.tape
  output : w'.output = w.output
  size : w.heap.size ≤ w'.heap.size
  keep : ∀ k, k < w.heap.size → ¬ O k → w'.heap[k]? = w.heap[k]?
theorem UpdP.refl (O : Nat → Prop) (w : World) : UpdP O w w := ⟨rfl, rfl, rfl, Nat.le_refl _, fun _ _ _ => rfl⟩
theorem UpdP.trans {O O' : Nat → Prop} {a b c : World} (h : UpdP O a b) (k : UpdP O' b c) (hO : ∀ x, O' x → O x ∨ a.heap.size ≤ x) : UpdP O a c :=
  ⟨k.os.trans h.os, k.tape.trans h.tape, k.output.trans h.output, Nat.le_trans h.size k.size, fun i hi hn =>
    (k.keep i (Nat.lt_of_lt_of_le hi h.size) (fun hm => (hO i hm).elim hn (by omega))).trans (h.keep i hi hn)⟩
theorem UpdP.of_upd {S : List Nat} {O : Nat → Prop} {w w' : World} (h : Upd S w w') (hS : ∀ x ∈ S, O x ∨ w.heap.size ≤ x) : UpdP O w w' :=
  ⟨h.os, h.tape, h.output, h.size, fun k hk hn => h.keep k hk (fun hm => (hS k hm).elim hn (by omega))⟩
theorem UpdP.below {O : Nat → Prop} {B : Nat} {w w' : World} (h : UpdP O w w') (hB : B ≤ w.heap.size) (hO : ∀ x, O x → B ≤ x) : Below B w w' :=
  ⟨h.os, h.tape, h.output, h.size, fun k hk => h.keep k (by omega) (fun hm => by have := hO k hm; omega)⟩
theorem Blk.updP {O : Nat → Prop} {w w' : World} {g : Nat} {t : TypeId} {cs : Array Value} (h : Blk w g t cs) (hu : UpdP O w w') (hg : ¬ O g) : Blk w' g t cs := (hu.keep g h.lt hg).trans h

theorem UpdP.to_upd {O : Nat → Prop} {w w1 w2 : World} (h : UpdP O w1 w2) (h0 : Upd [] w w1) (hO : ∀ x, O x → w.heap.size ≤ x) : Upd [] w w2 :=
  ⟨h.os.trans h0.os, h.tape.trans h0.tape, h.output.trans h0.output, Nat.le_trans h0.size h.size, fun k hk hn => (h.keep k (Nat.lt_of_lt_of_le hk h0.size) (fun ho => by have := hO k ho; omega)).trans (h0.keep k hk hn)⟩
theorem UpdP.mono {O O' : Nat → Prop} {w w' : World} (h : UpdP O w w') (hO : ∀ x, O x → O' x ∨ w.heap.size ≤ x) : UpdP O' w w' :=
  ⟨h.os, h.tape, h.output, h.size, fun k hk hn => h.keep k hk fun ho => (hO k ho).elim hn (by omega)⟩
end Go.Proofs.YteddiknlcdbhjaaGreatDoor

namespace Go.Proofs.YteddiknlcdbhjaaGreatDoor
open Go.RowKit

/-- How a thing lies in cells. -/
structure Enc (α : Type) where
  c : α → List Value
  s : Nat
  len : ∀ a, (c a).length = s
  one : ∀ a, ∀ u ∈ c a, u.oneCell' = true
  pos : 0 < s
def flat {α : Type} (E : Enc α) (L : List α) : List Value := L.flatMap E.c
section
variable {α : Type} {E : Enc α} {L M : List α} {a : α} {k j : Nat}
theorem flat_nil : flat E [] = [] := rfl
theorem flat_cons : flat E (a :: L) = E.c a ++ flat E L := by unfold flat; rw [List.flatMap_cons]
theorem flat_append : flat E (L ++ M) = flat E L ++ flat E M := by unfold flat; rw [List.flatMap_append]
theorem flat_one_ : flat E [a] = E.c a := by unfold flat; simp
theorem flat_len : (flat E L).length = L.length * E.s := by
  induction L with
  | nil => simp [flat]
  | cons a L ih => rw [flat_cons, List.length_append, ih, E.len, List.length_cons, Nat.add_mul]; omega
theorem flat_cells : ∀ u ∈ flat E L, u.oneCell' = true := by
  intro u hu
  obtain ⟨a, _, h⟩ := List.mem_flatMap.1 hu
  exact E.one a u h
theorem flat_get (h : L[k]? = some a) (hj : j < E.s) : (flat E L)[k * E.s + j]? = (E.c a)[j]? := by
  induction L generalizing k with
  | nil => simp at h
  | cons b L ih =>
    rw [flat_cons]
    cases k with
    | zero =>
      simp at h
      subst h
      rw [Nat.zero_mul, Nat.zero_add, List.getElem?_append_left (by rw [E.len]; exact hj)]
    | succ k =>
      rw [List.getElem?_append_right (by rw [E.len, Nat.add_mul]; omega), E.len, show (k + 1) * E.s + j - E.s = k * E.s + j by rw [Nat.add_mul]; omega]
      exact ih (by simpa using h)
theorem flat_take (k : Nat) : flat E (L.take k) = (flat E L).take (k * E.s) := by
  induction L generalizing k with
  | nil => simp [flat]
  | cons a L ih =>
    cases k with
    | zero => simp [flat]
    | succ k =>
      rw [List.take_succ_cons, flat_cons, flat_cons, ih, List.take_append, E.len, List.take_of_length_le (l := E.c a) (by rw [E.len, Nat.add_mul]; omega), show (k + 1) * E.s - E.s = k * E.s by rw [Nat.add_mul]; omega]
theorem flat_drop (k : Nat) : flat E (L.drop k) = (flat E L).drop (k * E.s) := by
  induction L generalizing k with
  | nil => simp [flat]
  | cons a L ih =>
    cases k with
    | zero => simp [flat]
    | succ k =>
      have h0 : (E.c a).drop ((k + 1) * E.s) = [] := List.drop_eq_nil_of_le (by rw [E.len, Nat.add_mul]; omega)
      rw [List.drop_succ_cons, flat_cons, ih, List.drop_append, E.len, h0, show (k + 1) * E.s - E.s = k * E.s by rw [Nat.add_mul]; omega]
      rfl
end
/-- A slice value that reads as these things. -/
def Rd {α : Type} (E : Enc α) (w : World) (v : Value) (L : List α) : Prop := Src w E.s v L.length (flat E L)
/-- A slice value that owns these things, in a block from B on. -/
def Ow {α : Type} (E : Enc α) (e : TypeId) (w : World) (B : Nat) (v : Value) (L : List α) : Prop := w.ownsRow B e E.s v L.length (flat E L)
section
variable {α : Type} {E : Enc α} {L M : List α} {a : α} {k j B : Nat} {e : TypeId} {w w' : World} {v : Value} {S : List Nat}
theorem Rd.nil (E : Enc α) (w : World) (c : Nat) : Rd E w (.slice none 0 c) [] := ⟨by simp [flat], none, c, rfl, by simp [flat]⟩
theorem Ow.nil (E : Enc α) (e : TypeId) (w : World) (B : Nat) : Ow E e w B (.slice none 0 0) [] := own_nil _ _ _ _
theorem Ow.rd (h : Ow E e w B v L) : Rd E w v L := Src.of_own h
theorem Rd.upd (h : Rd E w v L) (hu : Upd S w w') (hS : ∀ b, v.ownBlock = some b → b ∉ S) : Rd E w' v L := Src.upd h hu hS
theorem Rd.upd0 (h : Rd E w v L) (hu : Upd [] w w') : Rd E w' v L := Src.upd0 h hu
theorem Ow.upd (h : Ow E e w B v L) (hu : Upd S w w') (hS : ∀ b, v.ownBlock = some b → b ∉ S) : Ow E e w' B v L := own_upd h hu hS
theorem Ow.upd0 (h : Ow E e w B v L) (hu : Upd [] w w') : Ow E e w' B v L := own_upd0 h hu
theorem Rd.form (h : Rd E w v L) : ∃ A c, v = .slice A L.length c := by
  obtain ⟨_, A, c, e, _⟩ := h
  exact ⟨A, c, e⟩
theorem Ow.form (h : Ow E e w B v L) : ∃ A c, v = .slice A L.length c ∧ L.length ≤ c ∧ c ≤ maxLen := own_slice h
/-- The cells of the k-th one. -/
theorem Rd.at_ {A : Option Addr} {n c : Nat} (h : Rd E w (.slice A n c) L) (hk : L[k]? = some a) : ∃ ad : Addr, A = some ad ∧ ad.block < w.heap.size ∧ ∀ j u, (E.c a)[j]? = some u → w.cell? (ad.add (k * E.s + j)) = some u := by
  obtain ⟨h1, A', c', he, h2⟩ := h
  injection he with hA _ _
  subst hA
  have h0 := E.pos
  have hl := E.len a
  obtain ⟨u, hu⟩ : ∃ u, (E.c a)[0]? = some u := ⟨_, List.getElem?_eq_getElem (by omega)⟩
  obtain ⟨ad, rfl, hb, _⟩ := h2 (k * E.s + 0) u ((flat_get hk h0).trans hu)
  refine ⟨ad, rfl, hb, fun j u hj => ?_⟩
  have hjl : j < E.s := by have := (List.getElem?_eq_some_iff.1 hj).1; omega
  obtain ⟨ad', e, _, hc⟩ := h2 (k * E.s + j) u ((flat_get hk hjl).trans hj)
  cases e
  exact hc
theorem Ow.at_ {g n c : Nat} (h : Ow E e w B (.slice (some ⟨g, 0, none⟩) n c) L) (hk : L[k]? = some a) : ∀ j u, (E.c a)[j]? = some u → w.cell? ⟨g, k * E.s + j, none⟩ = some u := by
  intro j u hj
  have hjl : j < E.s := by have := (List.getElem?_eq_some_iff.1 hj).1; rw [E.len] at this; exact this
  have hn : n = L.length := by
    obtain ⟨A, c', he, _⟩ := own_slice h
    injection he
  subst hn
  exact own_cell h _ u ((flat_get hk hjl).trans hj)
theorem Rd.take {A : Option Addr} {n c : Nat} (h : Rd E w (.slice A n c) L) (k : Nat) (hk : k ≤ L.length) (c' : Nat) : Rd E w (.slice A k c') (L.take k) := by
  have hn : n = L.length := by
    obtain ⟨_, A', c2, he, _⟩ := h
    injection he
  subst hn
  unfold Rd
  rw [flat_take, List.length_take, Nat.min_eq_left hk]
  exact Src.take h k hk c'
theorem Rd.drop {A : Option Addr} {n c : Nat} (h : Rd E w (.slice A n c) L) (k : Nat) (hk : k ≤ L.length) (hc : n ≤ c) (c' : Nat) : Rd E w (.slice (if c = k then A else A.map (·.add (k * E.s))) (n - k) c') (L.drop k) := by
  have hn : n = L.length := by
    obtain ⟨_, A', c2, he, _⟩ := h
    injection he
  subst hn
  unfold Rd
  rw [flat_drop, List.length_drop]
  exact Src.drop h k hk hc c'
end

/-- From w to w' only blocks of F, and new ones, have turned; F' are of F, or new. -/
structure Frm (F F' : List Nat) (w w' : World) : Prop where
  upd : Upd F w w'
  sub : ∀ k ∈ F', k ∈ F ∨ w.heap.size ≤ k
def Disj (F G : List Nat) : Prop := ∀ k ∈ F, k ∉ G
section
variable {F F' F'' G : List Nat} {w w' w0 w1 : World} {B : Nat}
theorem Frm.refl (F : List Nat) (w : World) : Frm F F w w := ⟨.refl _ _, fun _ h => .inl h⟩
theorem Frm.trans (h : Frm F F' w w1) (h' : Frm F' F'' w1 w') : Frm F F'' w w' :=
  ⟨h.upd.trans' h'.upd h.sub, fun k hk => (h'.sub k hk).elim (h.sub k) (fun g => .inr (Nat.le_trans h.upd.size g))⟩
theorem Frm.of0 (h : Upd [] w w') : Frm F F w w' := ⟨h.mono (by simp), fun _ h => .inl h⟩
theorem Frm.pre (h0 : Upd [] w0 w) (h : Frm F F' w w') : Frm F F' w0 w' := (Frm.of0 h0).trans h
theorem Frm.post (h : Frm F F' w w') (h0 : Upd [] w' w1) : Frm F F' w w1 := h.trans (.of0 h0)
theorem Disj.symm (h : Disj F G) : Disj G F := fun k hk hf => h k hf hk
theorem Frm.disj (h : Frm F F' w w') (hd : Disj F G) (hG : ∀ k ∈ G, k < w.heap.size) : Disj F' G := fun k hk hg => (h.sub k hk).elim (fun hf => hd k hf hg) (fun hs => by have := hG k hg; omega)
theorem Frm.base (h : Frm F F' w w') (hB : ∀ k ∈ F, B ≤ k) (hw : B ≤ w.heap.size) : ∀ k ∈ F', B ≤ k := fun k hk => (h.sub k hk).elim (hB k) (fun hs => Nat.le_trans hw hs)
/-- What the call made, and turns: the rest stays. -/
theorem Frm.rest (h : Frm F F' w w') (h0 : Upd [] w0 w) (hF : ∀ k ∈ F, w0.heap.size ≤ k) : Upd [] w0 w' := h0.trans' h.upd (fun k hk => .inr (hF k hk))
theorem Upd.rest (h : Upd F w w') (h0 : Upd [] w0 w) (hF : ∀ k ∈ F, w0.heap.size ≤ k) : Upd [] w0 w' := h0.trans' h (fun k hk => .inr (hF k hk))
end
end Go.Proofs.YteddiknlcdbhjaaGreatDoor

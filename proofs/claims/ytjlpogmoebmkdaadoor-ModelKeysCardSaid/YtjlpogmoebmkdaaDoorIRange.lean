/-
  Going over a map whose keys are integers: each entry comes once, in whatever order. No program in sight.
-/
import Derived.Test.YtjlpogmoebmkdaaDoorIMap
import Derived.Maps.RangeWalk
set_option linter.unusedVariables false
namespace Go.Proofs.YtjlpogmoebmkdaaDoor
open Go Go.RowKit Go.MapKept
open Go.ChangeMaps (setBlock)

/-- Block r goes over map b, which has L; rest are still to come. -/
structure IIter (w : World) (q : IntKind) (b r : Nat) (L rest : List IEnt) : Prop where
  all : ∃ c since seen c0, IRaw w q b L c ∧ w.heap[r]? = some (.mapIter (some b) since seen c0) ∧ (∀ p ∈ L, p.2.2 < since) ∧ since ≤ c0 ∧ since ≤ c ∧ rest = L.filter (fun p => !seen.contains p.2.2)
theorem IIter.lt {w : World} {q : IntKind} {b r : Nat} {L rest : List IEnt} (h : IIter w q b r L rest) : r < w.heap.size := by
  obtain ⟨_, s, n, c, _, h1, _⟩ := h.all
  rcases Nat.lt_or_ge r w.heap.size with hl | hg
  · exact hl
  · rw [Array.getElem?_eq_none hg] at h1
    cases h1
theorem IIter.map {w : World} {q : IntKind} {b r : Nat} {L rest : List IEnt} (h : IIter w q b r L rest) : IMap w q b (findI L) L.length := by
  obtain ⟨c, _, _, _, hr, _⟩ := h.all
  exact ⟨L, c, hr, fun _ => rfl, rfl⟩
theorem IIter.upd {S : List Nat} {w w' : World} {q : IntKind} {b r : Nat} {L rest : List IEnt} (h : IIter w q b r L rest) (hu : Upd S w w') (hb : b ∉ S) (hr : r ∉ S) : IIter w' q b r L rest := by
  obtain ⟨c, s, n, c0, h1, h2, h3⟩ := h.all
  exact ⟨c, s, n, c0, ⟨(hu.keep b h1.lt' hb).trans h1.blk, h1.keys, h1.stamps, h1.lt⟩, (hu.keep r h.lt hr).trans h2, h3⟩
section
variable {P : Program} {w : World} {q : IntKind} {b r : Nat} {L rest : List IEnt} {f : Int → Option Value} {n : Nat}
/-- It begins. -/
theorem run_range_int {mt kt et : TypeId} (hm : P.underlying mt = some (.map kt et)) (h : IMap w q b f n) :
    ∃ L w', (Instr.range mt (.map (some b))).run P w = .ok (.pointer (some ⟨w.heap.size, 0, none⟩)) w' ∧ IIter w' q b w.heap.size L L ∧ (∀ k, f k = findI L k) ∧ (L.map (·.1)).Nodup ∧ L.length = n ∧ Upd [] w w' ∧ w'.heap.size = w.heap.size + 1 := by
  obtain ⟨L, c, hr, hf, hn⟩ := h
  refine ⟨L, _, run_range_map w mt kt et b _ c hm hr.blk, ⟨c, c, #[], c, ?_, heap_alloc_new w _, hr.lt, Nat.le_refl _, Nat.le_refl _, ?_⟩, hf, hr.keys, hn, (Upd.refl [] w).alloc _, by simp⟩
  · exact ⟨(Below.heap_alloc w _ b hr.lt').trans hr.blk, hr.keys, hr.stamps, hr.lt⟩
  · symm
    rw [List.filter_eq_self]
    intro p _
    simp
theorem filter_seen {L : List IEnt} {seen : Array Nat} {x : IEnt} (hn : (L.map (·.2.2)).Nodup) (hx : x ∈ L) (hs : seen.contains x.2.2 = false) :
    (x :: L.filter (fun p => !(seen.push x.2.2).contains p.2.2)).Perm (L.filter (fun p => !seen.contains p.2.2)) := by
  induction L with
  | nil => cases hx
  | cons a L ih =>
    rw [List.map_cons, List.nodup_cons] at hn
    rw [List.filter_cons, List.filter_cons]
    by_cases e : a = x
    · subst e
      have h1 : L.filter (fun p => !(seen.push a.2.2).contains p.2.2) = L.filter (fun p => !seen.contains p.2.2) := by
        refine List.filter_congr fun p hp => ?_
        have : p.2.2 ≠ a.2.2 := fun e => hn.1 (e ▸ List.mem_map.2 ⟨p, hp, rfl⟩)
        congr 1
        rw [Bool.eq_iff_iff]
        simp [this]
      have h2 : (seen.push a.2.2).contains a.2.2 = true := by simp
      rw [h1, h2, hs]
      simp
    · have hx' : x ∈ L := by
        rcases List.mem_cons.1 hx with h | h
        · exact absurd h.symm e
        · exact h
      have hne : a.2.2 ≠ x.2.2 := fun e => hn.1 (e ▸ List.mem_map.2 ⟨x, hx', rfl⟩)
      have h1 : (seen.push x.2.2).contains a.2.2 = seen.contains a.2.2 := by
        rw [Bool.eq_iff_iff]
        simp [hne]
      rw [h1]
      cases hsa : seen.contains a.2.2 with
      | true => simpa using ih hn.2 hx'
      | false =>
        simp only [Bool.not_false, if_true]
        exact (List.Perm.swap _ _ _).trans (List.Perm.cons a (ih hn.2 hx'))
/-- One more comes, or there is none. -/
theorem run_next_int (h : IIter w q b r L rest) (ty : TypeId) :
    (rest = [] ∧ (Instr.next (.pointer (some ⟨r, 0, none⟩)) false ty).run P w = .ok (.tuple #[.bool false]) w) ∨
    ∃ x rest' w', (x :: rest').Perm rest ∧ (Instr.next (.pointer (some ⟨r, 0, none⟩)) false ty).run P w = .ok (.tuple #[.bool true, .int q x.1, x.2.1]) w' ∧ IIter w' q b r L rest' ∧ Upd [r] w w' ∧
      (Instr.entry (.pointer (some ⟨r, 0, none⟩))).run P w' = .ok (.tuple #[.int q x.1, x.2.1]) w' := by
  have hrl := h.lt
  obtain ⟨c, since, seen, c0, hR, hr, hold, hsc, hcc, rfl⟩ := h.all
  have hbr : b ≠ r := by
    rintro rfl
    rw [hR.blk] at hr
    cases hr
  have hold' : ∀ x ∈ (L.map (ent q)).toArray.toList, x.born < since := by
    intro x hx
    simp only [List.mem_map] at hx
    obtain ⟨p, hp, rfl⟩ := hx
    exact hold p hp
  have hl : leftOf (L.map (ent q)).toArray seen = ((L.filter (fun p => !seen.contains p.2.2)).map (ent q)).toArray := by
    unfold leftOf
    rw [List.filter_toArray, List.filter_map]
    rfl
  rcases run_next_at (P := P) w ty r b since c0 seen _ c hr hR.blk hold' hsc with ⟨h0, hrun⟩ | ⟨e, he, w1, hal, hrun⟩
  · refine .inl ⟨?_, hrun⟩
    rw [hl] at h0
    simpa using h0
  · rw [hl] at he
    simp only [List.mem_map] at he
    obtain ⟨x, hx, rfl⟩ := he
    obtain ⟨hxL, hxs⟩ := List.mem_filter.1 hx
    have hxs' : seen.contains x.2.2 = false := by simpa using hxs
    have hr1 : w1.heap[r]? = some (.mapIter (some b) since seen c0) := by rcases hal with rfl | rfl <;> exact hr
    have hb1 : w1.heap[b]? = some (.map (L.map (ent q)).toArray c) := by rcases hal with rfl | rfl <;> exact hR.blk
    have hset := heap_set (o' := .mapIter (some b) since (seen.push x.2.2) c) hr1
    have hb' : (setBlock w1 r (.mapIter (some b) since (seen.push x.2.2) c)).heap[b]? = some (.map (L.map (ent q)).toArray c) := (hset.2 b (fun e1 => hbr e1)).trans hb1
    refine .inr ⟨x, _, _, filter_seen hR.stamps hxL hxs', hrun, ⟨c, since, seen.push x.2.2, c, ⟨hb', hR.keys, hR.stamps, hR.lt⟩, hset.1, hold, hcc, hcc, rfl⟩, ?_, ?_⟩
    · rcases hal with rfl | rfl <;> exact ⟨rfl, rfl, rfl, by simp [setBlock], fun i _ hi => hset.2 i (fun e1 => hi (by simp [e1]))⟩
    · refine run_entry_at _ r b since seen _ c (ent q x) hset.1 hb' ?_ ?_
      · simp only [List.mem_map]
        exact ⟨x, hxL, rfl⟩
      · simp only [List.map_map]
        exact hR.stamps
end
end Go.Proofs.YtjlpogmoebmkdaaDoor

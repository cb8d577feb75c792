/-
  Going over a map whose keys are integers: each entry comes once, in whatever order. No program in sight.
  slices.Equal of ints, maps.Equal.
  model.State: Same.
  errors.As at a place (*api.Fault), and api.Place: by contracts. The premise 'typed': the library's variable errors.errorType holds the handle of 'error'.
  Errors as the program makes them: what Place says of them.
  The program's state and the document's, beside one another; both have the same.
-/
import Derived.Test.YtfbeaklplefojaaGreatDoorEvB0
import Derived.Maps.RangeWalk
import Derived.Test.YtfbeaklplefojaaGreatDoorEvB6
import Derived.Test.YtfbeaklplefojaaGreatDoorEvB1
import Derived.LaidHandle
import Derived.Test.YtfbeaklplefojaaGreatDoorEvBsRMdl5
set_option linter.unusedVariables false
namespace Go.Proofs.YtfbeaklplefojaaGreatDoor
open Go Go.RowKit Go.MapKept
open Go.ChangeMaps (setBlock)

/-- Block r goes over map b, which has L; rest are still to come. -/
structure IIter (w : World) (q : IntKind) (b r : Nat) (L rest : List IEnt) : Prop where
  all : ∃ c since seen c0, IRaw w q b L c ∧ w.heap[r]? = some (.mapIter (some b) since seen c0) ∧ (∀ p ∈ L, p.2.2 < since) ∧ since ≤ c0 ∧ since ≤ c ∧ rest = L.filter (fun p => !seen.contains p.2.2)
theorem IIter.lt {w : World} {q : IntKind} {b r : Nat} {L rest : List IEnt} (h : IIter w q b r L rest) : r < w.heap.size := by
  obtain ⟨_, s, n, c, _, h1, _⟩ := h.all
  rcases Nat.lt_or_ge r w.heap.size with hl | hg
  · exact hl
  · rw [Array.getElem?_eq_none hg] at h1
    cases h1
theorem IIter.map {w : World} {q : IntKind} {b r : Nat} {L rest : List IEnt} (h : IIter w q b r L rest) : IMap w q b (findI L) L.length := by
  obtain ⟨c, _, _, _, hr, _⟩ := h.all
  exact ⟨L, c, hr, fun _ => rfl, rfl⟩
theorem IIter.upd {S : List Nat} {w w' : World} {q : IntKind} {b r : Nat} {L rest : List IEnt} (h : IIter w q b r L rest) (hu : Upd S w w') (hb : b ∉ S) (hr : r ∉ S) : IIter w' q b r L rest := by
  obtain ⟨c, s, n, c0, h1, h2, h3⟩ := h.all
  exact ⟨c, s, n, c0, ⟨(hu.keep b h1.lt' hb).trans h1.blk, h1.keys, h1.stamps, h1.lt⟩, (hu.keep r h.lt hr).trans h2, h3⟩
section
variable {P : Program} {w : World} {q : IntKind} {b r : Nat} {L rest : List IEnt} {f : Int → Option Value} {n : Nat}
/-- It begins. -/
theorem run_range_int {mt kt et : TypeId} (hm : P.underlying mt = some (.map kt et)) (h : IMap w q b f n) :
    ∃ L w', (Instr.range mt (.map (some b))).run P w = .ok (.pointer (some ⟨w.heap.size, 0, none⟩)) w' ∧ IIter w' q b w.heap.size L L ∧ (∀ k, f k = findI L k) ∧ (L.map (·.1)).Nodup ∧ L.length = n ∧ Upd [] w w' ∧ w'.heap.size = w.heap.size + 1 := by
  obtain ⟨L, c, hr, hf, hn⟩ := h
  refine ⟨L, _, run_range_map w mt kt et b _ c hm hr.blk, ⟨c, c, #[], c, ?_, heap_alloc_new w _, hr.lt, Nat.le_refl _, Nat.le_refl _, ?_⟩, hf, hr.keys, hn, (Upd.refl [] w).alloc _, by simp⟩
  · exact ⟨(Below.heap_alloc w _ b hr.lt').trans hr.blk, hr.keys, hr.stamps, hr.lt⟩
  · symm
    rw [List.filter_eq_self]
    intro p _
    simp
theorem filter_seen {L : List IEnt} {seen : Array Nat} {x : IEnt} (hn : (L.map (·.2.2)).Nodup) (hx : x ∈ L) (hs : seen.contains x.2.2 = false) :
    (x :: L.filter (fun p => !(seen.push x.2.2).contains p.2.2)).Perm (L.filter (fun p => !seen.contains p.2.2)) := by
  induction L with
  | nil => cases hx
  | cons a L ih =>
    rw [List.map_cons, List.nodup_cons] at hn
    rw [List.filter_cons, List.filter_cons]
    by_cases e : a = x
    · subst e
      have h1 : L.filter (fun p => !(seen.push a.2.2).contains p.2.2) = L.filter (fun p => !seen.contains p.2.2) := by
        refine List.filter_congr fun p hp => ?_
        have : p.2.2 ≠ a.2.2 := fun e => hn.1 (e ▸ List.mem_map.2 ⟨p, hp, rfl⟩)
        congr 1
        rw [Bool.eq_iff_iff]
        simp [this]
      have h2 : (seen.push a.2.2).contains a.2.2 = true := by simp
      rw [h1, h2, hs]
      simp
    · have hx' : x ∈ L := by
        rcases List.mem_cons.1 hx with h | h
        · exact absurd h.symm e
        · exact h
      have hne : a.2.2 ≠ x.2.2 := fun e => hn.1 (e ▸ List.mem_map.2 ⟨x, hx', rfl⟩)
      have h1 : (seen.push x.2.2).contains a.2.2 = seen.contains a.2.2 := by
        rw [Bool.eq_iff_iff]
        simp [hne]
      rw [h1]
      cases hsa : seen.contains a.2.2 with
      | true => simpa using ih hn.2 hx'
      | false =>
        simp only [Bool.not_false, if_true]
        exact (List.Perm.swap _ _ _).trans (List.Perm.cons a (ih hn.2 hx'))
/-- One more comes, or there is none. -/
theorem run_next_int (h : IIter w q b r L rest) (ty : TypeId) :
    (rest = [] ∧ (Instr.next (.pointer (some ⟨r, 0, none⟩)) false ty).run P w = .ok (.tuple #[.bool false]) w) ∨
    ∃ x rest' w', (x :: rest').Perm rest ∧ (Instr.next (.pointer (some ⟨r, 0, none⟩)) false ty).run P w = .ok (.tuple #[.bool true, .int q x.1, x.2.1]) w' ∧ IIter w' q b r L rest' ∧ Upd [r] w w' ∧
      (Instr.entry (.pointer (some ⟨r, 0, none⟩))).run P w' = .ok (.tuple #[.int q x.1, x.2.1]) w' := by
  have hrl := h.lt
  obtain ⟨c, since, seen, c0, hR, hr, hold, hsc, hcc, rfl⟩ := h.all
  have hbr : b ≠ r := by
    rintro rfl
    rw [hR.blk] at hr
    cases hr
  have hold' : ∀ x ∈ (L.map (ent q)).toArray.toList, x.born < since := by
    intro x hx
    simp only [List.mem_map] at hx
    obtain ⟨p, hp, rfl⟩ := hx
    exact hold p hp
  have hl : leftOf (L.map (ent q)).toArray seen = ((L.filter (fun p => !seen.contains p.2.2)).map (ent q)).toArray := by
    unfold leftOf
    rw [List.filter_toArray, List.filter_map]
    rfl
  rcases run_next_at (P := P) w ty r b since c0 seen _ c hr hR.blk hold' hsc with ⟨h0, hrun⟩ | ⟨e, he, w1, hal, hrun⟩
  · refine .inl ⟨?_, hrun⟩
    rw [hl] at h0
    simpa using h0
  · rw [hl] at he
    simp only [List.mem_map] at he
    obtain ⟨x, hx, rfl⟩ := he
    obtain ⟨hxL, hxs⟩ := List.mem_filter.1 hx
    have hxs' : seen.contains x.2.2 = false := by simpa using hxs
    have hr1 : w1.heap[r]? = some (.mapIter (some b) since seen c0) := by rcases hal with rfl | rfl <;> exact hr
    have hb1 : w1.heap[b]? = some (.map (L.map (ent q)).toArray c) := by rcases hal with rfl | rfl <;> exact hR.blk
    have hset := heap_set (o' := .mapIter (some b) since (seen.push x.2.2) c) hr1
    have hb' : (setBlock w1 r (.mapIter (some b) since (seen.push x.2.2) c)).heap[b]? = some (.map (L.map (ent q)).toArray c) := (hset.2 b (fun e1 => hbr e1)).trans hb1
    refine .inr ⟨x, _, _, filter_seen hR.stamps hxL hxs', hrun, ⟨c, since, seen.push x.2.2, c, ⟨hb', hR.keys, hR.stamps, hR.lt⟩, hset.1, hold, hcc, hcc, rfl⟩, ?_, ?_⟩
    · rcases hal with rfl | rfl <;> exact ⟨rfl, rfl, rfl, by simp [setBlock], fun i _ hi => hset.2 i (fun e1 => hi (by simp [e1]))⟩
    · refine run_entry_at _ r b since seen _ c (ent q x) hset.1 hb' ?_ ?_
      · simp only [List.mem_map]
        exact ⟨x, hxL, rfl⟩
      · simp only [List.map_map]
        exact hR.stamps
end
end Go.Proofs.YtfbeaklplefojaaGreatDoor

namespace Go.Proofs.YtfbeaklplefojaaGreatDoor
open Go.RowKit Assoc MP
attribute [local go_sem] litStep_value

def sameToK (L M : List Int) (k : Nat) : Prop := ∀ j, j < k → L.getD j 0 = M.getD j 0
theorem sameK_all {L M : List Int} {n : Nat} (hl : L.length = n) (hm : M.length = n) (h : sameToK L M n) : L = M := by
  apply List.ext_getElem (by rw [hl, hm])
  intro i h1 h2
  have := h i (by omega)
  rwa [List.getD_eq_getElem?_getD, List.getD_eq_getElem?_getD, List.getElem?_eq_getElem h1, List.getElem?_eq_getElem h2] at this
set_option maxRecDepth 100000 in
set_option maxHeartbeats 2000000 in
theorem equal_ints (B B' : Nat) (L M : List Int) (v u : Value) (w : World) (hv : Ow encK 3 w B v L) (hu : Ow encK 3 w B' u M) (hL : L.length ≤ 1000) (hM : M.length ≤ 1000) :
    Calls Tryz.prog 29 #[v, u] w fun e w' => e = .returned (.bool (decide (L = M))) ∧ Upd [] w w' := by
  obtain ⟨A, c, rfl, hnc, hcm⟩ := own_slice hv
  obtain ⟨A', c', rfl, hnc', hcm'⟩ := own_slice hu
  obtain ⟨n, hn⟩ : ∃ n, L.length = n := ⟨_, rfl⟩
  obtain ⟨m, hm⟩ : ∃ m, M.length = m := ⟨_, rfl⟩
  have HV : Hid (w.ownsRow B 3 1 (.slice A n c) n (flat encK L)) := Lib.hid (by have := hv; unfold Ow at this; rw [hn] at this; exact this)
  have HU : Hid (w.ownsRow B' 3 1 (.slice A' m c') m (flat encK M)) := Lib.hid (by have := hu; unfold Ow at this; rw [hm] at this; exact this)
  have HN := Lib.hid hn
  have HM := Lib.hid hm
  rw [hn] at hL hnc ⊢
  rw [hm] at hM hnc' ⊢
  clear hv hu hn hm
  obtain ⟨r, hr⟩ : ∃ r, decide (L = M) = r := ⟨_, rfl⟩
  have HR := Lib.hid hr
  rw [hr]
  clear hr
  go_enter Tryz.func29, Tryz.ntmps29
  by_cases hnm : n = m
  · subst hnm
    have d : ((n : Int) != (n : Int)) = false := by simp
    go_wp2_with fail
    go_loopw [13] (fun v wr => ∃ k : Nat, v = .int .i64 k ∧ k ≤ n ∧ Hid (sameToK L M k) ∧ Hid (Upd [] w wr)) (fun v _ => n - (intOf v).toNat)
    case atStart => exact ⟨0, rfl, by omega, Lib.hid (fun j hj => by omega), Lib.hid (.refl _ _)⟩
    case round =>
      obtain ⟨k, rfl, hk, HS, U1⟩ := hrel
      by_cases hkn : k < n
      · obtain ⟨x, hx⟩ : ∃ x, L[k]? = some x := ⟨_, List.getElem?_eq_getElem (by rw [HN.out]; omega)⟩
        obtain ⟨y, hy⟩ : ∃ y, M[k]? = some y := ⟨_, List.getElem?_eq_getElem (by rw [HM.out]; omega)⟩
        have HX := Lib.hid hx
        have HY := Lib.hid hy
        obtain ⟨g, cg, cur, e1, _⟩ := own_form HV.out (by omega)
        obtain ⟨g', cg', cur', e2, _⟩ := own_form HU.out (by omega)
        injection e1 with e1 _ e1'
        injection e2 with e2 _ e2'
        subst e1 e2 e1' e2'
        have CS : Hid (∀ W, Upd [] wr.drew W → W.cell? ⟨g, k, none⟩ = some (.int .i64 x) ∧ W.cell? ⟨g', k, none⟩ = some (.int .i64 y)) := Lib.hid (fun W hW => by
          have hu : Upd [] w W := U1.out.drew.trans hW
          have h1 := own_cell (own_upd0 HV.out hu) _ _ ((flat_get (E := encK) hx (j := 0) (by decide)).trans rfl)
          have h2 := own_cell (own_upd0 HU.out hu) _ _ ((flat_get (E := encK) hy (j := 0) (by decide)).trans rfl)
          rw [show k * encK.s + 0 = k by simp [encI]] at h1 h2
          exact ⟨h1, h2⟩)
        have q1 : (0 : Int) ≤ (k : Int) := by omega
        have q2 : (k : Int) < (n : Int) := by omega
        clear hx hy
        go_wp2_with fail
        refine wp_invN [] [] (by kernel_rfl) (by kernel_rfl) (by kernel_rfl) trivial ?_
        with_reducible apply wpV_light
        · simp only [lightOp]
        · intro W hU hF
          have f0 := CS.out W hU
          clear hU hF
          go_simp
          exact rfl
        simp only [Act.put, List.setIfInBounds_toArray, List.set_cons_zero, List.set_cons_succ]
        with_reducible apply wpV_light
        · simp only [lightOp]
        · intro W hU hF
          have f0 := CS.out W hU
          clear hU hF
          go_simp
          exact rfl
        simp only [Act.put, List.setIfInBounds_toArray, List.set_cons_zero, List.set_cons_succ]
        with_reducible apply wpV_light
        · simp only [lightOp]
        · intro W hU hF
          have f0 := CS.out W hU
          clear hU hF
          go_simp
          exact rfl
        simp only [Act.put, List.setIfInBounds_toArray, List.set_cons_zero, List.set_cons_succ]
        with_reducible apply wpV_light
        · simp only [lightOp]
        · intro W hU hF
          have f0 := CS.out W hU
          clear hU hF
          go_simp
          exact rfl
        simp only [Act.put, List.setIfInBounds_toArray, List.set_cons_zero, List.set_cons_succ]
        with_reducible apply wpV_light
        · simp only [lightOp]
        · intro W hU hF
          have f0 := CS.out W hU
          clear hU hF
          go_simp
          exact rfl
        simp only [Act.put, List.setIfInBounds_toArray, List.set_cons_zero, List.set_cons_succ]
        with_reducible apply wpV_light
        · simp only [lightOp]
        · intro W hU hF
          have f0 := CS.out W hU
          clear hU hF
          go_simp
          exact rfl
        simp only [Act.put, List.setIfInBounds_toArray, List.set_cons_zero, List.set_cons_succ]
        with_reducible apply wpV_light
        · simp only [lightOp]
        · intro W hU hF
          have f0 := CS.out W hU
          clear hU hF
          go_simp
          exact rfl
        simp only [Act.put, List.setIfInBounds_toArray, List.set_cons_zero, List.set_cons_succ]
        with_reducible apply wpV_light
        · simp only [lightOp]
        · intro W hU hF
          have f0 := CS.out W hU
          clear hU hF
          go_simp
          exact rfl
        simp only [Act.put, List.setIfInBounds_toArray, List.set_cons_zero, List.set_cons_succ]
        with_reducible apply wpV_light
        · simp only [lightOp]
        · intro W hU hF
          have f0 := CS.out W hU
          clear hU hF
          go_simp
          exact rfl
        simp only [Act.put, List.setIfInBounds_toArray, List.set_cons_zero, List.set_cons_succ]
        refine wpV_end (fun W hU _ _ => ?_)
        have U2 : Hid (Upd [] w W) := Lib.hid (U1.out.drew.trans hU)
        clear hU
        refine wpT_end ?_
        by_cases hxy : x = y
        · have dd : (x != y) = false := by simpa using hxy
          have HS2 : Hid (sameToK L M (k + 1)) := Lib.hid (fun j hj => by
            rcases Nat.lt_or_ge j k with h1 | h1
            · exact HS.out j h1
            · obtain rfl : j = k := by omega
              rw [List.getD_eq_getElem?_getD, List.getD_eq_getElem?_getD, HX.out, HY.out, hxy])
          clear hxy
          go_wp2_with fail
          go_roundw
          case rel => exact ⟨k + 1, by go_num, by omega, HS2, U2⟩
          case measure => simp [intOf]; omega
        · have dd : (x != y) = true := by simpa using hxy
          have HZ : Hid (r = false) := Lib.hid (by
            rw [← HR.out, decide_eq_false_iff_not]
            intro e
            have h1 := HX.out
            rw [e, HY.out] at h1
            injection h1 with h1
            exact hxy h1.symm)
          clear hxy
          go_wp2_with fail
          go_ret
          exact ⟨by rw [HZ.out]; rfl, U2.out⟩
      · obtain rfl : k = n := by omega
        have HZ : Hid (r = true) := Lib.hid (by rw [← HR.out, decide_eq_true_iff]; exact sameK_all HN.out HM.out HS.out)
        go_wp2_with fail
        go_ret
        exact ⟨by rw [HZ.out]; rfl, U1.out⟩
  · have d : ((n : Int) != (m : Int)) = true := by simp; omega
    have HZ : Hid (r = false) := Lib.hid (by rw [← HR.out, decide_eq_false_iff_not]; intro e; exact hnm (by rw [← HN.out, ← HM.out, e]))
    go_wp2_with fail
    go_ret
    exact ⟨by rw [HZ.out]; rfl, .refl _ _⟩

theorem sub_srt : ∀ {m l : AL}, Srt l → Srt m → (∀ p ∈ l, p ∈ m) → l.Sublist m
  | [], l, _, _, h => by
    cases l with
    | nil => exact .slnil
    | cons p l => exact absurd (h p (by simp)) (by simp)
  | q :: m, [], _, _, _ => List.nil_sublist _
  | q :: m, p :: l, hl, hm, h => by
    by_cases e : p = q
    · subst e
      refine .cons_cons _ (sub_srt hl.tail hm.tail fun x hx => ?_)
      rcases List.mem_cons.1 (h x (by simp [hx])) with h1 | h1
      · have := hl.head x hx
        subst h1
        omega
      · exact h1
    · have hp : p ∈ m := by
        rcases List.mem_cons.1 (h p (by simp)) with h1 | h1
        · exact absurd h1 e
        · exact h1
      have hpq := hm.head p hp
      refine .cons _ (sub_srt hl hm.tail fun x hx => ?_)
      rcases List.mem_cons.1 (h x hx) with h1 | h1
      · subst h1
        rcases List.mem_cons.1 hx with h2 | h2
        · exact absurd h2.symm e
        · have := hl.head x h2
          omega
      · exact h1
theorem eq_of_in {l m : AL} (hl : Srt l) (hm : Srt m) (hlen : l.length = m.length) (h : ∀ p ∈ l, get m p.1 = some p.2) : l = m :=
  (sub_srt hl hm fun p hp => mem_of_get (h p hp)).eq_of_length hlen
/-- How many are still to come. -/
def itLeft (b r : Nat) (w : World) : Nat := match w.heap[r]?, w.heap[b]? with
  | some (.mapIter _ _ seen _), some (.map es _) => (es.toList.filter (fun e => !seen.contains e.born)).length
  | _, _ => 0
theorem IIter.left {w : World} {q : IntKind} {b r : Nat} {L rest : List IEnt} (h : IIter w q b r L rest) : itLeft b r w = rest.length := by
  obtain ⟨c, s, seen, c0, h1, h2, _, _, _, rfl⟩ := h.all
  unfold itLeft
  rw [h2, h1.blk]
  simp only
  show (List.filter (fun e => !seen.contains e.born) (L.map (ent q))).length = _
  rw [List.filter_map, List.length_map]
  rfl
set_option maxRecDepth 100000 in
set_option maxHeartbeats 4000000 in
theorem equal_maps (m1 m2 : Nat) (l1 l2 : AL) (w : World) (h1 : IMap w .i64 m1 (mapI l1) l1.length) (h2 : IMap w .i64 m2 (mapI l2) l2.length) (s1 : Srt l1) (s2 : Srt l2) :
    Calls Tryz.prog 30 #[.map (some m1), .map (some m2)] w fun e w' => e = .returned (.bool (decide (l1 = l2))) ∧ Upd [] w w' := by
  obtain ⟨n1, hn1⟩ : ∃ n, l1.length = n := ⟨_, rfl⟩
  obtain ⟨n2, hn2⟩ : ∃ n, l2.length = n := ⟨_, rfl⟩
  have ln1 : (Builtin.len_ #[77] 3 #[.map (some m1)]).run Tryz.prog w = .ok (.int .i64 n1) w := hn1 ▸ run_len_int Tryz.underlying77 h1 _
  have ln2 : (Builtin.len_ #[77] 3 #[.map (some m2)]).run Tryz.prog w = .ok (.int .i64 n2) w := hn2 ▸ run_len_int Tryz.underlying77 h2 _
  obtain ⟨r, hr⟩ : ∃ r, decide (l1 = l2) = r := ⟨_, rfl⟩
  have HR := Lib.hid hr
  have HN1 := Lib.hid hn1
  have HN2 := Lib.hid hn2
  have H2 := Lib.hid h2
  have S1 := Lib.hid s1
  have S2 := Lib.hid s2
  rw [hr]
  by_cases hnn : n1 = n2
  · have d : ((n1 : Int) != (n2 : Int)) = false := by simp [hnn]
    obtain ⟨L, w1, r1, it1, hf, hk, hL, u1, _⟩ := run_range_int (P := Tryz.prog) (mt := 77) Tryz.underlying77 h1
    have HIT := Lib.hid it1
    have HFI := Lib.hid hf
    have HKE := Lib.hid hk
    have U1 := Lib.hid u1
    have LT2 := Lib.hid h2.lt
    have HEQ := Lib.hid hnn
    clear it1 hf hk u1 h1 h2 s1 s2 hn1 hn2 hr hL hnn
    go_enter Tryz.func30, Tryz.ntmps30
    go_wp2_with fail
    clear r1 ln1 ln2
    go_loopw [5] (fun _ wr => Hid (∃ rest, IIter wr .i64 m1 w.heap.size L rest ∧ (∀ x ∈ L, x ∈ rest ∨ get l2 x.1 = get l1 x.1) ∧ Upd [] w wr)) (fun _ wr => itLeft m1 w.heap.size wr)
    case atStart => exact Lib.hid ⟨L, HIT.out, fun x hx => .inl hx, U1.out⟩
    case round =>
      obtain ⟨rest, hit, hag, hu⟩ := hrel.out
      rename World => wi
      have HAG := Lib.hid hag
      have UI := Lib.hid hu
      have HLF := Lib.hid hit.left
      clear hrel hag hu
      rcases run_next_int (P := Tryz.prog) hit 0 with ⟨h0, r2⟩ | ⟨x, rest', w2, hp, r2, it2, u2, r3⟩
      · subst h0
        have HZ : Hid (r = true) := Lib.hid (by
          rw [← HR.out, decide_eq_true_iff]
          refine eq_of_in S1.out S2.out (by rw [HN1.out, HN2.out, HEQ.out]) fun p hp => ?_
          have h3 := get_mem S1.out hp
          have h4 : (findI L p.1).isSome = true := by rw [← HFI.out, mapI_some, h3]; rfl
          obtain ⟨x, hx, e⟩ := List.mem_map.1 (findI_some.1 h4)
          rcases HAG.out x hx with h5 | h5
          · cases h5
          · have e' : x.1 = p.1 := e
            rw [← e', h5, e', h3])
        clear hit
        go_wp2_with fail
        go_ret
        exact ⟨by rw [HZ.out]; rfl, UI.out⟩
      · obtain ⟨xk, xv, xs⟩ := x
        have hxL : (xk, xv, xs) ∈ L := by
          obtain ⟨_, _, _, _, _, _, _, _, _, hrest⟩ := hit.all
          have := hp.mem_iff.1 (List.mem_cons_self (a := ((xk, xv, xs) : IEnt)))
          rw [hrest] at this
          exact (List.mem_filter.1 this).1
        have hfx := findI_mem HKE.out hxL
        rw [← HFI.out] at hfx
        obtain ⟨v, hv⟩ : ∃ v, get l1 xk = some v := by
          cases hg : get l1 xk with
          | none => unfold mapI at hfx; rw [hg] at hfx; cases hfx
          | some v => exact ⟨v, rfl⟩
        obtain rfl : xv = .int .i64 v := by unfold mapI at hfx; rw [hv] at hfx; exact (Option.some.inj hfx).symm
        have U2 : Hid (Upd [] w w2) := Lib.hid (UI.out.trans' u2 (by intro y hy; simp at hy; subst hy; exact .inr (Nat.le_refl _)))
        have IM2 := Lib.hid (H2.out.upd U2.out (by simp))
        have IT2 := Lib.hid it2
        have HP := Lib.hid hp
        have HV := Lib.hid hv
        have lk := run_lookup_int (P := Tryz.prog) (z := .int .i64 0) (mt := 77) Tryz.underlying77 Tryz.underlying3 (w := w2) (by kernel_rfl) IM2.out xk
        have HLK := Lib.hid lk
        clear hit hp it2 u2 hfx hv hxL lk
        cases hg : get l2 xk with
        | none =>
          have l0 : (Instr.lookup 77 (.map (some m2)) (.int .i64 xk) true).run Tryz.prog w2 = .ok (.tuple #[.int .i64 0, .bool false]) w2 := by
            have h5 := HLK.out
            unfold mapI at h5
            rw [hg] at h5
            exact h5
          have HZ : Hid (r = false) := Lib.hid (by rw [← HR.out, decide_eq_false_iff_not]; intro e; rw [← e, HV.out] at hg; cases hg)
          clear hg
          go_wp2_with fail
          go_ret
          exact ⟨by rw [HZ.out]; rfl, U2.out⟩
        | some v2 =>
          have l0 : (Instr.lookup 77 (.map (some m2)) (.int .i64 xk) true).run Tryz.prog w2 = .ok (.tuple #[.int .i64 v2, .bool true]) w2 := by
            have h5 := HLK.out
            unfold mapI at h5
            rw [hg] at h5
            exact h5
          by_cases hvv : v = v2
          · have dd : (v != v2) = false := by simpa using hvv
            have HAG2 : Hid (∀ x ∈ L, x ∈ rest' ∨ get l2 x.1 = get l1 x.1) := Lib.hid (fun x hx => by
              rcases HAG.out x hx with h5 | h5
              · rcases List.mem_cons.1 (HP.out.mem_iff.2 h5) with h6 | h6
                · subst h6
                  exact .inr (by show get l2 xk = get l1 xk; rw [hg, HV.out, hvv])
                · exact .inl h6
              · exact .inr h5)
            have HM : Hid (itLeft m1 w.heap.size w2 < itLeft m1 w.heap.size wi) := Lib.hid (by
              rw [IT2.out.left, HLF.out, ← HP.out.length_eq]
              simp)
            clear hvv hg
            go_wp2_with fail
            go_roundw
            case rel => exact Lib.hid ⟨rest', IT2.out, HAG2.out, U2.out⟩
            case measure => exact HM.out
          · have dd : (v != v2) = true := by simpa using hvv
            have HZ : Hid (r = false) := Lib.hid (by
              rw [← HR.out, decide_eq_false_iff_not]
              intro e
              rw [← e, HV.out] at hg
              injection hg with hg
              exact hvv hg)
            clear hvv hg
            go_wp2_with fail
            go_ret
            exact ⟨by rw [HZ.out]; rfl, U2.out⟩
  · have d : ((n1 : Int) != (n2 : Int)) = true := by simp; omega
    have HZ : Hid (r = false) := Lib.hid (by rw [← HR.out, decide_eq_false_iff_not]; intro e; exact hnn (by rw [← HN1.out, ← HN2.out, e]))
    clear h1 h2 s1 s2 hn1 hn2 hr hnn
    go_enter Tryz.func30, Tryz.ntmps30
    go_wp2_with fail
    go_ret
    exact ⟨by rw [HZ.out]; rfl, .refl _ _⟩
end Go.Proofs.YtfbeaklplefojaaGreatDoor

namespace Go.Proofs.YtfbeaklplefojaaGreatDoor
open Go.RowKit Assoc MP
attribute [local go_sem] litStep_value

def sameUpTo (s t : MS) (k : Nat) : Prop := ∀ j, j < k → coll s j = coll t j
theorem ms_eq {s t : MS} (h1 : s.K = t.K) {n : Nat} (hs : s.L.length = n) (ht : t.L.length = n) (h : sameUpTo s t n) : s = t := by
  cases s with
  | mk K L =>
    cases t with
    | mk K' L' =>
      simp only at h1 hs ht
      subst h1
      congr 1
      apply List.ext_getElem (by rw [hs, ht])
      intro i h2 h3
      have := h i (by omega)
      unfold coll at this
      simpa [List.getD_eq_getElem?_getD, h2, h3] using this
def SamePost (s t : MS) (w : World) (e : Ending) (w' : World) : Prop := ∃ b, e = .returned (.bool b) ∧ (b = true ↔ s = t) ∧ Upd [] w w'
set_option maxRecDepth 100000 in
set_option maxHeartbeats 4000000 in
theorem m_same (B B' sb tb : Nat) (F F' : List Nat) (s t : MS) (w : World) (h : Mdl B sb F w s) (h' : Mdl B' tb F' w t) :
    Calls Tryz.prog 12 #[.pointer (some ⟨sb, 0, none⟩), .pointer (some ⟨tb, 0, none⟩)] w fun e w' => SamePost s t w e w' := by
  obtain ⟨g, vk, gc, cc, ms, hF, hs⟩ := h
  obtain ⟨g', vk', gc', cc', ms', hF', ht⟩ := h'
  have HS := Lib.hid hs
  have HT := Lib.hid ht
  have HG := Lib.hid g
  have HG' := Lib.hid g'
  have K8 := Lib.hid (And.intro g.k8 g'.k8)
  obtain ⟨Ak, ck, rfl, _, _⟩ := own_slice hs.k
  obtain ⟨Ak', ck', rfl, _, _⟩ := own_slice ht.k
  obtain ⟨n, hn⟩ : ∃ n, s.L.length = n := ⟨_, rfl⟩
  obtain ⟨n', hn'⟩ : ∃ n, t.L.length = n := ⟨_, rfl⟩
  have HN := Lib.hid hn
  have HN' := Lib.hid hn'
  have hn8 : n ≤ 8 := by rw [← hn, ← g.kl]; exact g.k8
  have HB : Hid (Blk w sb 75 #[.slice Ak s.K.length ck, .slice (some ⟨gc, 0, none⟩) n cc]) := Lib.hid (by rw [← hn]; exact hs.box)
  have HB' : Hid (Blk w tb 75 #[.slice Ak' t.K.length ck', .slice (some ⟨gc', 0, none⟩) n' cc']) := Lib.hid (by rw [← hn']; exact ht.box)
  have OC : Hid (w.ownsRow B 77 1 (.slice (some ⟨gc, 0, none⟩) n cc) n (mapsV ms)) := Lib.hid (by rw [← hn]; exact hs.c)
  have OC' : Hid (w.ownsRow B' 77 1 (.slice (some ⟨gc', 0, none⟩) n' cc') n' (mapsV ms')) := Lib.hid (by rw [← hn']; exact ht.c)
  clear g g' hs ht hF hF' hn hn'
  go_enter Tryz.func12, Tryz.ntmps12
  go_wp2_with fail
  have CS : Hid (∀ W, Upd [] w.drew W → W.cell? ⟨sb, 0, none⟩ = some (.slice Ak s.K.length ck) ∧ W.cell? ⟨tb, 0, none⟩ = some (.slice Ak' t.K.length ck')) := Lib.hid (fun W hW => by
    have hu := (Upd.refl [] w).drew.trans hW
    exact ⟨(HB.out.upd hu (by simp)).cell 0, (HB'.out.upd hu (by simp)).cell 0⟩)
  refine wp_invN [(8, .det (.bool (decide (s.K = t.K))))] [] (by kernel_rfl) (by kernel_rfl) (by kernel_rfl) ⟨lasts_det _, trivial⟩ ?_
  with_reducible apply wpV_light
  · simp only [lightOp]
  · intro W hU hF
    have f0 := CS.out W hU
    clear hU hF
    go_simp
    exact rfl
  simp only [Act.put, List.setIfInBounds_toArray, List.set_cons_zero, List.set_cons_succ]
  with_reducible apply wpV_light
  · simp only [lightOp]
  · intro W hU hF
    have f0 := CS.out W hU
    clear hU hF
    go_simp
    exact rfl
  simp only [Act.put, List.setIfInBounds_toArray, List.set_cons_zero, List.set_cons_succ]
  with_reducible apply wpV_light
  · simp only [lightOp]
  · intro W hU hF
    have f0 := CS.out W hU
    clear hU hF
    go_simp
    exact rfl
  simp only [Act.put, List.setIfInBounds_toArray, List.set_cons_zero, List.set_cons_succ]
  with_reducible apply wpV_light
  · simp only [lightOp]
  · intro W hU hF
    have f0 := CS.out W hU
    clear hU hF
    go_simp
    exact rfl
  simp only [Act.put, List.setIfInBounds_toArray, List.set_cons_zero, List.set_cons_succ]
  with_reducible apply wpV_light
  · simp only [lightOp]
  · intro W hU hF
    have f0 := CS.out W hU
    clear hU hF
    go_simp
    exact rfl
  simp only [Act.put, List.setIfInBounds_toArray, List.set_cons_zero, List.set_cons_succ]
  with_reducible apply wpV_light
  · simp only [lightOp]
  · intro W hU hF
    have f0 := CS.out W hU
    clear hU hF
    go_simp
    exact rfl
  simp only [Act.put, List.setIfInBounds_toArray, List.set_cons_zero, List.set_cons_succ]
  with_reducible apply wpV_light
  · simp only [lightOp]
  · intro W hU hF
    have f0 := CS.out W hU
    clear hU hF
    go_simp
    exact rfl
  simp only [Act.put, List.setIfInBounds_toArray, List.set_cons_zero, List.set_cons_succ]
  with_reducible apply wpV_light
  · simp only [lightOp]
  · intro W hU hF
    have f0 := CS.out W hU
    clear hU hF
    go_simp
    exact rfl
  simp only [Act.put, List.setIfInBounds_toArray, List.set_cons_zero, List.set_cons_succ]
  refine wpV_heavy (by simp only [lightOp]) (by rfl) (fun W hU hk hF K hK => ?_) ?_
  · go_wp2_with fail
    refine (equal_ints B B' s.K t.K _ _ _ (HS.out.k.upd0 ((Upd.refl [] w).drew.trans hU)) (HT.out.k.upd0 ((Upd.refl [] w).drew.trans hU)) (by have := K8.out.1; omega) (by have := K8.out.2; omega)).mono ?_; rintro e w2 ⟨rfl, u2⟩
    go_wp2_with fail
    exact hK.out _ _ (outV_new rfl rfl (by intro b hb; cases hb) u2)
  rintro _ rfl
  simp only [Act.put, List.setIfInBounds_toArray, List.set_cons_zero, List.set_cons_succ]
  with_reducible apply wpV_light
  · simp only [lightOp]
  · intro W hU hF
    have f0 := CS.out W hU
    clear hU hF
    go_simp
    exact rfl
  simp only [Act.put, List.setIfInBounds_toArray, List.set_cons_zero, List.set_cons_succ]
  refine wpV_end (fun W hU _ _ => ?_)
  have U1 : Hid (Upd [] w W) := Lib.hid ((Upd.refl [] w).drew.trans hU)
  clear hU
  refine wpT_end ?_
  by_cases hkk : s.K = t.K
  · have HKK := Lib.hid hkk
    have hnn : n' = n := by rw [← HN'.out, ← HN.out, ← HG'.out.kl, ← HG.out.kl, hkk]
    subst hnn
    rw [decide_eq_true hkk]
    have c1 : W.cell? ⟨sb, 1, none⟩ = some (.slice (some ⟨gc, 0, none⟩) n' cc) := (HB.out.upd U1.out (by simp)).cell 1
    clear hkk
    go_wp2_with fail
    clear c1
    go_loopw [33] (fun v wr => ∃ k : Nat, v = .int .i64 k ∧ k ≤ n' ∧ Hid (sameUpTo s t k) ∧ Hid (Upd [] w wr)) (fun v _ => n' - (intOf v).toNat)
    case atStart => exact ⟨0, rfl, by omega, Lib.hid (fun j hj => by omega), U1⟩
    case round =>
      obtain ⟨k, rfl, hk, HSU, UI⟩ := hrel
      by_cases hkn : k < n'
      · obtain ⟨m, hm, him⟩ := HS.out.at_ (i := k) (by rw [HN.out]; exact hkn)
        obtain ⟨m', hm', him'⟩ := HT.out.at_ (i := k) (by rw [HN'.out]; exact hkn)
        have HM := Lib.hid him
        have HM' := Lib.hid him'
        have x0 : w.cell? ⟨gc, k, none⟩ = some (.map (some m)) := own_cell OC.out k _ (by unfold mapsV; rw [List.getElem?_map, hm]; rfl)
        have x0' : w.cell? ⟨gc', k, none⟩ = some (.map (some m')) := own_cell OC'.out k _ (by unfold mapsV; rw [List.getElem?_map, hm']; rfl)
        have CL : Hid (∀ V, Upd [] wr.drew V → V.cell? ⟨sb, 1, none⟩ = some (.slice (some ⟨gc, 0, none⟩) n' cc) ∧ V.cell? ⟨tb, 1, none⟩ = some (.slice (some ⟨gc', 0, none⟩) n' cc') ∧ V.cell? ⟨gc, k, none⟩ = some (.map (some m)) ∧ V.cell? ⟨gc', k, none⟩ = some (.map (some m'))) := Lib.hid (fun V hV => by
          have hu := UI.out.drew.trans hV
          exact ⟨(HB.out.upd hu (by simp)).cell 1, (HB'.out.upd hu (by simp)).cell 1, own_cell (own_upd0 OC.out hu) k _ (by unfold mapsV; rw [List.getElem?_map, hm]; rfl), own_cell (own_upd0 OC'.out hu) k _ (by unfold mapsV; rw [List.getElem?_map, hm']; rfl)⟩)
        have SR := Lib.hid (HG.out.srt _ (coll_mem (s := s) (i := k) (by rw [HN.out]; exact hkn)))
        have SR' := Lib.hid (HG'.out.srt _ (coll_mem (s := t) (i := k) (by rw [HN'.out]; exact hkn)))
        have q1 : (0 : Int) ≤ (k : Int) := by omega
        have q2 : (k : Int) < (n' : Int) := by omega
        clear hm hm' him him' x0 x0'
        go_wp2_with fail
        refine wp_invN [(14, .det (.bool (decide (coll s k = coll t k))))] [] (by kernel_rfl) (by kernel_rfl) (by kernel_rfl) ⟨lasts_det _, trivial⟩ ?_
        with_reducible apply wpV_light
        · simp only [lightOp]
        · intro W hU hF
          have f0 := CL.out W hU
          clear hU hF
          go_simp
          exact rfl
        simp only [Act.put, List.setIfInBounds_toArray, List.set_cons_zero, List.set_cons_succ]
        with_reducible apply wpV_light
        · simp only [lightOp]
        · intro W hU hF
          have f0 := CL.out W hU
          clear hU hF
          go_simp
          exact rfl
        simp only [Act.put, List.setIfInBounds_toArray, List.set_cons_zero, List.set_cons_succ]
        with_reducible apply wpV_light
        · simp only [lightOp]
        · intro W hU hF
          have f0 := CL.out W hU
          clear hU hF
          go_simp
          exact rfl
        simp only [Act.put, List.setIfInBounds_toArray, List.set_cons_zero, List.set_cons_succ]
        with_reducible apply wpV_light
        · simp only [lightOp]
        · intro W hU hF
          have f0 := CL.out W hU
          clear hU hF
          go_simp
          exact rfl
        simp only [Act.put, List.setIfInBounds_toArray, List.set_cons_zero, List.set_cons_succ]
        with_reducible apply wpV_light
        · simp only [lightOp]
        · intro W hU hF
          have f0 := CL.out W hU
          clear hU hF
          go_simp
          exact rfl
        simp only [Act.put, List.setIfInBounds_toArray, List.set_cons_zero, List.set_cons_succ]
        with_reducible apply wpV_light
        · simp only [lightOp]
        · intro W hU hF
          have f0 := CL.out W hU
          clear hU hF
          go_simp
          exact rfl
        simp only [Act.put, List.setIfInBounds_toArray, List.set_cons_zero, List.set_cons_succ]
        with_reducible apply wpV_light
        · simp only [lightOp]
        · intro W hU hF
          have f0 := CL.out W hU
          clear hU hF
          go_simp
          exact rfl
        simp only [Act.put, List.setIfInBounds_toArray, List.set_cons_zero, List.set_cons_succ]
        with_reducible apply wpV_light
        · simp only [lightOp]
        · intro W hU hF
          have f0 := CL.out W hU
          clear hU hF
          go_simp
          exact rfl
        simp only [Act.put, List.setIfInBounds_toArray, List.set_cons_zero, List.set_cons_succ]
        with_reducible apply wpV_light
        · simp only [lightOp]
        · intro W hU hF
          have f0 := CL.out W hU
          clear hU hF
          go_simp
          exact rfl
        simp only [Act.put, List.setIfInBounds_toArray, List.set_cons_zero, List.set_cons_succ]
        with_reducible apply wpV_light
        · simp only [lightOp]
        · intro W hU hF
          have f0 := CL.out W hU
          clear hU hF
          go_simp
          exact rfl
        simp only [Act.put, List.setIfInBounds_toArray, List.set_cons_zero, List.set_cons_succ]
        with_reducible apply wpV_light
        · simp only [lightOp]
        · intro W hU hF
          have f0 := CL.out W hU
          clear hU hF
          go_simp
          exact rfl
        simp only [Act.put, List.setIfInBounds_toArray, List.set_cons_zero, List.set_cons_succ]
        with_reducible apply wpV_light
        · simp only [lightOp]
        · intro W hU hF
          have f0 := CL.out W hU
          clear hU hF
          go_simp
          exact rfl
        simp only [Act.put, List.setIfInBounds_toArray, List.set_cons_zero, List.set_cons_succ]
        with_reducible apply wpV_light
        · simp only [lightOp]
        · intro W hU hF
          have f0 := CL.out W hU
          clear hU hF
          go_simp
          exact rfl
        simp only [Act.put, List.setIfInBounds_toArray, List.set_cons_zero, List.set_cons_succ]
        with_reducible apply wpV_light
        · simp only [lightOp]
        · intro W hU hF
          have f0 := CL.out W hU
          clear hU hF
          go_simp
          exact rfl
        simp only [Act.put, List.setIfInBounds_toArray, List.set_cons_zero, List.set_cons_succ]
        refine wpV_heavy (by simp only [lightOp]) (by rfl) (fun W hU hk hF K hK => ?_) ?_
        · go_wp2_with fail
          have hu := UI.out.trans ((Upd.refl [] wr).drew.trans hU)
          refine (equal_maps m m' (coll s k) (coll t k) _ (HM.out.upd hu (by simp)) (HM'.out.upd hu (by simp)) SR.out SR'.out).mono ?_; rintro e w2 ⟨rfl, u2⟩
          go_wp2_with fail
          exact hK.out _ _ (outV_new rfl rfl (by intro b hb; cases hb) u2)
        rintro _ rfl
        simp only [Act.put, List.setIfInBounds_toArray, List.set_cons_zero, List.set_cons_succ]
        with_reducible apply wpV_light
        · simp only [lightOp]
        · intro W hU hF
          have f0 := CL.out W hU
          clear hU hF
          go_simp
          exact rfl
        simp only [Act.put, List.setIfInBounds_toArray, List.set_cons_zero, List.set_cons_succ]
        refine wpV_end (fun V hU _ _ => ?_)
        have U2 : Hid (Upd [] w V) := Lib.hid (UI.out.trans ((Upd.refl [] wr).drew.trans hU))
        clear hU
        refine wpT_end ?_
        by_cases hcc : coll s k = coll t k
        · rw [decide_eq_true hcc]
          have HS2 : Hid (sameUpTo s t (k + 1)) := Lib.hid (fun j hj => by
            rcases Nat.lt_or_ge j k with h1 | h1
            · exact HSU.out j h1
            · obtain rfl : j = k := by omega
              exact hcc)
          clear hcc
          go_wp2_with fail
          go_roundw
          case rel => exact ⟨k + 1, by go_num, by omega, HS2, U2⟩
          case measure => simp [intOf]; omega
        · rw [decide_eq_false hcc]
          have HZ : Hid (¬ s = t) := Lib.hid (fun e => hcc (by rw [e]))
          clear hcc
          go_wp2_with fail
          go_ret
          unfold SamePost
          exact ⟨_, rfl, ⟨fun h => (by cases h), fun h => absurd h HZ.out⟩, U2.out⟩
      · obtain rfl : k = n' := by omega
        go_wp2_with fail
        go_ret
        unfold SamePost
        exact ⟨_, rfl, ⟨fun _ => ms_eq HKK.out HN.out HN'.out HSU.out, fun _ => rfl⟩, UI.out⟩
  · rw [decide_eq_false hkk]
    have HZ : Hid (¬ s = t) := Lib.hid (fun e => hkk (by rw [e]))
    clear hkk
    go_wp2_with fail
    go_ret
    unfold SamePost
    exact ⟨_, rfl, ⟨fun h => (by cases h), fun h => absurd h HZ.out⟩, U1.out⟩
end Go.Proofs.YtfbeaklplefojaaGreatDoor

namespace Go.Proofs.YtfbeaklplefojaaGreatDoor
open Go.RowKit Go.Extern.Stop Go.Stop Go.Extern

/-- What errors.As reads of the library's variable. -/
def Typed (w : World) : Prop := w.cell? ⟨0, 0, none⟩ = some (.iface 146 (.agg #[.pointer (some ⟨1, 34, none⟩)])) ∧ 0 < w.heap.size
theorem Typed.upd {S : List Nat} {w w' : World} (h : Typed w) (hu : Upd S w w') (hS : 0 ∉ S) : Typed w' := ⟨(World.cell?_of_block (hu.keep _ h.2 hS)).trans h.1, Nat.lt_of_lt_of_le h.2 hu.size⟩

theorem valueOfPP (t : Addr) (w : World) : (ReflectliteValue.unpack (.iface 156 (.pointer (some t)))).run Tryz.prog w
    = .ok (.agg #[.pointer (some ⟨1, 156, none⟩), .pointer (some ⟨w.heap.size, 0, none⟩), .int .u64 150]) (w.alloc (.cells #[.pointer (some t)] 156)) := by kernel_rfl
theorem typePP (a : Addr) (w : World) : (ReflectliteValue.methodAny (ReflectliteValue.valueError "reflectlite.Value.Type" 0) (fun t _ _ _ => ReflectliteType.toType t) #[.agg #[.pointer (some ⟨1, 156, none⟩), .pointer (some a), .int .u64 150]]).run Tryz.prog w
    = .ok (.iface 146 (.agg #[.pointer (some ⟨1, 156, none⟩)])) w := by kernel_rfl
def kindEntry : Array Value → Sem Value := ReflectliteType.abiMethod fun t => do pure (.int .u8 (← Rtype.kind t))
theorem kindPP (w : World) : (kindEntry #[.pointer (some ⟨1, 156, none⟩)]).run Tryz.prog w = .ok (.int .u8 22) w := by kernel_rfl
theorem kindP (w : World) : (kindEntry #[.pointer (some ⟨1, 96, none⟩)]).run Tryz.prog w = .ok (.int .u8 22) w := by kernel_rfl
theorem rlm (z : Sem Value) (f : TypeId → Addr → Nat → Nat → Sem Value) (v : Value) :
    ReflectliteValue.method z f #[v] = (do match ← ReflectliteValue.parts v with | none => z | some (t, a, fl) => f t a fl (fl % 32)) := rfl
theorem partsPP (a : Addr) (w : World) : (ReflectliteValue.parts (.agg #[.pointer (some ⟨1, 156, none⟩), .pointer (some a), .int .u64 150])).run Tryz.prog w = .ok (some (156, a, 150)) w := by kernel_rfl
theorem isNilPP (a p : Addr) (W : World) (ha : W.cell? a = some (.pointer (some p))) :
    (ReflectliteValue.method (ReflectliteValue.valueError "reflectlite.Value.IsNil" 0) ReflectliteValue.isNil #[.agg #[.pointer (some ⟨1, 156, none⟩), .pointer (some a), .int .u64 150]]).run Tryz.prog W = .ok (.bool false) W := by
  rw [rlm]
  simp only [Sem.run_bind, partsPP, Result.andThen]
  simp [ReflectliteValue.isNil, loadVar, isAgg, underlying, Tryz.underlying156, ha, Result.andThen]
theorem elemPP (w : World) : (ReflectliteType.method ReflectliteType.elem #[.agg #[.pointer (some ⟨1, 156, none⟩)]]).run Tryz.prog w = .ok (.iface 146 (.agg #[.pointer (some ⟨1, 96, none⟩)])) w := by kernel_rfl
theorem implementsP (w : World) : (ReflectliteType.relation "Implements" ReflectliteType.implements_ #[.agg #[.pointer (some ⟨1, 96, none⟩)], .iface 146 (.agg #[.pointer (some ⟨1, 34, none⟩)])]).run Tryz.prog w = .ok (.bool true) w := by kernel_rfl
theorem typeOfP (v : Value) (w : World) : (ReflectliteType.typeOf #[.iface 96 v]).run Tryz.prog w = .ok (.iface 146 (.agg #[.pointer (some ⟨1, 96, none⟩)])) w := by kernel_rfl
theorem assignableP (w : World) : (ReflectliteType.relation "AssignableTo" ReflectliteType.assignableTo #[.agg #[.pointer (some ⟨1, 96, none⟩)], .iface 146 (.agg #[.pointer (some ⟨1, 96, none⟩)])]).run Tryz.prog w = .ok (.bool true) w := by kernel_rfl
theorem assignableE (w : World) : (ReflectliteType.relation "AssignableTo" ReflectliteType.assignableTo #[.agg #[.pointer (some ⟨1, 63, none⟩)], .iface 146 (.agg #[.pointer (some ⟨1, 96, none⟩)])]).run Tryz.prog w = .ok (.bool false) w := by kernel_rfl
theorem valueOfP (e : Addr) (w : World) : (ReflectliteValue.unpack (.iface 96 (.pointer (some e)))).run Tryz.prog w
    = .ok (.agg #[.pointer (some ⟨1, 96, none⟩), .pointer (some ⟨w.heap.size, 0, none⟩), .int .u64 150]) (w.alloc (.cells #[.pointer (some e)] 96)) := by kernel_rfl
theorem elemOfPP (w : World) : (Rtype.elem? 156).run Tryz.prog w = .ok (some 96) w := by kernel_rfl
theorem mkP (p : Addr) (w : World) : (ReflectliteValue.mk 96 p ReflectliteValue.flagAddr).run Tryz.prog w = .ok (.agg #[.pointer (some ⟨1, 96, none⟩), .pointer (some p), .int .u64 406]) w := by kernel_rfl
theorem elemVPP (a p : Addr) (W : World) (ha : W.cell? a = some (.pointer (some p))) :
    (ReflectliteValue.method (ReflectliteValue.valueError "reflectlite.Value.Elem" 0) ReflectliteValue.elem #[.agg #[.pointer (some ⟨1, 156, none⟩), .pointer (some a), .int .u64 150]]).run Tryz.prog W
      = .ok (.agg #[.pointer (some ⟨1, 96, none⟩), .pointer (some p), .int .u64 406]) W := by
  rw [rlm]
  simp only [Sem.run_bind, partsPP, Result.andThen]
  simp [ReflectliteValue.elem, loadVar, isAgg, underlying, Tryz.underlying156, ha, Result.andThen, elemOfPP, mkP]
theorem rls (v x : Value) : ReflectliteValue.set #[v, x] = (do
    let (some (dst, a, fl), some (src, b, _)) := (← ReflectliteValue.parts v, ← ReflectliteValue.parts x)
      | unsupported (.noEntry "extern/(internal/reflectlite.Value).Set.zeroValue")
    if fl / ReflectliteValue.flagAddr % 2 == 0 then unsupported (.noEntry "extern/(internal/reflectlite.Value).Set.unaddressable")
    let val ← loadVar src b
    if ← Rtype.directlyAssignable dst src then storeVar dst a val
    else if ← Rtype.implements dst src then
      if (← Rtype.kind src) == 20 then
        match val with
        | .nilIface => unsupported (.noEntry "extern/reflectlite: a nil value of one interface type handed on as a value of another")
        | _ => storeVar dst a val
      else storeVar dst a (.iface src val)
    else panicString ("reflectlite.Set: value of type " ++ (← Rtype.spelt src) ++ " is not assignable to type " ++ (← Rtype.spelt dst))
    pure (.tuple #[])) := rfl
theorem partsPa (a : Addr) (w : World) : (ReflectliteValue.parts (.agg #[.pointer (some ⟨1, 96, none⟩), .pointer (some a), .int .u64 406])).run Tryz.prog w = .ok (some (96, a, 406)) w := by kernel_rfl
theorem partsP (a : Addr) (w : World) : (ReflectliteValue.parts (.agg #[.pointer (some ⟨1, 96, none⟩), .pointer (some a), .int .u64 150])).run Tryz.prog w = .ok (some (96, a, 150)) w := by kernel_rfl
theorem directP (w : World) : (Rtype.directlyAssignable 96 96).run Tryz.prog w = .ok true w := by kernel_rfl
theorem setP (ta b e : Addr) (old : Value) (W : World) (hb : W.cell? b = some (.pointer (some e))) (ht : W.cell? ta = some old) (hf : W.frozen? ta = false) :
    (ReflectliteValue.set #[.agg #[.pointer (some ⟨1, 96, none⟩), .pointer (some ta), .int .u64 406], .agg #[.pointer (some ⟨1, 96, none⟩), .pointer (some b), .int .u64 150]]).run Tryz.prog W
      = .ok (.tuple #[]) (W.setCell ta (.pointer (some e))) := by
  rw [rls]
  simp only [Sem.run_bind, partsPa, partsP, Result.andThen]
  simp [ReflectliteValue.flagAddr, loadVar, isAgg, underlying, Tryz.underlying96, hb, Result.andThen, directP, storeVar, Value.cells, storeCells, Addr.add]
  rw [run_store Tryz.prog W ta _ _ (by rfl)]
  simp [ht, hf]

theorem as_nil (t : Value) (w : World) : Calls Tryz.prog 46 #[.nilIface, t] w fun e w' => e = .returned (.bool false) ∧ w = w' := by
  go_enter Tryz.func46, Tryz.ntmps46
  go_wp2_with fail
  go_ret
  exact ⟨rfl, rfl⟩

theorem errnoTypeOf' (v : Value) (w : World) : (ReflectliteType.typeOf #[.iface 63 v]).run Tryz.prog w = .ok (.iface 146 (.agg #[.pointer (some ⟨1, 63, none⟩)])) w := by kernel_rfl
theorem errnoNoAs (v : Value) (xT : TypeId) (w : World) : (Instr.typeAssert (.iface 63 v) xT 168 true).run Tryz.prog w = .ok (.tuple #[.nilIface, .bool false]) w := run_typeAssert_lacksB Tryz.underlying168 (by kernel_rfl) (by kernel_rfl) v xT w

/-- The blocks that errors.As makes for its own. -/
def asWorld (w : World) (t : Nat) : World := ((w.alloc (.cells #[.pointer (some ⟨t, 0, none⟩)] 156)).alloc (.cells #[.pointer (some ⟨1, 156, none⟩), .pointer (some ⟨w.heap.size, 0, none⟩), .int .u64 150] 138)).alloc (.cells #[.pointer (some ⟨1, 156, none⟩), .pointer (some ⟨w.heap.size, 0, none⟩), .int .u64 150] 138)

set_option maxHeartbeats 4000000 in
/-- errors.As at a place's variable: t is its block. -/
theorem as_fault (g t : Nat) (w : World) (hg : Typed w) (ht0 : Blk w t 96 #[.pointer none]) :
    Calls Tryz.prog 46 #[.iface 96 (.pointer (some ⟨g, 0, none⟩)), .iface 156 (.pointer (some ⟨t, 0, none⟩))] w fun ev w' => ev = .returned (.bool true) ∧ w' = ((asWorld w t).alloc (.cells #[.pointer (some ⟨g, 0, none⟩)] 96)).setCell ⟨t, 0, none⟩ (.pointer (some ⟨g, 0, none⟩)) := by
  have h6 := @run_callFunc_extern Tryz.prog 72 _ (fun args => ReflectliteValue.unpack (args.getD 0 (.tuple #[]))) Tryz.func72 (by kernel_rfl) (by kernel_rfl) (by kernel_rfl) (by kernel_rfl)
  have h7 := @run_callFunc_extern Tryz.prog 73 _ (ReflectliteValue.methodAny (ReflectliteValue.valueError "reflectlite.Value.Type" 0) (fun t _ _ _ => ReflectliteType.toType t)) Tryz.func73 (by kernel_rfl) (by kernel_rfl) (by kernel_rfl) (by kernel_rfl)
  have h8 := @run_callFunc_extern Tryz.prog 74 _ (ReflectliteValue.method (ReflectliteValue.valueError "reflectlite.Value.IsNil" 0) ReflectliteValue.isNil) Tryz.func74 (by kernel_rfl) (by kernel_rfl) (by kernel_rfl) (by kernel_rfl)
  have h27 := @run_callFunc_extern Tryz.prog 119 _ kindEntry Tryz.func119 (by kernel_rfl) (by kernel_rfl) (by kernel_rfl) (by kernel_rfl)
  have h37 := @run_callFunc_extern Tryz.prog 133 _ (ReflectliteType.method ReflectliteType.elem) Tryz.func133 (by kernel_rfl) (by kernel_rfl) (by kernel_rfl) (by kernel_rfl)
  have h38 := @run_callFunc_extern Tryz.prog 134 _ (ReflectliteType.relation "Implements" ReflectliteType.implements_) Tryz.func134 (by kernel_rfl) (by kernel_rfl) (by kernel_rfl) (by kernel_rfl)
  have h10 := @run_callFunc_extern Tryz.prog 47 _ ReflectliteType.typeOf Tryz.func47 (by kernel_rfl) (by kernel_rfl) (by kernel_rfl) (by kernel_rfl)
  have h35 := @run_callFunc_extern Tryz.prog 131 _ (ReflectliteType.relation "AssignableTo" ReflectliteType.assignableTo) Tryz.func131 (by kernel_rfl) (by kernel_rfl) (by kernel_rfl) (by kernel_rfl)
  have h11 := @run_callFunc_extern Tryz.prog 84 _ (ReflectliteValue.method (ReflectliteValue.valueError "reflectlite.Value.Elem" 0) ReflectliteValue.elem) Tryz.func84 (by kernel_rfl) (by kernel_rfl) (by kernel_rfl) (by kernel_rfl)
  have h12 := @run_callFunc_extern Tryz.prog 85 _ ReflectliteValue.set Tryz.func85 (by kernel_rfl) (by kernel_rfl) (by kernel_rfl) (by kernel_rfl)
  have tO := typeOfP
  have a25 := assignableP
  have v25 := valueOfP
  have f6 := valueOfPP
  have f7 := typePP
  have k27 := kindPP
  have k25 := kindP
  have e27 := elemPP
  have i25 := implementsP
  have b0 : Blk ((w.alloc (.cells #[.pointer (some ⟨t, 0, none⟩)] 156)).alloc (.cells #[.pointer (some ⟨1, 156, none⟩), .pointer (some ⟨w.heap.size, 0, none⟩), .int .u64 150] 138)) w.heap.size 156 #[.pointer (some ⟨t, 0, none⟩)] := (Blk.new w _ _).alloc _
  have n8 := isNilPP ⟨w.heap.size, 0, none⟩ ⟨t, 0, none⟩ _ (by rw [b0.cell]; rfl)
  have hg2 := ((hg.upd ((Upd.refl [] w).alloc (.cells #[.pointer (some ⟨t, 0, none⟩)] 156)) (by simp)).upd ((Upd.refl [] _).alloc (.cells #[.pointer (some ⟨1, 156, none⟩), .pointer (some ⟨w.heap.size, 0, none⟩), .int .u64 150] 138)) (by simp)).1
  have b1 : Blk (asWorld w t) w.heap.size 156 #[.pointer (some ⟨t, 0, none⟩)] := b0.alloc _
  have el := elemVPP ⟨w.heap.size, 0, none⟩ ⟨t, 0, none⟩ (asWorld w t) (by rw [b1.cell]; rfl)
  have hT : Blk ((asWorld w t).alloc (.cells #[.pointer (some ⟨g, 0, none⟩)] 96)) t 96 #[.pointer none] := (((ht0.alloc _).alloc _).alloc _).alloc _
  have st := setP ⟨t, 0, none⟩ ⟨w.heap.size + 1 + 1 + 1, 0, none⟩ ⟨g, 0, none⟩ (.pointer none) ((asWorld w t).alloc (.cells #[.pointer (some ⟨g, 0, none⟩)] 96))
    (by have := (Blk.new (asWorld w t) 96 #[.pointer (some ⟨g, 0, none⟩)]).cell 0; simpa [asWorld] using this) (by rw [hT.cell]; rfl) (hT.frozen 0)
  simp only [asWorld] at el st ⊢
  clear hT b0 b1 ht0 hg
  go_enter Tryz.func46, Tryz.ntmps46
  go_wp2
  refine wp_loop_rounds 1 ?_
  rw [rounds_succ]
  go_wp2
  go_ret
  exact ⟨rfl, rfl⟩

set_option maxHeartbeats 4000000 in
/-- errors.As at a bare number: no. -/
theorem as_errno (k : Int) (t : Nat) (w : World) (hg : Typed w) :
    Calls Tryz.prog 46 #[.iface 63 (.int .i64 k), .iface 156 (.pointer (some ⟨t, 0, none⟩))] w fun ev w' => ev = .returned (.bool false) ∧ w' = asWorld w t := by
  have h6 := @run_callFunc_extern Tryz.prog 72 _ (fun args => ReflectliteValue.unpack (args.getD 0 (.tuple #[]))) Tryz.func72 (by kernel_rfl) (by kernel_rfl) (by kernel_rfl) (by kernel_rfl)
  have h7 := @run_callFunc_extern Tryz.prog 73 _ (ReflectliteValue.methodAny (ReflectliteValue.valueError "reflectlite.Value.Type" 0) (fun t _ _ _ => ReflectliteType.toType t)) Tryz.func73 (by kernel_rfl) (by kernel_rfl) (by kernel_rfl) (by kernel_rfl)
  have h8 := @run_callFunc_extern Tryz.prog 74 _ (ReflectliteValue.method (ReflectliteValue.valueError "reflectlite.Value.IsNil" 0) ReflectliteValue.isNil) Tryz.func74 (by kernel_rfl) (by kernel_rfl) (by kernel_rfl) (by kernel_rfl)
  have h27 := @run_callFunc_extern Tryz.prog 119 _ kindEntry Tryz.func119 (by kernel_rfl) (by kernel_rfl) (by kernel_rfl) (by kernel_rfl)
  have h37 := @run_callFunc_extern Tryz.prog 133 _ (ReflectliteType.method ReflectliteType.elem) Tryz.func133 (by kernel_rfl) (by kernel_rfl) (by kernel_rfl) (by kernel_rfl)
  have h38 := @run_callFunc_extern Tryz.prog 134 _ (ReflectliteType.relation "Implements" ReflectliteType.implements_) Tryz.func134 (by kernel_rfl) (by kernel_rfl) (by kernel_rfl) (by kernel_rfl)
  have h10 := @run_callFunc_extern Tryz.prog 47 _ ReflectliteType.typeOf Tryz.func47 (by kernel_rfl) (by kernel_rfl) (by kernel_rfl) (by kernel_rfl)
  have h35 := @run_callFunc_extern Tryz.prog 131 _ (ReflectliteType.relation "AssignableTo" ReflectliteType.assignableTo) Tryz.func131 (by kernel_rfl) (by kernel_rfl) (by kernel_rfl) (by kernel_rfl)
  have tE := errnoTypeOf'
  have aE := assignableE
  have f6 := valueOfPP
  have f7 := typePP
  have k27 := kindPP
  have k25 := kindP
  have e27 := elemPP
  have i25 := implementsP
  have n0 := errnoNoAs
  have n2 := errnoNoUnwrap
  have n3 := errnoNoUnwraps
  have b0 : Blk ((w.alloc (.cells #[.pointer (some ⟨t, 0, none⟩)] 156)).alloc (.cells #[.pointer (some ⟨1, 156, none⟩), .pointer (some ⟨w.heap.size, 0, none⟩), .int .u64 150] 138)) w.heap.size 156 #[.pointer (some ⟨t, 0, none⟩)] := (Blk.new w _ _).alloc _
  have n8 := isNilPP ⟨w.heap.size, 0, none⟩ ⟨t, 0, none⟩ _ (by rw [b0.cell]; rfl)
  have hg2 := ((hg.upd ((Upd.refl [] w).alloc (.cells #[.pointer (some ⟨t, 0, none⟩)] 156)) (by simp)).upd ((Upd.refl [] _).alloc (.cells #[.pointer (some ⟨1, 156, none⟩), .pointer (some ⟨w.heap.size, 0, none⟩), .int .u64 150] 138)) (by simp)).1
  simp only [asWorld]
  clear b0 hg
  go_enter Tryz.func46, Tryz.ntmps46
  go_wp2
  refine wp_loop_rounds 1 ?_
  rw [rounds_succ]
  go_wp2
  go_ret
  exact ⟨rfl, rfl⟩

theorem asWorld_upd (w : World) (t : Nat) : Upd [] w (asWorld w t) := (((Upd.refl [] w).alloc _).alloc _).alloc _

/-- api.Place of no error. -/
theorem place_nil (w : World) : Calls Tryz.prog 51 #[.nilIface] w fun e w' => e = .returned (.int .i64 0) ∧ Upd [] w w' := by
  go_enter Tryz.func51, Tryz.ntmps51
  go_wp2_with fail
  refine (as_nil _ _).mono ?_; rintro e w' ⟨rfl, rfl⟩
  go_wp2_with fail
  go_ret
  exact ⟨rfl, (Upd.refl [] w).alloc _⟩

/-- api.Place of a bare number. -/
theorem place_errno (k : Int) (w : World) (hg : Typed w) : Calls Tryz.prog 51 #[.iface 63 (.int .i64 k)] w fun e w' => e = .returned (.int .i64 0) ∧ Upd [] w w' := by
  have hg' := hg.upd ((Upd.refl [] w).alloc (.cells #[.pointer none] 96)) (by simp)
  go_enter Tryz.func51, Tryz.ntmps51
  go_wp2_with fail
  refine (as_errno k _ _ hg').mono ?_; rintro e w' ⟨rfl, rfl⟩
  go_wp2_with fail
  go_ret
  exact ⟨rfl, ((Upd.refl [] w).alloc _).trans (asWorld_upd _ _)⟩

/-- api.Place of a place. -/
theorem place_fault (g : Nat) (at_ k : Int) (w : World) (hg : Typed w) (hf : Blk w g 98 #[.int .i64 at_, .int .i64 k]) : Calls Tryz.prog 51 #[.iface 96 (.pointer (some ⟨g, 0, none⟩))] w fun e w' => e = .returned (.int .i64 at_) ∧ Upd [] w w' := by
  have hg' := hg.upd ((Upd.refl [] w).alloc (.cells #[.pointer none] 96)) (by simp)
  have hb := Blk.new w 96 #[.pointer none]
  go_enter Tryz.func51, Tryz.ntmps51
  go_wp2_with fail
  refine (as_fault g _ _ hg' hb).mono ?_; rintro e w1 ⟨rfl, hw⟩
  have hu : Upd [w.heap.size] (w.alloc (.cells #[.pointer none] 96)) w1 := by
    rw [hw]; exact (((asWorld_upd _ _).mono (by simp)).alloc _).setCell (by simp) _
  have h1 : w1.cell? ⟨w.heap.size, 0, none⟩ = some (.pointer (some ⟨g, 0, none⟩)) := by
    rw [hw]
    have h0 : Blk (asWorld (w.alloc (.cells #[.pointer none] 96)) w.heap.size) w.heap.size 96 #[.pointer none] := hb.upd (asWorld_upd _ _) (by simp)
    rw [((h0.alloc (.cells #[.pointer (some ⟨g, 0, none⟩)] 96)).set_ 0 (.pointer (some ⟨g, 0, none⟩))).cell]; rfl
  have h2 : w1.cell? ⟨g, 0, none⟩ = some (.int .i64 at_) := by
    have hne : g ≠ w.heap.size := by have := hf.lt; omega
    rw [((hf.alloc (.cells #[.pointer none] 96)).upd hu (by simpa using hne)).cell]; rfl
  clear hw hb hf
  go_wp2_with fail
  go_ret
  refine ⟨rfl, ((Upd.refl [] w).alloc _).trans' hu ?_⟩
  simp
end Go.Proofs.YtfbeaklplefojaaGreatDoor

namespace Go.Proofs.YtfbeaklplefojaaGreatDoor
open Go.RowKit

theorem place_err {w : World} {v : Value} {no at_ : Int} (h : ErrV w v no at_) (ht : Typed w) : Calls Tryz.prog 51 #[v] w fun e w' => e = .returned (.int .i64 at_) ∧ Upd [] w w' := by
  rcases h with ⟨rfl, _, rfl⟩ | ⟨rfl, _, rfl⟩ | ⟨g, rfl, hb, _⟩
  · exact place_nil w
  · exact place_errno no w ht
  · exact place_fault g at_ no w ht hb
end Go.Proofs.YtfbeaklplefojaaGreatDoor

namespace Go.Proofs.YtfbeaklplefojaaGreatDoor
open Go.RowKit Assoc MP

abbrev MAct := Int × Int × Int × Int
def stepM (s : MS) (a : MAct) : MS :=
  if a.1 = 1 ∨ a.1 = 2 then (if isC s a.2.1 then mPut s a.2.1.toNat a.2.2.1 a.2.2.2 else s)
  else if a.1 = 3 then (if isC s a.2.1 then mDel s a.2.1.toNat a.2.2.1 else s) else s
theorem Mdl.off {B sb g : Nat} {F : List Nat} {w : World} {s : MS} {t : TypeId} {cs : Array Value} (h : Mdl B sb F w s) (hb : Blk w g t cs) (h1 : t ≠ 75) (h2 : t ≠ 3) (h3 : t ≠ 77) : g ∉ F := by
  obtain ⟨_, vk, gc, cc, ms, rfl, h⟩ := h
  intro hg
  unfold fpM at hg
  simp only [List.mem_cons, List.mem_append, Option.mem_toList] at hg
  rcases hg with rfl | rfl | hg | hg
  · exact (Blk.ne_ hb h.box h1) rfl
  · exact own_type h.c hb h3 rfl
  · exact own_type h.k hb h2 hg
  · obtain ⟨i, hi, rfl⟩ := List.getElem_of_mem hg
    have hi' : i < s.L.length := by rw [← h.mlen]; exact hi
    obtain ⟨m, hm, him⟩ := h.at_ hi'
    rw [List.getElem?_eq_getElem hi] at hm
    injection hm with hm
    subst hm
    exact blk_map hb him rfl
theorem RMdl.off {B rb g : Nat} {F : List Nat} {w : World} {s : MS} {t : TypeId} {cs : Array Value} (h : RMdl B rb F w s) (hb : Blk w g t cs) (h1 : t ≠ 83) (h2 : t ≠ 3) (h3 : t ≠ 52) (h4 : t ≠ 56) : g ∉ F := by
  obtain ⟨_, vk, vl, ms, rfl, h⟩ := h
  intro hg
  unfold fpRM at hg
  simp only [List.mem_cons, List.mem_append, Option.mem_toList] at hg
  rcases hg with rfl | (hg | hg) | hg
  · exact (Blk.ne_ hb h.box h1) rfl
  · exact own_type h.k hb h2 hg
  · exact own_type h.l hb h3 hg
  · obtain ⟨v, hv, hvb⟩ := mem_owns.1 hg
    obtain ⟨l, _, ho⟩ := h.mem hv
    exact own_type ho hb h4 hvb
theorem ErrV.off {w w' : World} {v : Value} {n a : Int} {T : List Nat} (h : ErrV w v n a) (hu : Upd T w w') (hT : ∀ g cs, Blk w g 98 cs → g ∉ T) : ErrV w' v n a := by
  rcases h with h | h | ⟨g, h1, h2, h3, h4⟩
  · exact .inl h
  · exact .inr (.inl h)
  · exact .inr (.inr ⟨g, h1, h2.upd hu (hT g _ h2), h3, h4⟩)
theorem ErrV.byD {B rb : Nat} {G : List Nat} {w w' : World} {d : MS} {v : Value} {n a : Int} (h : ErrV w v n a) (hr : RMdl B rb G w d) (hu : Upd G w w') : ErrV w' v n a :=
  h.off hu fun g cs hb => hr.off hb (by decide) (by decide) (by decide) (by decide)
def MBoth (B sb rb : Nat) (w : World) (s : MS) : Prop := ∃ F G, Mdl B sb F w s ∧ RMdl B rb G w s ∧ Disj F G
section
variable {B sb rb : Nat} {w w' w0 w1 : World} {s s' d d' : MS} {F F' G G' : List Nat}
theorem MBoth.upd0 (h : MBoth B sb rb w s) (hu : Upd [] w w') : MBoth B sb rb w' s := by
  obtain ⟨F, G, h1, h2, h3⟩ := h
  exact ⟨F, G, h1.upd0 hu, h2.upd0 hu, h3⟩
theorem mboth_s (h1 : Mdl B sb F w s) (h2 : RMdl B rb G w d) (h3 : Disj F G) (hf : Frm F F' w w') : RMdl B rb G w' d ∧ Disj F' G :=
  ⟨h2.upd hf.upd h3.symm, hf.disj h3 fun k hk => (h2.lt k hk).2⟩
theorem mboth_d (h1 : Mdl B sb F w s) (h2 : RMdl B rb G w d) (h3 : Disj F G) (hf : Frm G G' w w') : Mdl B sb F w' s ∧ Disj F G' :=
  ⟨h1.upd hf.upd h3, (hf.disj h3.symm fun k hk => (h1.lt k hk).2).symm⟩
theorem mboth_us (h1 : Mdl B sb F w s) (hu : Upd [] w0 w) (hf : Frm F F' w w') (hB : w0.heap.size ≤ B) : Upd [] w0 w' := hf.rest hu fun k hk => Nat.le_trans hB (h1.lt k hk).1
theorem mboth_ud (h1 : RMdl B rb G w d) (hu : Upd [] w0 w) (hf : Frm G G' w w') (hB : w0.heap.size ≤ B) : Upd [] w0 w' := hf.rest hu fun k hk => Nat.le_trans hB (h1.lt k hk).1
theorem frm_same (hu : Upd F w w') : Frm F F w w' := ⟨hu, fun k hk => .inl hk⟩
end
end Go.Proofs.YtfbeaklplefojaaGreatDoor

/-
  slices.Sorted of maps.Keys: the keys of a map of integers, rising.
  slices.BinarySearch of ints.
  trace.tracer: cell.
  Pairs of transactions, each once, from edges that rise: no Go in sight.
  tracer.pairs.
  Counting who is ahead, step by step: no Go in sight.
-/
import Derived.Test.YteddiknlcdbhjaaGreatTsB2
import Derived.Test.YteddiknlcdbhjaaGreatLayK
import Derived.Maps.Range
import Derived.Test.YteddiknlcdbhjaaGreatTsB4
import Derived.Test.YteddiknlcdbhjaaGreatProg
import Derived.Test.YteddiknlcdbhjaaGreatTsB10
import Derived.Test.YteddiknlcdbhjaaGreatTsB5
import Derived.Deep.Cut
import Derived.Deep.CutRange
import Derived.Test.YteddiknlcdbhjaaGreatTsB7
import Derived.BigRegion
set_option linter.unusedVariables false
namespace Go.Proofs.YteddiknlcdbhjaaGreat
open Go.RowKit Assoc MP Go.Shelf Go.WideElems Go.MapKept Go.Maps Go.WideShapes

theorem sortsI (m : Nat) : AnyZI.SortsIn Tryz.prog sortedI_lay_ren Fence.wide m :=
  ⟨fun blk off cap ss W hH hblk hsz => callsIn_wide.2 (AnyM.slices_Sort_int sortI_lay blk off cap ss W hH hblk hsz),
   fun p cap W => callsIn_wide.2 (AnyM.slices_Sort_int_none sortI_lay p cap W)⟩
theorem keysM (mb : Option Nat) (w : World) : Calls Tryz.prog 27 #[.map mb] w fun e w' => e = .returned (.func (.func 40) #[] #[.pointer (some ⟨w.heap.size, 0, none⟩)]) ∧ w.alloc (.cells #[.map mb] 59) = w' := by
  go_enter Tryz.func27, Tryz.ntmps27
  go_wp2_with fail
  go_ret
  exact ⟨rfl, rfl⟩
def kwf (l : AL) : Prop := ∀ p ∈ l, (Lit.int .i64 p.1).wf = true
def R0 : Value → Option (DataW Unit × List MemPlace) := fun _ => some (.nil, [])
theorem keyOf_int {x : Int} (h : (Lit.int .i64 x).wf = true) : keyOf Tryz.prog 3 (.int .i64 x) = some (.int .i64 x) := by
  unfold keyOf
  rw [Tryz.underlying3]
  simp [mapKey, Tryz.underlying3, h]
theorem findI_some {L : List IEnt} {k : Int} : (findI L k).isSome = true ↔ k ∈ L.map (·.1) := by
  unfold findI
  rw [Option.isSome_map, List.find?_isSome]
  simp only [List.mem_map, beq_iff_eq]
theorem get_mem_keys {l : AL} {k : Int} : (get l k).isSome = true ↔ k ∈ l.map (·.1) := by
  unfold Assoc.get
  rw [Option.isSome_map, List.find?_isSome]
  simp only [List.mem_map, beq_iff_eq]
theorem srt_keys {l : AL} (h : Srt l) : (l.map (·.1)).Pairwise (· < ·) := List.pairwise_map.2 h
theorem keys_perm {l : AL} {L : List IEnt} (hs : Srt l) (hn : (L.map (·.1)).Nodup) (hf : ∀ k, mapI l k = findI L k) : (L.map (·.1)).Perm (l.map (·.1)) := by
  refine (List.perm_ext_iff_of_nodup hn ((srt_keys hs).imp (fun h => by omega))).2 fun k => ?_
  rw [← findI_some, ← get_mem_keys, ← hf k, mapI_some]
theorem sort_keys {l : AL} {ss : List Int} (hs : Srt l) (hp : ss.Perm (l.map (·.1))) : ss.mergeSort (fun x y => decide (x ≤ y)) = l.map (·.1) := by
  refine List.Perm.eq_of_pairwise (le := fun x y => x ≤ y) ?_ ?_ ?_ ((List.mergeSort_perm _ _).trans hp)
  · intro a b _ _ h1 h2; omega
  · have := List.pairwise_mergeSort (le := fun (x y : Int) => decide (x ≤ y)) (fun a b c h1 h2 => by simp at *; omega) (fun a b => by simp; omega) ss
    exact this.imp (fun h => by simpa using h)
  · exact (srt_keys hs).imp (fun h => by omega)
/-- The map as the shelf's kit knows it. -/
theorem owns_of {w : World} {m : Nat} {l : AL} (h : IMap w .i64 m (mapI l) l.length) (hs : Srt l) (hk : kwf l) (hl : l.length ≤ 100) :
    ∃ D0 : DataW Unit, w.ownsMap Tryz.prog 3 R0 m l.length D0 ∧ Maps.size D0 ≤ 100 ∧ (intKeys D0).Perm (l.map (·.1)) := by
  obtain ⟨L, c, hr, hf, hn⟩ := h
  have hkp := keys_perm hs hr.keys hf
  have hwf : ∀ p ∈ L, (Lit.int .i64 p.1).wf = true := fun p hp => by
    obtain ⟨q, hq, e⟩ := List.mem_map.1 (hkp.mem_iff.1 (List.mem_map.2 ⟨p, hp, rfl⟩))
    rw [← e]
    exact hk q hq
  have hrg : ∀ p ∈ L, rg Tryz.prog 3 R0 (ent .i64 p) = (.int .i64 p.1, .nil) := fun p hp => by
    unfold rg rd ent R0
    simp [keyOf_int (hwf p hp)]
  have he : ((L.map (ent .i64)).toArray.toList.map (rg Tryz.prog 3 R0)) = L.map (fun p => (Lit.int .i64 p.1, (DataW.nil : DataW Unit))) := by
    generalize rg Tryz.prog 3 R0 = f at hrg ⊢
    show (L.map (ent .i64)).map f = _
    rw [List.map_map]
    exact List.map_congr_left fun p hp => hrg p hp
  refine ⟨_, ⟨_, c, hr.blk, ⟨?_, ⟨?_, ?_, ?_⟩, ?_⟩, ?_, rfl⟩, ?_, ?_⟩
  · simp [maxLen]; omega
  · intro x hx
    simp only [List.mem_map] at hx
    obtain ⟨p, hp, rfl⟩ := hx
    exact hr.lt p hp
  · simp only [List.map_map]
    exact hr.stamps
  · simp only [List.map_map]
    have : (Value.int IntKind.i64 ∘ fun (p : IEnt) => p.1) = (MapEntry.key ∘ ent .i64) := rfl
    rw [← this, ← List.map_map]
    exact List.Pairwise.map _ (fun a b h e => h (by injection e)) hr.keys
  · intro x hx
    simp only [List.mem_map] at hx
    obtain ⟨p, hp, rfl⟩ := hx
    exact ⟨(.int .i64 p.1, .nil), by unfold rd ent R0; simp [keyOf_int (hwf p hp)]⟩
  · simp [hn]
  · rw [he]
    show (List.foldr DataW.insert [] _).length ≤ 100
    rw [(sorted_perm _).length_eq, List.length_map, hn]
    exact hl
  · rw [he]
    unfold intKeys
    refine ((sorted_perm _).map _).trans ?_
    rw [List.map_map]
    exact hkp
def KeysPost (l : AL) (w : World) (e : Ending) (w' : World) : Prop := ∃ v, e = .returned v ∧ Ow encK 3 w' w.heap.size v (l.map (·.1)) ∧ Upd [] w w'
theorem flat_ints (xs : List Int) : flat encK xs = xs.map encZ := by
  induction xs with
  | nil => rfl
  | cons x xs ih => rw [flat_cons, ih]; rfl
theorem sortedKeys (Bm m : Nat) (l : AL) (w : World) (hb : Blk w Bm 59 #[.map (some m)]) (h : IMap w .i64 m (mapI l) l.length) (hs : Srt l) (hk : kwf l) (hl : l.length ≤ 100) :
    Calls Tryz.prog 26 #[.func (.func 40) #[] #[.pointer (some ⟨Bm, 0, none⟩)]] w fun e w' => KeysPost l w e w' := by
  obtain ⟨D0, hown, hsz, hp⟩ := owns_of h hs hk hl
  have hseq : SeqGives Fence.wide 2 Tryz.prog 40 #[.pointer (some ⟨Bm, 0, none⟩)] encZ (fun ss => ss.Perm (intKeys D0)) (Maps.size D0) w :=
    AnyZI.keys_gives (ρ := keysM_lay_ren) { keysM_lay with } Fence.wide _ trivial rfl (by omega) Bm m l.length D0 _ hb.lt (hb.cell 0) hown
  have cS := AnyZI.sorted_in sortedI_lay Fence.wide 5 trivial trivial trivial trivial rfl (by omega) (sortsI _) (enters_of Tryz.func39 (by kernel_rfl) rfl) 40 #[.pointer (some ⟨Bm, 0, none⟩)] trivial (enters_of Tryz.func40 (by kernel_rfl) rfl) _ _ (by simp only [maxLen]; omega) (by omega) _ hseq
  refine (callsIn_wide (n := 5)).1 (show CallsIn Fence.wide 5 Tryz.prog 26 _ w _ from cS.mono ?_)
  rintro e w' ⟨v, ss, rfl, hS, hrow, _, hbl⟩
  rw [sort_keys hs (hS.trans hp)] at hrow
  refine ⟨v, rfl, ?_, Upd.of_below (S := []) hbl (Nat.le_refl _)⟩
  unfold Ow
  rw [flat_ints]
  have e : ss.length = (l.map (·.1)).length := (hS.trans hp).length_eq
  rw [← e]
  exact hrow
end Go.Proofs.YteddiknlcdbhjaaGreat

namespace Go.Proofs.YteddiknlcdbhjaaGreat
open Go.RowKit Assoc MP
attribute [local go_sem] litStep_value

theorem isNaN_int (x : Int) (w : World) : Calls Tryz.prog 63 #[.int .i64 x] w fun e w' => e = .returned (.bool false) ∧ w = w' := by
  go_enter Tryz.func63, Tryz.ntmps63
  go_wp2_with fail
  go_ret
  exact ⟨by simp, rfl⟩
theorem isNaN_cmp (x : Int) (w : World) : Calls Tryz.prog 76 #[.int .i64 x] w fun e w' => e = .returned (.bool false) ∧ w = w' := by
  go_enter Tryz.func76, Tryz.ntmps76
  go_wp2_with fail
  go_ret
  exact ⟨by simp, rfl⟩
set_option maxRecDepth 100000 in
theorem less_int (x y : Int) (w : World) : Calls Tryz.prog 62 #[.int .i64 x, .int .i64 y] w fun e w' => e = .returned (.bool (decide (x < y))) ∧ w = w' := by
  go_enter Tryz.func62, Tryz.ntmps62
  go_wp2_with fail
  refine (isNaN_cmp x w).mono ?_; rintro e w' ⟨rfl, rfl⟩
  go_wp2_with fail
  go_ret
  exact ⟨rfl, rfl⟩
def BinPost (xs : List Int) (k : Int) (w : World) (e : Ending) (w' : World) : Prop := ∃ i b, e = .returned (.tuple #[.int .i64 (i : Nat), .bool b]) ∧ i ≤ xs.length ∧ (∀ j, j < i → xs.getD j 0 < k) ∧ (∀ j, i ≤ j → j < xs.length → k ≤ xs.getD j 0) ∧ (b = true ↔ i < xs.length ∧ xs.getD i 0 = k) ∧ Upd [] w w'
set_option maxRecDepth 100000 in
set_option maxHeartbeats 2000000 in
theorem bin_ok (B : Nat) (xs : List Int) (v : Value) (k : Int) (w : World) (h : Ow encK 3 w B v xs) (hs : xs.Pairwise (· < ·)) (hl : xs.length ≤ 1000) :
    Calls Tryz.prog 51 #[v, .int .i64 k] w fun e w' => BinPost xs k w e w' := by
  obtain ⟨A, c, rfl, hnc, hcm⟩ := own_slice h
  obtain ⟨n, hn⟩ : ∃ n, xs.length = n := ⟨_, rfl⟩
  have HO : Hid (w.ownsRow B 3 1 (.slice A n c) n (flat encK xs)) := Lib.hid (by have := h; unfold Ow at this; rw [hn] at this; exact this)
  have HN := Lib.hid hn
  have HS := Lib.hid hs
  rw [hn] at hl hnc ⊢
  clear h hn hs
  go_enter Tryz.func51, Tryz.ntmps51
  go_wp2_with fail
  go_loopw [7, 8] (fun vi vj wr => ∃ i j : Nat, vi = .int .i64 i ∧ vj = .int .i64 j ∧ i ≤ j ∧ j ≤ n ∧ Hid (∀ p, p < i → xs.getD p 0 < k) ∧ Hid (∀ p, j ≤ p → p < n → k ≤ xs.getD p 0) ∧ Hid (Upd [] w wr)) (fun vi vj _ => ((intOf vj).toNat - (intOf vi).toNat))
  case atStart => exact ⟨0, n, rfl, rfl, by omega, by omega, Lib.hid (fun p hp => by omega), Lib.hid (fun p hp hpn => by omega), Lib.hid (.refl _ _)⟩
  case round =>
    obtain ⟨i, j, rfl, rfl, hij, hjn, HA, HB, HU⟩ := hrel
    by_cases hlt : i < j
    · have q0 : (i : Int) < (j : Int) := by omega
      obtain ⟨m, hm⟩ : ∃ m : Nat, ((i : Int) + (j : Int)) / 2 = (m : Int) := ⟨((i + j) / 2 : Nat), by omega⟩
      have m1 : i ≤ m := by omega
      have m2 : m < j := by omega
      obtain ⟨g, cg, cur, e1, _⟩ := own_form HO.out (by omega)
      injection e1 with e1 _ e1'
      subst e1 e1'
      obtain ⟨y, hy⟩ : ∃ y, xs[m]? = some y := ⟨_, List.getElem?_eq_getElem (by rw [HN.out]; omega)⟩
      have HY := Lib.hid hy
      have OW := Lib.hid (own_upd0 HO.out HU.out)
      have e0 : wr.cell? ⟨g, m, none⟩ = some (.int .i64 y) := by
        have := own_cell OW.out _ _ ((flat_get (E := encK) hy (j := 0) (by decide)).trans rfl)
        rwa [show m * encK.s + 0 = m by simp [encI]] at this
      have HG : Hid (xs.getD m 0 = y) := Lib.hid (by rw [List.getD_eq_getElem?_getD, hy]; rfl)
      have q1 : (0 : Int) ≤ (m : Int) := by omega
      have q2 : (m : Int) < (n : Int) := by omega
      clear hy
      go_wp2_with fail
      refine (less_int y k wr).mono ?_; rintro e w' ⟨rfl, rfl⟩
      by_cases hyk : y < k
      · have d : decide (y < k) = true := by simpa using hyk
        have HA2 : Hid (∀ p, p < m + 1 → xs.getD p 0 < k) := Lib.hid (fun p hp => by
          rcases Nat.lt_or_ge p m with h1 | h1
          · have h2 := List.pairwise_iff_getElem.1 HS.out p m (by rw [HN.out]; omega) (by rw [HN.out]; omega) h1
            rw [List.getD_eq_getElem?_getD, List.getElem?_eq_getElem (by rw [HN.out]; omega)]
            have h3 := (List.getElem?_eq_some_iff.1 HY.out).2
            rw [h3] at h2
            simp only [Option.getD_some]
            omega
          · obtain rfl : p = m := by omega
            rw [HG.out]; exact hyk)
        rw [d]
        clear hyk d e0
        go_wp2_with fail
        go_roundw
        case rel => exact ⟨m + 1, j, by go_num, rfl, by omega, by omega, HA2, HB, HU⟩
        case measure => simp [intOf]; omega
      · have d : decide (y < k) = false := by simpa using hyk
        have HB2 : Hid (∀ p, m ≤ p → p < n → k ≤ xs.getD p 0) := Lib.hid (fun p hp hpn => by
          rcases Nat.lt_or_ge m p with h1 | h1
          · have h2 := List.pairwise_iff_getElem.1 HS.out m p (by rw [HN.out]; omega) (by rw [HN.out]; omega) h1
            rw [List.getD_eq_getElem?_getD, List.getElem?_eq_getElem (by rw [HN.out]; omega)]
            have h3 := (List.getElem?_eq_some_iff.1 HY.out).2
            rw [h3] at h2
            simp only [Option.getD_some]
            omega
          · obtain rfl : p = m := by omega
            rw [HG.out]; omega)
        rw [d]
        clear hyk d e0
        go_wp2_with fail
        go_roundw
        case rel => exact ⟨i, m, rfl, rfl, by omega, by omega, HA, HB2, HU⟩
        case measure => simp [intOf]; omega
    · obtain rfl : i = j := by omega
      by_cases hin : i < n
      · obtain ⟨g, cg, cur, e1, _⟩ := own_form HO.out (by omega)
        injection e1 with e1 _ e1'
        subst e1 e1'
        obtain ⟨y, hy⟩ : ∃ y, xs[i]? = some y := ⟨_, List.getElem?_eq_getElem (by rw [HN.out]; omega)⟩
        have OW := Lib.hid (own_upd0 HO.out HU.out)
        have e0 : wr.cell? ⟨g, i, none⟩ = some (.int .i64 y) := by
          have := own_cell OW.out _ _ ((flat_get (E := encK) hy (j := 0) (by decide)).trans rfl)
          rwa [show i * encK.s + 0 = i by simp [encI]] at this
        have q1 : (0 : Int) ≤ (i : Int) := by omega
        have q2 : (i : Int) < (n : Int) := by omega
        have HG : Hid (xs.getD i 0 = y) := Lib.hid (by rw [List.getD_eq_getElem?_getD, hy]; rfl)
        clear hy
        by_cases hyk : y = k
        · have d : (y == k) = true := by simpa using hyk
          have HYK := Lib.hid hyk
          clear hyk
          go_wp2_with fail
          go_ret2
          unfold BinPost
          exact ⟨i, true, rfl, by rw [HN.out]; exact hjn, HA.out, by rw [HN.out]; exact HB.out, ⟨fun _ => ⟨by rw [HN.out]; exact hin, by rw [HG.out]; exact HYK.out⟩, fun _ => rfl⟩, HU.out⟩
        · have d : (y == k) = false := by simpa using hyk
          have HYK := Lib.hid hyk
          clear hyk
          go_wp2_with fail
          refine (isNaN_int y _).mono ?_; rintro e w' ⟨rfl, rfl⟩
          go_wp2_with fail
          go_ret2
          unfold BinPost
          exact ⟨i, false, rfl, by rw [HN.out]; exact hjn, HA.out, by rw [HN.out]; exact HB.out, ⟨fun h => (by cases h), fun h => absurd (HG.out.symm.trans h.2) HYK.out⟩, HU.out⟩
      · have q2 : ¬ (i : Int) < (n : Int) := by omega
        go_wp2_with fail
        go_ret2
        unfold BinPost
        exact ⟨i, false, rfl, by rw [HN.out]; exact hjn, HA.out, by rw [HN.out]; exact HB.out, ⟨fun h => (by cases h), fun h => by have := h.1; rw [HN.out] at this; omega⟩, HU.out⟩
end Go.Proofs.YteddiknlcdbhjaaGreat

namespace Go.Proofs.YteddiknlcdbhjaaGreat
open Go Go.RowKit TrP Assoc
open Vk (cellIn flat_intK rd_ints rows_at)
attribute [local go_sem] litStep_value

/-- A tracer that knows all events, and some edges. -/
abbrev tcOf (f : Int → Option Int) (n : Nat) (l : List Ev) (S : List Ed) (ld : Int → List Int) : TC := ⟨f, n, cellIn l, wroteOf l, readsOf l, S, ld⟩
def CellPost (ρ : Rho) (B tb : Nat) (b : TB) (fv sv : Value) (f : Int → Option Int) (n : Nat) (l : List Ev) (S : List Ed) (ld : Int → List Int) (c : Int) (w : World) (e : Ending) (w' : World) : Prop := e = .returned (.tuple #[]) ∧ ∃ S', TrSt w' ρ B tb b fv sv (tcOf f n l S' ld) ∧ (∀ y, y ∈ S' ↔ y ∈ S ∨ EdgeAt l c y) ∧ Upd [b.be] w w'
set_option maxRecDepth 100000 in
set_option maxHeartbeats 8000000 in
theorem t_cell (ρ : Rho) (B tb : Nat) (b : TB) (fv sv : Value) (f : Int → Option Int) (n : Nat) (l : List Ev) (S : List Ed) (ld : Int → List Int) (c : Int) (w : World) (h : TrSt w ρ B tb b fv sv (tcOf f n l S ld)) (hc : cellIn l c) (hev : ∀ x ∈ l, EvIn x) (hl : l.length ≤ 60) (hno : Noted l) (hnew : ∀ x, w.heap.size ≤ x → ρ x = .other) :
    Calls Tryz.prog 35 #[.pointer (some ⟨tb, 0, none⟩), .int .u64 c] w fun e w' => CellPost ρ B tb b fv sv f n l S ld c w e w' := by
  have HS := Lib.hid h
  have HNo := Lib.hid hno
  have HNEW := Lib.hid hnew
  clear hno hnew
  have HBE : Hid (ρ b.be = .edges) := Lib.hid h.ed.1
  obtain ⟨fw, nw, wb, wm, iw, hv0, hwb, ib0⟩ := wr_at h.wr hc
  have ib : IMap w .i64 wb (fun k => (wroteOf l c k).map (.int .i64)) wm := ib0
  obtain ⟨al, hsr, hal, hmi, hget⟩ := al_of ib
  obtain ⟨vs, hvs⟩ : ∃ vs, al.map (·.1) = vs := ⟨_, rfl⟩
  have HV : Hid (Vers l c vs) := Lib.hid ⟨by rw [← hvs]; exact List.pairwise_map.2 hsr, fun v => by rw [← hvs, get_keys hsr, hget]⟩
  have hlen : vs.length ≤ 60 := by
    have h1 : vs.length ≤ (l.map (·.ver)).length := len_sub HV.out.rise.nodup (fun v hv => by
      obtain ⟨t, ht⟩ := Option.isSome_iff_exists.1 ((HV.out.mem v).1 hv)
      obtain ⟨x, hx, _, _, e, _⟩ := wroteOf_mem ht
      exact List.mem_map.2 ⟨x, hx, e⟩)
    rw [List.length_map] at h1
    omega
  have hkw : kwf al := fun p hp => by
    have hg : (wroteOf l c p.1).isSome = true := by rw [← hget, get_mem hsr hp]; rfl
    obtain ⟨t, ht⟩ := Option.isSome_iff_exists.1 hg
    obtain ⟨x, hx, _, _, e, _⟩ := wroteOf_mem ht
    rw [← e]; exact (hev x hx).ver
  have him : IMap w .i64 wb (mapI al) al.length := by
    rw [hal]
    exact ib.congr (fun k => (hmi k).symm)
  have IW := Lib.hid iw
  have IB := Lib.hid ib
  have hall : al.length ≤ 60 := by rw [← hvs, List.length_map] at hlen; exact hlen
  have LK : Hid (∀ W, Upd [b.be] w W → (Instr.lookup 60 (.map (some b.bw)) (.int .u64 c) false).run Tryz.prog W = .ok (.map (some wb)) W) := Lib.hid (fun W hW => by
    rw [run_lookup_int' Tryz.underlying60 Tryz.underlying45 (Tryz.zeroValue59 W) (IW.out.upd hW (by simp; intro e; have := HS.out.wr.1; rw [e, HBE.out] at this; cases this)) c, hv0]
    rfl)
  have LB : Hid (∀ W k, Upd [b.be] w W → (Instr.lookup 59 (.map (some wb)) (.int .i64 k) false).run Tryz.prog W = .ok (.int .i64 ((wroteOf l c k).getD 0)) W) := Lib.hid (fun W k hW => by
    rw [run_lookup_int' Tryz.underlying59 Tryz.underlying3 (Tryz.zeroValue3 W) (IB.out.upd hW (by simp; intro e; rw [e, HBE.out] at hwb; cases hwb)) k]
    cases wroteOf l c k <;> rfl)
  have HBL : Hid (b.be < w.heap.size) := Lib.hid (by obtain ⟨_, n, hm⟩ := h.ed; exact hm.lt)
  have c1 : w.cell? ⟨tb, 1, none⟩ = some (.map (some b.bw)) := h.tr.cell 1
  have lk := LK.out w (.refl _ _)
  clear h ib0 hmi
  go_enter Tryz.func35, Tryz.ntmps35
  go_wp2_with fail
  refine (keysM (some wb) w).mono ?_; rintro e w1 ⟨rfl, hw1⟩
  have Y1 : Hid (Blk w1 w.heap.size 59 #[.map (some wb)]) := Lib.hid (by rw [← hw1]; exact Blk.new w _ _)
  have U1 : Hid (Upd [] w w1) := Lib.hid (by rw [← hw1]; exact (Upd.refl [] w).alloc _)
  clear hw1 c1 lk
  go_wp2_with fail
  refine (sortedKeys w.heap.size wb al w1 Y1.out (him.upd U1.out (by simp)) hsr hkw (by omega)).mono ?_; rintro e w2 ⟨vv, rfl, ov, u2⟩
  rw [hvs] at ov
  have U2 := Lib.hid (U1.out.trans u2)
  have OV := Lib.hid ov
  obtain ⟨A, cv, rfl, hnc, hcm⟩ := own_slice ov
  obtain ⟨nv, hnv⟩ : ∃ nv, vs.length = nv := ⟨_, rfl⟩
  have HNV := Lib.hid hnv
  have OV2 : Hid (w2.ownsRow w1.heap.size 3 1 (.slice A nv cv) nv (flat encK vs)) := Lib.hid (by have := ov; unfold Ow at this; rw [hnv] at this; exact this)
  rw [hnv] at hlen ⊢
  clear ov u2 him hkw hget hsr hal hvs hall iw ib hnc hcm OV hnv
  go_wp2_with fail
  go_loopw [26] (fun u wr => ∃ i : Nat, u = .int .i64 i ∧ i ≤ nv ∧ ∃ S1, Hid (TrSt wr ρ B tb b fv sv (tcOf f n l S1 ld)) ∧ Hid (∀ y, y ∈ S1 ↔ y ∈ S ∨ ∃ j, j < i ∧ EdA l c vs j y) ∧ Hid (Upd [b.be] w2 wr)) (fun u _ => nv - (intOf u).toNat)
  case atStart => exact ⟨0, rfl, by omega, S, Lib.hid (HS.out.upd0 U2.out), Lib.hid (fun y => ⟨.inl, fun h => h.elim id (fun ⟨j, hj, _⟩ => by omega)⟩), Lib.hid (.refl _ _)⟩
  case round =>
    obtain ⟨i, rfl, hi, S1, T1, M1, U3⟩ := hrel
    have q3 : (0 : Int) ≤ (i : Int) := by omega
    by_cases hin : i < nv
    · obtain ⟨vi, hvi⟩ : ∃ v, vs[i]? = some v := ⟨_, List.getElem?_eq_getElem (by rw [HNV.out]; omega)⟩
      obtain ⟨who, hwho⟩ := Option.isSome_iff_exists.1 ((HV.out.mem vi).1 (List.mem_of_getElem? hvi))
      have HVI := Lib.hid hvi
      have HWHO := Lib.hid hwho
      have UW : Hid (Upd [b.be] w wr) := Lib.hid ((U2.out.mono (by simp)).trans U3.out)
      have OVR : Hid (∀ W, Upd [b.be] w2 W → W.ownsRow w1.heap.size 3 1 (.slice A nv cv) nv (flat encK vs)) := Lib.hid (fun W hW => own_upd OV2.out hW (fun y hy hm => by
        simp at hm
        subst hm
        have h1 := (own_lt OV2.out hy).1
        have h2 := HBL.out
        have h3 := U1.out.size
        omega))
      obtain ⟨g, cg, cur, e1, -⟩ := own_form OV2.out (by omega)
      injection e1 with e1 _ e1'
      subst e1 e1'
      have VC : Hid (∀ W j v, Upd [b.be] w2 W → vs[j]? = some v → W.cell? ⟨g, j, none⟩ = some (.int .i64 v)) := Lib.hid (fun W j v hW hv => by
        have h1 := own_cell (OVR.out W hW) _ _ ((flat_get (E := encK) hv (j := 0) (by decide)).trans rfl)
        rwa [show j * encK.s + 0 = j by simp [encI]] at h1)
      have q4 : (i : Int) < (nv : Int) := by omega
      have c1 : wr.cell? ⟨tb, 1, none⟩ = some (.map (some b.bw)) := T1.out.tr.cell 1
      have e0 : wr.cell? ⟨g, i, none⟩ = some (.int .i64 vi) := VC.out wr i vi U3.out hvi
      have lk := LK.out wr UW.out
      have lb := LB.out wr vi UW.out
      rw [hwho] at lb
      simp only [Option.getD_some] at lb
      clear hvi hwho
      go_upto_if 43 with fail
      clear c1 e0 lk lb
      obtain ⟨bt, hbt⟩ : ∃ bt, decide ((i : Int) + 1 < (nv : Int)) = bt := ⟨_, rfl⟩
      rw [hbt]
      have HBT := Lib.hid hbt
      clear hbt
      go_cut [] from 44 to 58 (fun wx => ∃ S2, Hid (TrSt wx ρ B tb b fv sv (tcOf f n l S2 ld)) ∧ Hid (∀ y, y ∈ S2 ↔ y ∈ S1 ∨ (y.1 ≠ y.2.1 ∧ y.1 = who ∧ y.2.2 = 2 ∧ ∃ hi' : i + 1 < vs.length, wroteOf l c vs[i + 1] = some y.2.1)) ∧ Hid (Upd [b.be] w2 wx))
      case first =>
        cases bt with
        | true =>
          have hi1 : i + 1 < nv := by have := HBT.out; simp at this; omega
          obtain ⟨vj, hvj⟩ : ∃ v, vs[i + 1]? = some v := ⟨_, List.getElem?_eq_getElem (by rw [HNV.out]; omega)⟩
          obtain ⟨whj, hwhj⟩ := Option.isSome_iff_exists.1 ((HV.out.mem vj).1 (List.mem_of_getElem? hvj))
          have q5 : (i : Int) + 1 < (nv : Int) := by omega
          have q6 : (0 : Int) ≤ (i : Int) + 1 := by omega
          have CF : Hid (∀ W, Upd [] wr.drew W → (W.cell? ⟨tb, 1, none⟩ = some (.map (some b.bw)) ∧ W.cell? ⟨g, i + 1, none⟩ = some (.int .i64 vj)) ∧ (Instr.lookup 60 (.map (some b.bw)) (.int .u64 c) false).run Tryz.prog W = .ok (.map (some wb)) W ∧ (Instr.lookup 59 (.map (some wb)) (.int .i64 vj) false).run Tryz.prog W = .ok (.int .i64 whj) W) := Lib.hid (fun W hW => by
            have hu : Upd [] wr W := (Upd.refl [] wr).drew.trans hW
            have hu' : Upd [b.be] wr W := hu.mono (by simp)
            have hlb := LB.out W vj (UW.out.trans hu')
            rw [hwhj] at hlb
            exact ⟨⟨(T1.out.tr.upd hu (by simp)).cell 1, VC.out W _ _ (U3.out.trans hu') hvj⟩, LK.out W (UW.out.trans hu'), hlb⟩)
          have HVJ := Lib.hid hvj
          have HWJ := Lib.hid hwhj
          have hwp : IntKind.i64.wrap ((i : Int) + 1) = ((i + 1 : Nat) : Int) := by rw [IntKind.wrap_i64]; omega
          clear hvj hwhj
          go_wp2_with fail
          refine wp_invNT 14 [] [] (by kernel_rfl) (by simp) (by kernel_rfl) (by kernel_rfl) trivial ?_
          simp only [List.take_succ_cons, List.take_zero, List.drop_succ_cons, List.drop_zero]
          with_reducible apply wpV_light
          · simp only [lightOp]
          · intro W hU hF
            have f0 := CF.out W hU
            clear hU hF
            go_simp
            exact rfl
          simp only [Act.put, List.setIfInBounds_toArray, List.set_cons_zero, List.set_cons_succ]
          with_reducible apply wpV_light
          · simp only [lightOp]
          · intro W hU hF
            have f0 := CF.out W hU
            clear hU hF
            go_simp
            exact rfl
          simp only [Act.put, List.setIfInBounds_toArray, List.set_cons_zero, List.set_cons_succ]
          with_reducible apply wpV_light
          · simp only [lightOp]
          · intro W hU hF
            have f0 := CF.out W hU
            clear hU hF
            go_simp
            exact rfl
          simp only [Act.put, List.setIfInBounds_toArray, List.set_cons_zero, List.set_cons_succ]
          with_reducible apply wpV_light
          · simp only [lightOp]
          · intro W hU hF
            have f0 := CF.out W hU
            clear hU hF
            go_simp
            exact rfl
          simp only [Act.put, List.setIfInBounds_toArray, List.set_cons_zero, List.set_cons_succ]
          with_reducible apply wpV_light
          · simp only [lightOp]
          · intro W hU hF
            have f0 := CF.out W hU
            clear hU hF
            go_simp
            exact rfl
          simp only [Act.put, List.setIfInBounds_toArray, List.set_cons_zero, List.set_cons_succ]
          with_reducible apply wpV_light
          · simp only [lightOp]
          · intro W hU hF
            have f0 := CF.out W hU
            clear hU hF
            go_simp
            exact rfl
          simp only [Act.put, List.setIfInBounds_toArray, List.set_cons_zero, List.set_cons_succ]
          with_reducible apply wpV_light
          · simp only [lightOp]
          · intro W hU hF
            have f0 := CF.out W hU
            clear hU hF
            go_simp
            exact rfl
          simp only [Act.put, List.setIfInBounds_toArray, List.set_cons_zero, List.set_cons_succ]
          with_reducible apply wpV_light
          · simp only [lightOp]
          · intro W hU hF
            have f0 := CF.out W hU
            clear hU hF
            go_simp
            exact rfl
          simp only [Act.put, List.setIfInBounds_toArray, List.set_cons_zero, List.set_cons_succ]
          with_reducible apply wpV_light
          · simp only [lightOp]
          · intro W hU hF
            have f0 := CF.out W hU
            clear hU hF
            go_simp
            exact rfl
          simp only [Act.put, List.setIfInBounds_toArray, List.set_cons_zero, List.set_cons_succ]
          with_reducible apply wpV_light
          · simp only [lightOp]
          · intro W hU hF
            have f0 := CF.out W hU
            clear hU hF
            go_simp
            exact rfl
          simp only [Act.put, List.setIfInBounds_toArray, List.set_cons_zero, List.set_cons_succ]
          with_reducible apply wpV_light
          · simp only [lightOp]
          · intro W hU hF
            have f0 := CF.out W hU
            clear hU hF
            go_simp
            exact rfl
          simp only [Act.put, List.setIfInBounds_toArray, List.set_cons_zero, List.set_cons_succ]
          with_reducible apply wpV_light
          · simp only [lightOp]
          · intro W hU hF
            have f0 := CF.out W hU
            clear hU hF
            go_simp
            exact rfl
          simp only [Act.put, List.setIfInBounds_toArray, List.set_cons_zero, List.set_cons_succ]
          with_reducible apply wpV_light
          · simp only [lightOp]
          · intro W hU hF
            have f0 := CF.out W hU
            clear hU hF
            go_simp
            exact rfl
          simp only [Act.put, List.setIfInBounds_toArray, List.set_cons_zero, List.set_cons_succ]
          with_reducible apply wpV_light
          · simp only [lightOp]
          · intro W hU hF
            have f0 := CF.out W hU
            clear hU hF
            go_simp
            exact rfl
          simp only [Act.put, List.setIfInBounds_toArray, List.set_cons_zero, List.set_cons_succ]
          refine wpV_end (fun W hU _ _ => ?_)
          have U4 : Hid (Upd [] wr W) := Lib.hid ((Upd.refl [] wr).drew.trans hU)
          clear hU CF
          refine wpT_op (by rfl) (fun K hK => ?_)
          go_wp2_with fail
          refine (t_edge ρ B tb b fv sv (tcOf f n l S1 ld) (who, whj, 2) W (T1.out.upd0 U4.out)).mono ?_; rintro e w5 ⟨rfl, S2, t5, m5, u5⟩
          have T5 := Lib.hid t5
          have M5 := Lib.hid m5
          have U5 := Lib.hid (U3.out.trans ((U4.out.mono (by simp)).trans u5))
          clear t5 m5 u5
          go_wp2_with fail
          refine hK.out _ _ ?_
          clear hK K
          refine wpT_end ?_
          go_wp2_with fail
          go_meet
          refine ⟨S2, T5, Lib.hid (fun y => ?_), U5⟩
          rw [M5.out]
          have hvj' : ∀ hi' : i + 1 < vs.length, vs[i + 1] = vj := fun hi' => by have := HVJ.out; rw [List.getElem?_eq_getElem hi'] at this; exact Option.some.inj this
          constructor
          · rintro (h | ⟨rfl, h⟩)
            · exact .inl h
            · exact .inr ⟨h, rfl, rfl, by rw [HNV.out]; exact hi1, by rw [hvj']; exact HWJ.out⟩
          · rintro (h | ⟨h1, h2, h3, hi', h4⟩)
            · exact .inl h
            · rw [hvj' hi', HWJ.out] at h4
              obtain ⟨y0, y1, y2⟩ := y
              simp only at h1 h2 h3 h4
              cases h4
              subst h2 h3
              exact .inr ⟨rfl, h1⟩
        | false =>
          have hi1 : ¬ i + 1 < nv := by have := HBT.out; simp at this; omega
          go_wp2_with fail
          go_meet
          exact ⟨S1, T1, Lib.hid (fun y => ⟨.inl, fun h => h.elim id (fun ⟨_, _, _, hi', _⟩ => by rw [HNV.out] at hi'; omega)⟩), U3⟩
      case rest =>
        obtain ⟨S2, T2, M2, U4⟩ := hcut
        rename World => w4
        have UW4 : Hid (Upd [b.be] w w4) := Lib.hid ((U2.out.mono (by simp)).trans U4.out)
        clear OVR VC HBT
        obtain ⟨rr0, fr, nr, ir, dr, er⟩ := T2.out.rd
        obtain ⟨v0, hr0⟩ : ∃ v, fr c = some v := by
          cases e : fr c with
          | none => exact absurd hc ((dr c).1 e)
          | some v => exact ⟨v, rfl⟩
        obtain ⟨rb, rfl, hrb, hrm⟩ := er c v0 hr0
        have hrm' : RowsM w4 ρ B 3 rb (.row c) (readsOf l c) := hrm
        obtain ⟨gr, gm, rv, ig, hrv, hown, hro, -⟩ := rows_at hrm' vi
        have hne : ∀ (W : World), Upd [b.be] w4 W → W.ownsRow B 3 1 rv (readsOf l c vi).length ((readsOf l c vi).map (.int .i64)) := fun W hW => own_upd hown hW (fun y hy hm => by
          simp at hm
          subst hm
          have := hro _ hy
          rw [HBE.out] at this
          cases this)
        have OR := Lib.hid hne
        obtain ⟨Ar, cr, rfl, _, _⟩ := own_slice hown
        obtain ⟨R, hR⟩ : ∃ R, readsOf l c vi = R := ⟨_, rfl⟩
        have HR := Lib.hid hR
        rw [hR] at OR hown
        obtain ⟨m, hm⟩ : ∃ m, R.length = m := ⟨_, rfl⟩
        have hm60 : m ≤ 60 := by have := readsOf_len l c vi; rw [hR, hm] at this; omega
        have HM := Lib.hid hm
        have k2 : w4.cell? ⟨tb, 2, none⟩ = some (.map (some b.br)) := T2.out.tr.cell 2
        have lr : (Instr.lookup 61 (.map (some b.br)) (.int .u64 c) false).run Tryz.prog w4 = .ok (.map (some rb)) w4 := by
          rw [run_lookup_int' Tryz.underlying61 Tryz.underlying45 (Tryz.zeroValue63 w4) ir c, hr0]
          rfl
        have lr2 : (Instr.lookup 63 (.map (some rb)) (.int .i64 vi) false).run Tryz.prog w4 = .ok (.slice Ar m cr) w4 := by
          rw [run_lookup_int' Tryz.underlying63 Tryz.underlying3 (Tryz.zeroValue26 w4) ig vi, hrv, hR, hm]
        rw [hR, hm] at hrv
        clear hne hown hro hrv ig hrm hrm' hrb hr0 er dr ir hR hm
        go_wp2_with fail
        clear k2 lr lr2
        go_loopw [68] (fun u wq => ∃ j : Nat, u = .int .i64 j ∧ j ≤ m ∧ ∃ S3, Hid (TrSt wq ρ B tb b fv sv (tcOf f n l S3 ld)) ∧ Hid (∀ y, y ∈ S3 ↔ y ∈ S2 ∨ (y.1 ≠ y.2.1 ∧ y.1 = who ∧ y.2.2 = 1 ∧ y.2.1 ∈ R.take j)) ∧ Hid (Upd [b.be] w4 wq)) (fun u _ => m - (intOf u).toNat)
        case atStart => exact ⟨0, rfl, by omega, S2, T2, Lib.hid (fun y => ⟨.inl, fun h => h.elim id (fun ⟨_, _, _, h⟩ => by simp at h)⟩), Lib.hid (.refl _ _)⟩
        case round =>
          obtain ⟨j, rfl, hj, S3, T3, M3, U5⟩ := hrel
          rename World => wq
          have r3 : (0 : Int) ≤ (j : Int) := by omega
          by_cases hjm : j < m
          · obtain ⟨rd, hrd⟩ : ∃ v, R[j]? = some v := ⟨_, List.getElem?_eq_getElem (by rw [HM.out]; omega)⟩
            have hown := OR.out wq U5.out
            rw [HM.out] at hown
            obtain ⟨g, cg, cur, e1, -⟩ := own_form hown (by omega)
            injection e1 with e1 _ e1'
            subst e1 e1'
            have x0 : wq.cell? ⟨g, j, none⟩ = some (.int .i64 rd) := own_cell hown _ _ (by rw [List.getElem?_map, hrd]; rfl)
            have HRD := Lib.hid hrd
            have r4 : (j : Int) < (m : Int) := by omega
            clear hown hrd
            go_wp2_with fail
            refine (t_edge ρ B tb b fv sv (tcOf f n l S3 ld) (who, rd, 1) wq T3.out).mono ?_; rintro e w6 ⟨rfl, S4, t4, m4, u4⟩
            have T4 := Lib.hid t4
            have U6 := Lib.hid (U5.out.trans u4)
            have M4 : Hid (∀ y, y ∈ S4 ↔ y ∈ S2 ∨ (y.1 ≠ y.2.1 ∧ y.1 = who ∧ y.2.2 = 1 ∧ y.2.1 ∈ R.take (j + 1))) := Lib.hid (fun y => by
              rw [m4, List.take_add_one, HRD.out]
              show y ∈ S3 ∨ _ ↔ _
              rw [M3.out]
              simp only [List.mem_append, Option.toList_some, List.mem_singleton]
              constructor
              · rintro ((h | ⟨h1, h2, h3, h4⟩) | ⟨rfl, h⟩)
                · exact .inl h
                · exact .inr ⟨h1, h2, h3, .inl h4⟩
                · exact .inr ⟨h, rfl, rfl, .inr rfl⟩
              · rintro (h | ⟨h1, h2, h3, h4 | h4⟩)
                · exact .inl (.inl h)
                · exact .inl (.inr ⟨h1, h2, h3, h4⟩)
                · obtain ⟨y0, y1, y2⟩ := y
                  simp only at h1 h2 h3 h4
                  subst h2 h3 h4
                  exact .inr ⟨rfl, h1⟩)
            clear t4 m4 u4 x0
            go_wp2_with fail
            go_roundw
            case rel => exact ⟨j + 1, by go_num, by omega, S4, T4, M4, U6⟩
            case measure => simp [intOf]; omega
          · have : j = m := by omega
            subst this
            have M5 : Hid (∀ y, y ∈ S3 ↔ y ∈ S ∨ ∃ p, p < i + 1 ∧ EdA l c vs p y) := Lib.hid (fun y => by
              have hvi' : ∀ hi' : i < vs.length, vs[i] = vi := fun hi' => by have := HVI.out; rw [List.getElem?_eq_getElem hi'] at this; exact Option.some.inj this
              have hil : i < vs.length := by rw [HNV.out]; exact hin
              rw [M3.out, M2.out, M1.out, List.take_of_length_le (by rw [HM.out]; exact Nat.le_refl _)]
              constructor
              · rintro (((h | ⟨p, hp, h⟩) | ⟨h1, h2, h3, hi', h4⟩) | ⟨h1, h2, h3, h4⟩)
                · exact .inl h
                · exact .inr ⟨p, by omega, h⟩
                · exact .inr ⟨i, by omega, hil, h1, by rw [hvi' hil, h2]; exact HWHO.out, .inr ⟨h3, hi', h4⟩⟩
                · exact .inr ⟨i, by omega, hil, h1, by rw [hvi' hil, h2]; exact HWHO.out, .inl ⟨h3, by rw [hvi' hil, HR.out]; exact h4⟩⟩
              · rintro (h | ⟨p, hp, h⟩)
                · exact .inl (.inl (.inl h))
                · rcases Nat.lt_or_ge p i with hpi | hpi
                  · exact .inl (.inl (.inr ⟨p, hpi, h⟩))
                  · obtain rfl : p = i := by omega
                    obtain ⟨hi', h1, h2, h3⟩ := h
                    rw [hvi' hi', HWHO.out] at h2
                    have h2' := Option.some.inj h2
                    rcases h3 with ⟨h3, h4⟩ | ⟨h3, hi2, h4⟩
                    · rw [hvi' hi', HR.out] at h4
                      exact .inr ⟨h1, h2'.symm, h3, h4⟩
                    · exact .inl (.inr ⟨h1, h2'.symm, h3, hi2, h4⟩))
            have U6 := Lib.hid (U4.out.trans U5.out)
            go_wp2_with fail
            go_roundw
            case rel => exact ⟨i + 1, by go_num, by omega, S3, T3, M5, U6⟩
            case measure => simp [intOf]; omega
    · have : i = nv := by omega
      subst this
      have MA : Hid (∀ y, y ∈ S1 ↔ y ∈ S ∨ ∃ j, EdA l c vs j y) := Lib.hid (fun y => by
        rw [M1.out]
        constructor
        · rintro (h | ⟨j, _, h⟩)
          · exact .inl h
          · exact .inr ⟨j, h⟩
        · rintro (h | ⟨j, h⟩)
          · exact .inl h
          · exact .inr ⟨j, by have := h.1; rw [HNV.out] at this; exact this, h⟩)
      have UW : Hid (Upd [b.be] w wr) := Lib.hid ((U2.out.mono (by simp)).trans U3.out)
      have OVR : Hid (∀ W, Upd [b.be] w2 W → W.ownsRow w1.heap.size 3 1 (.slice A i cv) i (flat encK vs)) := Lib.hid (fun W hW => own_upd OV2.out hW (fun y hy hm => by
        simp at hm
        subst hm
        have h1 := (own_lt OV2.out hy).1
        have h2 := HBL.out
        have h3 := U1.out.size
        omega))
      obtain ⟨rr0, fr, nr, ir, dr, er⟩ := T1.out.rd
      obtain ⟨v0, hr0⟩ : ∃ v, fr c = some v := by
        cases e : fr c with
        | none => exact absurd hc ((dr c).1 e)
        | some v => exact ⟨v, rfl⟩
      obtain ⟨rb, rfl, hrb, hrm⟩ := er c v0 hr0
      obtain ⟨gr, gm, ig, hrows⟩ : RowsM wr ρ B 3 rb (.row c) (readsOf l c) := hrm
      obtain ⟨L, w5, hr1, it, hfi, hke, _, u5, hs5⟩ := run_range_int (P := Tryz.prog) (mt := 63) Tryz.underlying63 ig
      have k2 : wr.cell? ⟨tb, 2, none⟩ = some (.map (some b.br)) := T1.out.tr.cell 2
      have lr : (Instr.lookup 61 (.map (some b.br)) (.int .u64 c) false).run Tryz.prog wr = .ok (.map (some rb)) wr := by
        rw [run_lookup_int' Tryz.underlying61 Tryz.underlying45 (Tryz.zeroValue63 wr) ir c, hr0]
        rfl
      have hbeR : ∀ x, x ∈ [b.be] → x ≠ rb := fun x hx e => by
        simp at hx
        rw [← e, hx, HBE.out] at hrb
        cases hrb
      have ROW : Hid (∀ k v, gr k = some v → ∀ W, Upd [b.be] wr W → W.ownsRow B 3 1 v (readsOf l c k).length ((readsOf l c k).map (.int .i64))) := Lib.hid (fun k v hv W hW => by
        rcases hrows k with ⟨h1, _⟩ | ⟨v', h1, h2, h3⟩
        · rw [hv] at h1; cases h1
        · rw [hv] at h1
          cases h1
          refine own_upd h2 hW (fun y hy hm => ?_)
          simp at hm
          subst hm
          have := h3 _ hy
          rw [HBE.out] at this
          cases this)
      have NROW : Hid (∀ k, gr k = none → readsOf l c k = []) := Lib.hid (fun k hk => by
        rcases hrows k with ⟨_, h2⟩ | ⟨v', h1, _⟩
        · exact h2
        · rw [hk] at h1; cases h1)
      have IT := Lib.hid it
      have HFI := Lib.hid hfi
      have HKE := Lib.hid hke
      have U5 := Lib.hid u5
      have T5 := Lib.hid (T1.out.upd0 u5)
      have HRB := Lib.hid hbeR
      have UWR := Lib.hid (Nat.lt_of_lt_of_le HBL.out UW.out.size)
      clear it hfi hke u5 hbeR hrows ig hrb er dr hs5
      go_wp2_with fail
      clear k2 lr hr1 hr0 ir
      obtain ⟨R0, hR0⟩ : ∃ R0, wr.heap.size = R0 := ⟨_, rfl⟩
      rw [hR0] at IT UWR ⊢
      have HR0 := Lib.hid hR0
      clear hR0
      go_loopw [10] (fun _ wq => Hid (∃ rest S2, IIter wq .i64 rb R0 L rest ∧ TrSt wq ρ B tb b fv sv (tcOf f n l S2 ld) ∧ (∀ y, y ∈ S2 ↔ y ∈ S1 ∨ ∃ x, x ∈ L ∧ x ∉ rest ∧ EdB l c x.1 y) ∧ Upd [b.be] wr wq)) (fun _ wq => itLeft rb R0 wq)
      case atStart => exact Lib.hid ⟨L, S1, IT.out, T5.out, fun y => ⟨.inl, fun h => h.elim id (fun ⟨x, h1, h2, _⟩ => absurd h1 h2)⟩, U5.out.mono (by simp)⟩
      case round =>
        obtain ⟨rest, S2, hit, hT2, hM2, hU6⟩ := hrel.out
        rename World => wq
        have HT2 := Lib.hid hT2
        have HM2 := Lib.hid hM2
        have U6 := Lib.hid hU6
        have HLF := Lib.hid hit.left
        have HND := Lib.hid hit.nodup
        clear hrel hT2 hM2 hU6
        rcases run_next_int (P := Tryz.prog) hit 0 with ⟨h0, r2⟩ | ⟨⟨xk, xv, xs⟩, rest', w7, hp, r2, it2, u2, r3⟩
        · subst h0
          clear hit
          go_wp2_with fail
          go_end0
          refine ⟨rfl, S2, HT2.out, fun y => ?_, (UW.out.trans U6.out)⟩
          rw [HM2.out, MA.out, HV.out.edge]
          constructor
          · rintro ((h | h) | ⟨x, h1, _, h2⟩)
            · exact .inl h
            · exact .inr (.inl h)
            · refine .inr (.inr ⟨x.1, fun e => ?_, h2⟩)
              have := h2.2.2.1
              rw [e] at this
              cases this
          · rintro (h | h | ⟨v, h1, h2⟩)
            · exact .inl (.inl h)
            · exact .inl (.inr h)
            · refine .inr ?_
              have hg : (gr v).isSome = true := by
                cases e : gr v with
                | none => exact absurd (NROW.out v e) h1
                | some _ => rfl
              rw [HFI.out] at hg
              obtain ⟨x, hx, rfl⟩ := List.mem_map.1 (findI_some.1 hg)
              exact ⟨x, hx, by simp, h2⟩
        · have hxL : (xk, xv, xs) ∈ L := (HND.out.2 _ (hp.mem_iff.1 (List.mem_cons_self ..)))
          have hgx : gr xk = some xv := by rw [HFI.out]; exact findI_mem HKE.out hxL
          have hR2 : w2.heap.size ≤ R0 := by rw [← HR0.out]; exact U3.out.size
          have U7 : Hid (Upd [b.be] wr w7) := Lib.hid (U6.out.trans' u2 (by intro y hy; simp at hy; subst hy; exact .inr (by rw [HR0.out]; exact Nat.le_refl _)))
          have T7 : Hid (TrSt w7 ρ B tb b fv sv (tcOf f n l S2 ld)) := Lib.hid (HT2.out.fr (UpdP.of_upd (O := fun y => y = R0) u2 (by intro y hy; simp at hy; exact .inl hy)) (Agr.refl _ _) HT2.out.hi (fun y hy => .inl (by rw [hy]; exact HNEW.out _ (by have := U2.out.size; omega))))
          have IT2 := Lib.hid it2
          have HP := Lib.hid hp
          have HGX := Lib.hid hgx
          have HXL := Lib.hid hxL
          clear hit hp it2 u2 hgx hxL
          go_wp2_with fail
          have U27 : Hid (Upd [b.be] w2 w7) := Lib.hid (U3.out.trans U7.out)
          have OB : Ow encK 3 w7 w1.heap.size (.slice A i cv) vs := by
            unfold Ow
            rw [HNV.out]
            exact OVR.out w7 U27.out
          refine (bin_ok w1.heap.size vs (.slice A i cv) xk w7 OB HV.out.rise (by rw [HNV.out]; omega)).mono ?_; rintro e w8 ⟨ip, fb, rfl, hip, hlo, hhi, hfb, u8⟩
          rw [HNV.out] at hip
          have HLO := Lib.hid hlo
          have HHI := Lib.hid hhi
          have HFB := Lib.hid hfb
          have U8 := Lib.hid u8
          clear OB hlo hhi hfb u8
          go_upto_if 96 with fail
          go_cut [12] from 97 to 98 (fun v wx => ∃ p : Nat, v = .int .i64 p ∧ p ≤ i ∧ Hid (∀ j (hj : j < vs.length), j < p → vs[j] ≤ xk) ∧ Hid (∀ j (hj : j < vs.length), p ≤ j → xk < vs[j]) ∧ w8 = wx)
          case first =>
            have gd : ∀ j (hj : j < vs.length), vs.getD j 0 = vs[j] := fun j hj => by rw [List.getD_eq_getElem?_getD, List.getElem?_eq_getElem hj]; rfl
            cases fb with
            | true =>
              obtain ⟨f1, f2⟩ := HFB.out.1 rfl
              have P1 : Hid (∀ j (hj : j < vs.length), j < ip + 1 → vs[j] ≤ xk) := Lib.hid (fun j hj hlt => by
                rcases Nat.lt_or_ge j ip with h | h
                · have := HLO.out j h; rw [gd j hj] at this; omega
                · obtain rfl : j = ip := by omega
                  rw [← gd j hj, f2]; exact Int.le_refl _)
              have P2 : Hid (∀ j (hj : j < vs.length), ip + 1 ≤ j → xk < vs[j]) := Lib.hid (fun j hj hge => by
                have h1 := HV.out.lt (i := ip) (j := j) (by omega) hj
                rw [gd ip f1] at f2
                omega)
              have hi2 : ip + 1 ≤ i := by rw [HNV.out] at f1; omega
              clear f1 f2 gd
              go_wp2_with fail
              go_meet
              exact ⟨ip + 1, by go_num, hi2, P1, P2, by first | rfl | trivial⟩
            | false =>
              have P1 : Hid (∀ j (hj : j < vs.length), j < ip → vs[j] ≤ xk) := Lib.hid (fun j hj hlt => by
                have := HLO.out j hlt; rw [gd j hj] at this; omega)
              have P2 : Hid (∀ j (hj : j < vs.length), ip ≤ j → xk < vs[j]) := Lib.hid (fun j hj hge => by
                have h1 := HHI.out j hge hj
                rw [gd j hj] at h1
                have hne : vs[j] ≠ xk := fun e => by
                  have h2 : ip < vs.length := by omega
                  have h3 := HHI.out ip (Nat.le_refl _) h2
                  rw [gd ip h2] at h3
                  have h4 := HV.out.le hge hj
                  have : false = true := HFB.out.2 ⟨h2, by rw [gd ip h2]; omega⟩
                  cases this
                omega)
              clear gd
              go_wp2_with fail
              go_meet
              exact ⟨ip, rfl, hip, P1, P2, by first | rfl | trivial⟩
          case rest =>
            obtain ⟨p, rfl, hp, P1, P2, rfl⟩ := hcut
            have T8 := Lib.hid (T7.out.upd0 U8.out)
            have U9 : Hid (Upd [b.be] wr w8) := Lib.hid (U7.out.trans (U8.out.mono (by simp)))
            have IT8 := Lib.hid (IT2.out.upd U8.out (by simp) (by simp))
            have HLL : Hid (itLeft rb R0 w8 < itLeft rb R0 wq) := Lib.hid (by rw [IT8.out.left, HLF.out, ← HP.out.length_eq]; simp)
            have HGO : Hid (∀ z : IEnt, z ∉ rest' ↔ z ∉ rest ∨ z = (xk, xv, xs)) := Lib.hid (gone_step HP.out HND.out.1)
            by_cases hpi : p = i
            · subst hpi
              have M8 : Hid (∀ y, y ∈ S2 ↔ y ∈ S1 ∨ ∃ x, x ∈ L ∧ x ∉ rest' ∧ EdB l c x.1 y) := Lib.hid (fun y => by
                rw [HM2.out]
                constructor
                · rintro (h | ⟨x, h1, h2, h3⟩)
                  · exact .inl h
                  · exact .inr ⟨x, h1, (HGO.out x).2 (.inl h2), h3⟩
                · rintro (h | ⟨x, h1, h2, h3⟩)
                  · exact .inl h
                  · rcases (HGO.out x).1 h2 with h4 | rfl
                    · exact .inr ⟨x, h1, h4, h3⟩
                    · obtain ⟨_, _, _, v', h5, _⟩ := h3
                      obtain ⟨hh, _⟩ := (HV.out.succ P1.out P2.out v').1 h5
                      rw [HNV.out] at hh
                      omega)
              have HREL : Hid (∃ rest S2, IIter w8 .i64 rb R0 L rest ∧ TrSt w8 ρ B tb b fv sv (tcOf f n l S2 ld) ∧ (∀ y, y ∈ S2 ↔ y ∈ S1 ∨ ∃ x, x ∈ L ∧ x ∉ rest ∧ EdB l c x.1 y) ∧ Upd [b.be] wr w8) := Lib.hid ⟨rest', S2, IT8.out, T8.out, M8.out, U9.out⟩
              go_wp2_with fail
              go_roundw
              case rel => exact HREL
              case measure => exact HLL.out
            · have hpl : p < i := by omega
              have hpd : ((p : Int) == (i : Int)) = false := by simp; omega
              obtain ⟨vj, hvj⟩ : ∃ v, vs[p]? = some v := ⟨_, List.getElem?_eq_getElem (by rw [HNV.out]; exact hpl)⟩
              obtain ⟨whj, hwhj⟩ := Option.isSome_iff_exists.1 ((HV.out.mem vj).1 (List.mem_of_getElem? hvj))
              obtain ⟨g, cg, cur, e1, -⟩ := own_form OV2.out (by omega)
              injection e1 with e1 _ e1'
              subst e1 e1'
              have VC : Hid (∀ W, Upd [b.be] w2 W → W.cell? ⟨g, p, none⟩ = some (.int .i64 vj)) := Lib.hid (fun W hW => by
                have h1 := own_cell (OVR.out W hW) _ _ ((flat_get (E := encK) hvj (j := 0) (by decide)).trans rfl)
                rwa [show p * encK.s + 0 = p by simp [encI]] at h1)
              have HVJ := Lib.hid hvj
              have HWJ := Lib.hid hwhj
              have OR : Hid (∀ W, Upd [b.be] w8 W → W.ownsRow B 3 1 xv (readsOf l c xk).length ((readsOf l c xk).map (.int .i64))) := Lib.hid (fun W hW => ROW.out xk xv HGX.out W (U9.out.trans hW))
              obtain ⟨Ar, cr, rfl, _, _⟩ := own_slice (OR.out w8 (.refl _ _))
              obtain ⟨R, hR⟩ : ∃ R, readsOf l c xk = R := ⟨_, rfl⟩
              have HR := Lib.hid hR
              rw [hR] at OR HGX HP HXL HGO ⊢
              obtain ⟨m, hm⟩ : ∃ m, R.length = m := ⟨_, rfl⟩
              have hm60 : m ≤ 60 := by have := readsOf_len l c xk; rw [hR, hm] at this; omega
              have HM := Lib.hid hm
              rw [hm] at HGX HP HXL HGO ⊢
              have q8 : (p : Int) < (i : Int) := by omega
              have q9 : (0 : Int) ≤ (p : Int) := by omega
              clear hvj hwhj hR hm
              go_wp2_with fail
              go_loopw [105] (fun u wz => ∃ j : Nat, u = .int .i64 j ∧ j ≤ m ∧ ∃ S3, Hid (TrSt wz ρ B tb b fv sv (tcOf f n l S3 ld)) ∧ Hid (∀ y, y ∈ S3 ↔ y ∈ S2 ∨ (y.1 ≠ y.2.1 ∧ y.2.1 = whj ∧ y.2.2 = 3 ∧ y.1 ∈ R.take j)) ∧ Hid (Upd [b.be] w8 wz)) (fun u _ => m - (intOf u).toNat)
              case atStart => exact ⟨0, rfl, by omega, S2, T8, Lib.hid (fun y => ⟨.inl, fun h => h.elim id (fun ⟨_, _, _, h⟩ => by simp at h)⟩), Lib.hid (.refl _ _)⟩
              case round =>
                obtain ⟨j, rfl, hj, S3, T3, M3, UZ⟩ := hrel
                rename World => wz
                have r3 : (0 : Int) ≤ (j : Int) := by omega
                by_cases hjm : j < m
                · obtain ⟨rd, hrd⟩ : ∃ v, R[j]? = some v := ⟨_, List.getElem?_eq_getElem (by rw [HM.out]; omega)⟩
                  have hown := OR.out wz UZ.out
                  rw [HM.out] at hown
                  obtain ⟨g2, cg2, cur2, e1, -⟩ := own_form hown (by omega)
                  injection e1 with e1 _ e1'
                  subst e1 e1'
                  have x0 : wz.cell? ⟨g2, j, none⟩ = some (.int .i64 rd) := own_cell hown _ _ (by rw [List.getElem?_map, hrd]; rfl)
                  have HRD := Lib.hid hrd
                  have r4 : (j : Int) < (m : Int) := by omega
                  have UZW : Hid (Upd [b.be] w wz) := Lib.hid (UW.out.trans (U9.out.trans UZ.out))
                  have CF : Hid (∀ W, Upd [] wz.drew W → (W.cell? ⟨tb, 1, none⟩ = some (.map (some b.bw)) ∧ W.cell? ⟨g, p, none⟩ = some (.int .i64 vj)) ∧ (Instr.lookup 60 (.map (some b.bw)) (.int .u64 c) false).run Tryz.prog W = .ok (.map (some wb)) W ∧ (Instr.lookup 59 (.map (some wb)) (.int .i64 vj) false).run Tryz.prog W = .ok (.int .i64 whj) W) := Lib.hid (fun W hW => by
                    have hu : Upd [] wz W := (Upd.refl [] wz).drew.trans hW
                    have hu' : Upd [b.be] wz W := hu.mono (by simp)
                    have hlb := LB.out W vj (UZW.out.trans hu')
                    rw [HWJ.out] at hlb
                    exact ⟨⟨(T3.out.tr.upd hu (by simp)).cell 1, VC.out W (((U3.out.trans U9.out).trans UZ.out).trans hu')⟩, LK.out W (UZW.out.trans hu'), hlb⟩)
                  clear hown hrd
                  go_wp2_with fail
                  refine wp_invNT 13 [] [] (by kernel_rfl) (by simp) (by kernel_rfl) (by kernel_rfl) trivial ?_
                  simp only [List.take_succ_cons, List.take_zero, List.drop_succ_cons, List.drop_zero]
                  with_reducible apply wpV_light
                  · simp only [lightOp]
                  · intro W hU hF
                    have f0 := CF.out W hU
                    clear hU hF
                    go_simp
                    exact rfl
                  simp only [Act.put, List.setIfInBounds_toArray, List.set_cons_zero, List.set_cons_succ]
                  with_reducible apply wpV_light
                  · simp only [lightOp]
                  · intro W hU hF
                    have f0 := CF.out W hU
                    clear hU hF
                    go_simp
                    exact rfl
                  simp only [Act.put, List.setIfInBounds_toArray, List.set_cons_zero, List.set_cons_succ]
                  with_reducible apply wpV_light
                  · simp only [lightOp]
                  · intro W hU hF
                    have f0 := CF.out W hU
                    clear hU hF
                    go_simp
                    exact rfl
                  simp only [Act.put, List.setIfInBounds_toArray, List.set_cons_zero, List.set_cons_succ]
                  with_reducible apply wpV_light
                  · simp only [lightOp]
                  · intro W hU hF
                    have f0 := CF.out W hU
                    clear hU hF
                    go_simp
                    exact rfl
                  simp only [Act.put, List.setIfInBounds_toArray, List.set_cons_zero, List.set_cons_succ]
                  with_reducible apply wpV_light
                  · simp only [lightOp]
                  · intro W hU hF
                    have f0 := CF.out W hU
                    clear hU hF
                    go_simp
                    exact rfl
                  simp only [Act.put, List.setIfInBounds_toArray, List.set_cons_zero, List.set_cons_succ]
                  with_reducible apply wpV_light
                  · simp only [lightOp]
                  · intro W hU hF
                    have f0 := CF.out W hU
                    clear hU hF
                    go_simp
                    exact rfl
                  simp only [Act.put, List.setIfInBounds_toArray, List.set_cons_zero, List.set_cons_succ]
                  with_reducible apply wpV_light
                  · simp only [lightOp]
                  · intro W hU hF
                    have f0 := CF.out W hU
                    clear hU hF
                    go_simp
                    exact rfl
                  simp only [Act.put, List.setIfInBounds_toArray, List.set_cons_zero, List.set_cons_succ]
                  with_reducible apply wpV_light
                  · simp only [lightOp]
                  · intro W hU hF
                    have f0 := CF.out W hU
                    clear hU hF
                    go_simp
                    exact rfl
                  simp only [Act.put, List.setIfInBounds_toArray, List.set_cons_zero, List.set_cons_succ]
                  with_reducible apply wpV_light
                  · simp only [lightOp]
                  · intro W hU hF
                    have f0 := CF.out W hU
                    clear hU hF
                    go_simp
                    exact rfl
                  simp only [Act.put, List.setIfInBounds_toArray, List.set_cons_zero, List.set_cons_succ]
                  with_reducible apply wpV_light
                  · simp only [lightOp]
                  · intro W hU hF
                    have f0 := CF.out W hU
                    clear hU hF
                    go_simp
                    exact rfl
                  simp only [Act.put, List.setIfInBounds_toArray, List.set_cons_zero, List.set_cons_succ]
                  with_reducible apply wpV_light
                  · simp only [lightOp]
                  · intro W hU hF
                    have f0 := CF.out W hU
                    clear hU hF
                    go_simp
                    exact rfl
                  simp only [Act.put, List.setIfInBounds_toArray, List.set_cons_zero, List.set_cons_succ]
                  with_reducible apply wpV_light
                  · simp only [lightOp]
                  · intro W hU hF
                    have f0 := CF.out W hU
                    clear hU hF
                    go_simp
                    exact rfl
                  simp only [Act.put, List.setIfInBounds_toArray, List.set_cons_zero, List.set_cons_succ]
                  with_reducible apply wpV_light
                  · simp only [lightOp]
                  · intro W hU hF
                    have f0 := CF.out W hU
                    clear hU hF
                    go_simp
                    exact rfl
                  simp only [Act.put, List.setIfInBounds_toArray, List.set_cons_zero, List.set_cons_succ]
                  refine wpV_end (fun W hU _ _ => ?_)
                  have UV : Hid (Upd [] wz W) := Lib.hid ((Upd.refl [] wz).drew.trans hU)
                  clear hU CF x0
                  refine wpT_op (by rfl) (fun K hK => ?_)
                  go_wp2_with fail
                  refine (t_edge ρ B tb b fv sv (tcOf f n l S3 ld) (rd, whj, 3) W (T3.out.upd0 UV.out)).mono ?_; rintro e w6 ⟨rfl, S4, t4, m4, u4⟩
                  have T4 := Lib.hid t4
                  have UY := Lib.hid (UZ.out.trans ((UV.out.mono (by simp)).trans u4))
                  have M4 : Hid (∀ y, y ∈ S4 ↔ y ∈ S2 ∨ (y.1 ≠ y.2.1 ∧ y.2.1 = whj ∧ y.2.2 = 3 ∧ y.1 ∈ R.take (j + 1))) := Lib.hid (fun y => by
                    rw [m4, List.take_add_one, HRD.out]
                    show y ∈ S3 ∨ _ ↔ _
                    rw [M3.out]
                    simp only [List.mem_append, Option.toList_some, List.mem_singleton]
                    constructor
                    · rintro ((h | ⟨h1, h2, h3, h4⟩) | ⟨rfl, h⟩)
                      · exact .inl h
                      · exact .inr ⟨h1, h2, h3, .inl h4⟩
                      · exact .inr ⟨h, rfl, rfl, .inr rfl⟩
                    · rintro (h | ⟨h1, h2, h3, h4 | h4⟩)
                      · exact .inl (.inl h)
                      · exact .inl (.inr ⟨h1, h2, h3, h4⟩)
                      · obtain ⟨y0, y1, y2⟩ := y
                        simp only at h1 h2 h3 h4
                        subst h2 h3 h4
                        exact .inr ⟨rfl, h1⟩)
                  clear t4 m4 u4
                  go_wp2_with fail
                  refine hK.out _ _ ?_
                  clear hK K
                  refine wpT_end ?_
                  go_wp2_with fail
                  go_roundw
                  case rel => exact ⟨j + 1, by go_num, by omega, S4, T4, M4, UY⟩
                  case measure => simp [intOf]; omega
                · have : j = m := by omega
                  subst this
                  have M8 : Hid (∀ y, y ∈ S3 ↔ y ∈ S1 ∨ ∃ x, x ∈ L ∧ x ∉ rest' ∧ EdB l c x.1 y) := Lib.hid (fun y => by
                    have hpl' : p < vs.length := by rw [HNV.out]; exact hpl
                    have hvp : vs[p] = vj := by have := HVJ.out; rw [List.getElem?_eq_getElem hpl'] at this; exact Option.some.inj this
                    rw [M3.out, HM2.out, List.take_of_length_le (by rw [HM.out]; exact Nat.le_refl _)]
                    constructor
                    · rintro ((h | ⟨x, h1, h2, h3⟩) | ⟨h1, h2, h3, h4⟩)
                      · exact .inl h
                      · exact .inr ⟨x, h1, (HGO.out x).2 (.inl h2), h3⟩
                      · exact .inr ⟨_, HXL.out, (HGO.out _).2 (.inr rfl), h1, h3, by rw [HR.out]; exact h4, vj, (HV.out.succ P1.out P2.out vj).2 ⟨hpl', hvp.symm⟩, by rw [HWJ.out, h2]⟩
                    · rintro (h | ⟨x, h1, h2, h3⟩)
                      · exact .inl (.inl h)
                      · rcases (HGO.out x).1 h2 with h4 | rfl
                        · exact .inl (.inr ⟨x, h1, h4, h3⟩)
                        · obtain ⟨g1, g2, g3, v', g4, g5⟩ := h3
                          obtain ⟨_, hv'⟩ := (HV.out.succ P1.out P2.out v').1 g4
                          rw [hv', hvp, HWJ.out] at g5
                          rw [HR.out] at g3
                          exact .inr ⟨g1, (Option.some.inj g5).symm, g2, g3⟩)
                  have ITZ := Lib.hid (IT8.out.upd UZ.out (fun hm => HRB.out _ hm rfl) (fun hm => by simp at hm; have := UWR.out; omega))
                  have HLL2 : Hid (itLeft rb R0 wz < itLeft rb R0 wq) := Lib.hid (by rw [ITZ.out.left, HLF.out, ← HP.out.length_eq]; simp)
                  have HREL : Hid (∃ rest S2, IIter wz .i64 rb R0 L rest ∧ TrSt wz ρ B tb b fv sv (tcOf f n l S2 ld) ∧ (∀ y, y ∈ S2 ↔ y ∈ S1 ∨ ∃ x, x ∈ L ∧ x ∉ rest ∧ EdB l c x.1 y) ∧ Upd [b.be] wr wz) := Lib.hid ⟨rest', S3, ITZ.out, T3.out, M8.out, U9.out.trans UZ.out⟩
                  go_wp2_with fail
                  go_roundw
                  case rel => exact HREL
                  case measure => exact HLL2.out
end Go.Proofs.YteddiknlcdbhjaaGreat

namespace Go.Proofs.YteddiknlcdbhjaaGreat.TrP

def addP (out : List (Int × Int)) (p : Int × Int) : List (Int × Int) := if p ∈ out then out else out ++ [p]
def pairsL (es : List Ed) : List (Int × Int) := es.foldl (fun out e => addP out (e.1, e.2.1)) []
/-- Who stands behind one. -/
def ldP (ps : List (Int × Int)) (a : Int) : List Int := (ps.filter (fun p => decide (p.1 = a))).map (·.2)
/-- How many stand ahead of one. -/
def cntP (ps : List (Int × Int)) (b : Int) : Nat := (ps.filter (fun p => decide (p.2 = b))).length
/-- How often a pair came. -/
def metN (es : List Ed) (p : Int × Int) : Nat := (es.filter (fun e => decide ((e.1, e.2.1) = p))).length
theorem mem_addP {out : List (Int × Int)} {p q : Int × Int} : q ∈ addP out p ↔ q ∈ out ∨ q = p := by
  unfold addP
  split
  · rename_i h
    exact ⟨.inl, fun hq => hq.elim id (fun e => e ▸ h)⟩
  · simp
theorem pairsL_snoc (es : List Ed) (e : Ed) : pairsL (es ++ [e]) = addP (pairsL es) (e.1, e.2.1) := by simp [pairsL]
theorem fold_mem : ∀ (es : List Ed) (out : List (Int × Int)) (p : Int × Int), p ∈ es.foldl (fun out e => addP out (e.1, e.2.1)) out ↔ p ∈ out ∨ ∃ e ∈ es, (e.1, e.2.1) = p
  | [], out, p => by simp
  | e :: es, out, p => by
    rw [List.foldl_cons, fold_mem es, mem_addP]
    constructor
    · rintro ((h | h) | ⟨x, hx, h⟩)
      · exact .inl h
      · exact .inr ⟨e, by simp, h.symm⟩
      · exact .inr ⟨x, by simp [hx], h⟩
    · rintro (h | ⟨x, hx, h⟩)
      · exact .inl (.inl h)
      · rcases List.mem_cons.1 hx with rfl | hx
        · exact .inl (.inr h.symm)
        · exact .inr ⟨x, hx, h⟩
theorem mem_pairsL {es : List Ed} {p : Int × Int} : p ∈ pairsL es ↔ ∃ e ∈ es, (e.1, e.2.1) = p := by
  unfold pairsL
  rw [fold_mem]
  simp
theorem pairs_leads {g : List Ed} {a b : Int} : (a, b) ∈ pairsL g ↔ leadsB g a b = true := by
  rw [mem_pairsL, leadsB_iff]
  constructor
  · rintro ⟨e, he, h⟩
    cases h
    exact ⟨e, he, rfl, rfl⟩
  · rintro ⟨e, he, rfl, rfl⟩
    exact ⟨e, he, rfl⟩
theorem metN_snoc (es : List Ed) (e : Ed) (p : Int × Int) : metN (es ++ [e]) p = if p = (e.1, e.2.1) then metN es p + 1 else metN es p := by
  unfold metN
  rw [List.filter_append, List.length_append]
  by_cases h : p = (e.1, e.2.1)
  · subst h; simp
  · rw [if_neg h]
    have : ¬ (e.1, e.2.1) = p := fun g => h g.symm
    simp [this]
theorem metN_le (es : List Ed) (p : Int × Int) : metN es p ≤ es.length := List.length_filter_le _ _
theorem metN_zero {es : List Ed} {p : Int × Int} : metN es p = 0 ↔ p ∉ pairsL es := by
  unfold metN
  rw [List.length_eq_zero_iff, List.filter_eq_nil_iff, mem_pairsL]
  constructor
  · rintro h ⟨e, he, g⟩
    exact h e he (by simp [g])
  · intro h e he hd
    exact h ⟨e, he, by simpa using hd⟩
def ltPr (p q : Int × Int) : Prop := p.1 < q.1 ∨ p.1 = q.1 ∧ p.2 < q.2
theorem fold_rise : ∀ (es : List Ed) (out : List (Int × Int)), out.Pairwise ltPr → (∀ p ∈ out, ∀ e ∈ es, ltPr p (e.1, e.2.1) ∨ p = (e.1, e.2.1)) → RiseE es → (es.foldl (fun out e => addP out (e.1, e.2.1)) out).Pairwise ltPr
  | [], out, h, _, _ => h
  | e :: es, out, h, hle, hr => by
    rw [List.foldl_cons]
    have hr' := List.pairwise_cons.1 hr
    refine fold_rise es _ ?_ ?_ hr'.2
    · unfold addP
      split
      · exact h
      · rename_i hn
        rw [List.pairwise_append]
        refine ⟨h, by simp, fun p hp q hq => ?_⟩
        simp at hq
        subst hq
        rcases hle p hp e (by simp) with g | g
        · exact g
        · exact absurd (g ▸ hp) hn
    · intro p hp x hx
      rcases mem_addP.1 hp with hp | rfl
      · exact hle p hp x (by simp [hx])
      · have := hr'.1 x hx
        obtain ⟨e0, e1, e2⟩ := e
        obtain ⟨x0, x1, x2⟩ := x
        simp [ltE, ltPr] at this ⊢
        omega
theorem pairsL_rise {es : List Ed} (h : RiseE es) : (pairsL es).Pairwise ltPr := fold_rise es [] (by simp) (by simp) h
theorem ltPr_ne {p q : Int × Int} (h : ltPr p q) : p ≠ q := by
  rintro rfl
  unfold ltPr at h
  omega
section
variable {g : List Ed} {all : List Int}
theorem ld_succ (hg : GOk g all) (hr : RiseE g) (a : Int) : ldP (pairsL g) a = succL g all a := by
  refine riseI_uniq ?_ (hg.rise.sublist List.filter_sublist) (fun b => ?_)
  · unfold ldP
    refine List.pairwise_map.2 ?_
    have h1 := (pairsL_rise hr).sublist (List.filter_sublist (p := fun p => decide (p.1 = a)))
    refine List.Pairwise.imp_of_mem (fun {p q} hp hq h => ?_) h1
    have h2 := (List.mem_filter.1 hp).2
    have h3 := (List.mem_filter.1 hq).2
    simp at h2 h3
    unfold ltPr at h
    omega
  · rw [mem_succL]
    unfold ldP
    rw [List.mem_map]
    constructor
    · rintro ⟨⟨p0, p1⟩, hp, rfl⟩
      obtain ⟨h1, h2⟩ := List.mem_filter.1 hp
      simp at h2
      subst h2
      have := pairs_leads.1 h1
      exact ⟨(hg.memL this).2, this⟩
    · rintro ⟨h1, h2⟩
      exact ⟨(a, b), List.mem_filter.2 ⟨pairs_leads.2 h2, by simp⟩, rfl⟩
theorem cnt_remain (hg : GOk g all) (hr : RiseE g) (b : Int) : cntP (pairsL g) b = remain g all [] b := by
  have hp : (((pairsL g).filter (fun p => decide (p.2 = b))).map (·.1)).Perm (all.filter (fun k => !([] : List Int).contains k && leadsB g k b)) := by
    refine (List.perm_ext_iff_of_nodup ?_ ((hg.rise.nodup).sublist List.filter_sublist)).2 fun k => ?_
    · refine List.pairwise_map.2 ?_
      have h1 := (pairsL_rise hr).sublist (List.filter_sublist (p := fun p => decide (p.2 = b)))
      refine List.Pairwise.imp_of_mem (fun {p q} hp hq h => ?_) h1
      have h2 := (List.mem_filter.1 hp).2
      have h3 := (List.mem_filter.1 hq).2
      simp at h2 h3
      unfold ltPr at h
      omega
    · rw [List.mem_map, List.mem_filter]
      constructor
      · rintro ⟨⟨p0, p1⟩, hp, rfl⟩
        obtain ⟨h1, h2⟩ := List.mem_filter.1 hp
        simp at h2
        subst h2
        have := pairs_leads.1 h1
        exact ⟨(hg.memL this).1, by simpa using this⟩
      · rintro ⟨h1, h2⟩
        exact ⟨(k, b), List.mem_filter.2 ⟨pairs_leads.2 (by simpa using h2), by simp⟩, rfl⟩
  have := hp.length_eq
  rw [List.length_map] at this
  exact this
end
theorem ldP_add {ps : List (Int × Int)} {a b : Int} (h : (a, b) ∉ ps) (x : Int) : ldP (addP ps (a, b)) x = if x = a then ldP ps x ++ [b] else ldP ps x := by
  unfold addP ldP
  rw [if_neg h, List.filter_append, List.map_append]
  by_cases e : x = a
  · subst e; simp
  · rw [if_neg e]
    have : ¬ a = x := fun g => e g.symm
    simp [this]
theorem cntP_add {ps : List (Int × Int)} {a b : Int} (h : (a, b) ∉ ps) (x : Int) : cntP (addP ps (a, b)) x = if x = b then cntP ps x + 1 else cntP ps x := by
  unfold addP cntP
  rw [if_neg h, List.filter_append, List.length_append]
  by_cases e : x = b
  · subst e; simp
  · rw [if_neg e]
    have : ¬ b = x := fun g => e g.symm
    simp [this]
theorem pairsL_len (es : List Ed) : (pairsL es).length ≤ es.length := by
  have key : ∀ (es : List Ed) (out : List (Int × Int)), (es.foldl (fun out e => addP out (e.1, e.2.1)) out).length ≤ out.length + es.length := by
    intro es
    induction es with
    | nil => intro out; simp
    | cons e es ih =>
      intro out
      rw [List.foldl_cons]
      refine Nat.le_trans (ih _) ?_
      unfold addP
      split <;> simp <;> omega
  have := key es []
  rw [List.length_nil, Nat.zero_add] at this
  exact this
theorem ldP_len (ps : List (Int × Int)) (a : Int) : (ldP ps a).length ≤ ps.length := by
  unfold ldP
  rw [List.length_map]
  exact List.length_filter_le _ _
theorem cntP_len (ps : List (Int × Int)) (a : Int) : cntP ps a ≤ ps.length := List.length_filter_le _ _
end Go.Proofs.YteddiknlcdbhjaaGreat.TrP

namespace Go.Proofs.YteddiknlcdbhjaaGreat.Vk
open Go Go.RowKit TrP
attribute [local go_sem] litStep_value run_makeMap_plain

def metF (es : List Ed) (p : Int × Int) : Option Value := if metN es p = 0 then none else some (.int .i64 (metN es p))
def cntQ (l : List Ev) (es : List Ed) : Int → Option Int := fun t => if t ∈ l.map (·.txn) then some (cntP (pairsL es) t : Int) else none
/-- Who stands behind whom has turned. -/
theorem _root_.Go.Proofs.YteddiknlcdbhjaaGreat.TrSt.setLd {w W : World} {ρ ρ' : Rho} {B tb : Nat} {b : TB} {fv sv : Value} {T : TC} {O : Nat → Prop} (h : TrSt w ρ B tb b fv sv T) (hu : UpdP O w W) (ha : Agr w ρ ρ') (hhi : ∀ x, ρ' x ≠ .other → B ≤ x) (ho : ∀ x, O x → ρ x = .leads ∨ ∃ k, ρ x = .lead k) {g : Int → List Int} (im : RowsM W ρ' B 3 b.bl .lead g) : TrSt W ρ' B tb b fv sv { T with ld := g } := by
  have ho' : ∀ (r : Ro), r ≠ .leads → (∀ k, r ≠ .lead k) → ∀ x, O x → ρ x ≠ r := fun r h1 h2 x hx e => by
    rcases ho x hx with g | ⟨k, g⟩
    · exact h1 (e.symm.trans g)
    · exact h2 k (e.symm.trans g)
  exact { tr := h.tr.updP hu (fun e => ho' .tr (by simp) (by simp) _ e h.rt), rt := (ha _ h.tr.lt).trans h.rt, tx := h.tx.fr hu ha (ho' _ (by simp) (by simp)), wr := h.wr.fr hu ha (fun x hx => ⟨ho' _ (by simp) (by simp) x hx, fun c => ho' _ (by simp) (by simp) x hx⟩), rd := h.rd.fr hu ha (fun x hx => ⟨ho' _ (by simp) (by simp) x hx, fun c => ho' _ (by simp) (by simp) x hx, fun c k => ho' _ (by simp) (by simp) x hx⟩), ed := h.ed.fr hu ha (ho' _ (by simp) (by simp)), ld := ⟨(ha _ h.ld.2.lt).trans h.ld.1, im⟩, hi := hhi }
theorem cntQ_next {l : List Ev} {es : List Ed} {a b c : Int} (h : (a, b) ∉ pairsL es) (hb : b ∈ l.map (·.txn)) (k : Int) : putI (fun k => (cntQ l es k).map (Value.int .i64)) b (.int .i64 ((cntP (pairsL es) b : Nat) + 1 : Int)) k = (cntQ l (es ++ [(a, b, c)]) k).map (Value.int .i64) := by
  unfold putI cntQ
  rw [pairsL_snoc, cntP_add h]
  by_cases e : k = b
  · subst e; rw [if_pos rfl, if_pos hb, if_pos rfl]; simp
  · rw [if_neg e, if_neg e]
def PairsPost (ρ : Rho) (B tb : Nat) (b : TB) (fv sv : Value) (l : List Ev) (cn : Nat) (S : List Ed) (w : World) (e : Ending) (w' : World) : Prop := e = .returned (.tuple #[]) ∧ ∃ ρ', Tw ρ ρ' w w' ∧ TrSt w' ρ' B tb b fv sv (tcOf (cntQ l (graphR l)) cn l S (ldP (pairsL (graphR l))))
set_option maxRecDepth 100000 in
set_option maxHeartbeats 4000000 in
theorem t_pairs (ρ : Rho) (B tb : Nat) (b : TB) (fv sv : Value) (l : List Ev) (cn : Nat) (S : List Ed) (w : World) (h : TrSt w ρ B tb b fv sv (tcOf (cntOf l) cn l S (fun _ => []))) (hS : ∀ x, x ∈ S ↔ x ∈ graphR l) (hl : (graphR l).length ≤ 1000) (hto : ∀ e ∈ graphR l, e.2.1 ∈ l.map (·.txn)) (hnew : ∀ x, w.heap.size ≤ x → ρ x = .other) :
    Calls Tryz.prog 22 #[.pointer (some ⟨tb, 0, none⟩)] w fun e w' => PairsPost ρ B tb b fv sv l cn S w e w' := by
  obtain ⟨g, hg⟩ : ∃ g, graphR l = g := ⟨_, rfl⟩
  have HG := Lib.hid hg
  have hrise : RiseE g := by rw [← hg]; exact (graphR_rise l).1
  rw [hg] at hl hto hS
  have HR := Lib.hid hrise
  have HTO := Lib.hid hto
  have HS := Lib.hid hS
  have HNEW := Lib.hid hnew
  have hBw : B ≤ w.heap.size := Nat.le_trans (h.hi tb (by rw [h.rt]; simp)) (Nat.le_of_lt h.tr.lt)
  have HB := Lib.hid hBw
  obtain ⟨mb, hmb⟩ : ∃ mb, w.heap.size = mb := ⟨_, rfl⟩
  have HMB := Lib.hid hmb
  obtain ⟨ρ1, hρ1⟩ : ∃ ρ1, setR ρ mb .aux = ρ1 := ⟨_, rfl⟩
  have H1 : Hid (TrSt (w.alloc (.map #[] 0)) ρ1 B tb b fv sv (tcOf (cntOf l) cn l S (fun _ => []))) := Lib.hid (h.fr (O := fun _ => False) (UpdP.of_upd ((Upd.refl [] w).alloc _) (by simp)) (by rw [← hρ1, ← hmb]; exact Agr.set (Nat.le_refl _) _) (fun x hx => by
    rw [← hρ1] at hx
    unfold setR at hx
    by_cases e : x = mb
    · omega
    · rw [if_neg e] at hx; exact h.hi x hx) (fun _ h => h.elim))
  have HA1 : Hid (ρ1 mb = .aux) := Lib.hid (by rw [← hρ1]; exact setR_at _ _ _)
  have HNE1 : Hid (∀ x, ρ1 x ≠ .other → ρ x ≠ .other ∨ w.heap.size ≤ x) := Lib.hid (fun x hx => by
    rw [← hρ1] at hx
    unfold setR at hx
    by_cases e : x = mb
    · exact .inr (by omega)
    · rw [if_neg e] at hx; exact .inl hx)
  have HAG1 : Hid (Agr w ρ ρ1) := Lib.hid (by rw [← hρ1, ← hmb]; exact Agr.set (Nat.le_refl _) _)
  have HNEW1 : Hid (∀ x, mb < x → ρ1 x = .other) := Lib.hid (fun x hx => by
    rw [← hρ1]
    unfold setR
    rw [if_neg (by omega)]
    exact hnew x (by omega))
  have M1 : Hid (KMap (w.alloc (.map #[] 0)) kP mb (fun _ => none) 0) := Lib.hid (by rw [← hmb]; exact KMap.new w kP)
  have U1 : Hid (Upd [] w (w.alloc (.map #[] 0))) := Lib.hid ((Upd.refl [] w).alloc _)
  clear h hS hto hnew hrise hρ1 hBw hg
  go_enter Tryz.func22, Tryz.ntmps22
  go_wp2_with fail
  clear hmb
  generalize w.alloc (.map #[] 0) = w1 at *
  refine (t_all ρ1 B tb b fv sv _ w1 H1.out (fun L hL hm => ?_)).mono ?_
  · have hp : L.Perm g := (List.perm_ext_iff_of_nodup hL (HR.out.imp (fun h e => by subst e; rw [ltE_irr] at h; cases h))).2 (fun x => (hm x).trans (HS.out x))
    rw [hp.length_eq]
    exact hl
  rintro e w2 ⟨gv, G, rfl, hr, hm, ho, u2⟩
  have hG : G = g := riseE_uniq hr HR.out (fun x => (hm x).trans (HS.out x))
  subst hG
  obtain ⟨A, k, rfl, hgn, hgk⟩ := ho.form
  obtain ⟨n, hn⟩ : ∃ n, G.length = n := ⟨_, rfl⟩
  rw [hn] at ho hgn hl ⊢
  have HN := Lib.hid hn
  have HO := Lib.hid ho
  have S2 := Lib.hid (H1.out.upd0 u2)
  have M2 := Lib.hid (M1.out.upd u2 (by simp))
  have U2 := Lib.hid (U1.out.trans u2)
  have SZ1 : Hid (mb < w1.heap.size) := Lib.hid M1.out.lt
  clear hr hm ho u2 M1 H1 hn U1
  go_wp2_with fail
  go_loopw [10] (fun u wq => ∃ j : Nat, u = .int .i64 j ∧ j ≤ n ∧ Hid (∃ ρx nm, Tw ρ1 ρx w2 wq ∧ TrSt wq ρx B tb b fv sv (tcOf (cntQ l (G.take j)) cn l S (ldP (pairsL (G.take j)))) ∧ KMap wq kP mb (metF (G.take j)) nm ∧ ρx mb = .aux)) (fun u _ => n - (intOf u).toNat)
  case atStart => exact ⟨0, rfl, by omega, Lib.hid ⟨ρ1, 0, Tw.refl _ _, (by rw [List.take_zero]; exact S2.out), M2.out.congr (fun k => by simp [metF, metN]), HA1.out⟩⟩
  case round =>
    obtain ⟨j, rfl, hj, HREL⟩ := hrel
    rename World => wq
    by_cases hjn : j < n
    · obtain ⟨⟨x0, x1, x2⟩, hx⟩ : ∃ x, G[j]? = some x := ⟨_, List.getElem?_eq_getElem (by rw [HN.out]; omega)⟩
      obtain ⟨ρx, nm, tw, sx, mx, ax⟩ := HREL.out
      have TW := Lib.hid tw
      have SX := Lib.hid sx
      have MX := Lib.hid mx
      have AX := Lib.hid ax
      have TK : Hid (G.take (j + 1) = G.take j ++ [(x0, x1, x2)]) := Lib.hid (by rw [List.take_add_one, hx]; rfl)
      have HX1 : Hid (x1 ∈ l.map (·.txn)) := Lib.hid (HTO.out _ (List.mem_of_getElem? hx))
      have hjl : (G.take j).length ≤ 1000 := by rw [List.length_take]; omega
      obtain ⟨es, hes⟩ : ∃ es, G.take j = es := ⟨_, rfl⟩
      rw [hes] at SX MX TK hjl
      have HES := Lib.hid hes
      obtain ⟨gb, c, cur, e, _, _, _, _, _, _⟩ := own_form HO.out (by rw [HN.out]; omega)
      injection e with e1 e2 e3
      subst e1 e3
      clear e2
      have hown : Ow encE 49 wq w1.heap.size (.slice (some ⟨gb, 0, none⟩) n k) G := own_updP HO.out TW.out.upd (fun y hy hO => hO (by have := (own_lt HO.out hy).1; have := SZ1.out; exact HNEW1.out y (by omega)))
      have f0 : wq.cell? ⟨gb, j * 3, none⟩ = some (.int .i64 x0) := hown.at_ hx 0 _ rfl
      have f1 : wq.cell? ⟨gb, j * 3 + 1, none⟩ = some (.int .i64 x1) := hown.at_ hx 1 _ rfl
      have f2 : wq.cell? ⟨gb, j * 3 + 2, none⟩ = some (.int .i64 x2) := hown.at_ hx 2 _ rfl
      have q3 : (0 : Int) ≤ (j : Int) := by omega
      have q4 : (j : Int) < (n : Int) := by omega
      clear hx tw sx mx ax hes hown HREL
      go_wp2_with fail
      clear f0 f1 f2 q3 q4
      have X3 : Hid (Blk ((wq.alloc (.cells #[.int .i64 x0, .int .i64 x1, .int .i64 x2] 49)).alloc (.cells #[.int .i64 x0, .int .i64 x1] 83)) wq.heap.size 49 #[.int .i64 x0, .int .i64 x1, .int .i64 x2]) := Lib.hid ((Blk.new wq _ _).alloc _)
      have K3 : Hid (Blk ((wq.alloc (.cells #[.int .i64 x0, .int .i64 x1, .int .i64 x2] 49)).alloc (.cells #[.int .i64 x0, .int .i64 x1] 83)) (wq.heap.size + 1) 83 #[.int .i64 x0, .int .i64 x1]) := Lib.hid (Blk.newAt _ _ (by simp))
      have U3 : Hid (Upd [] wq ((wq.alloc (.cells #[.int .i64 x0, .int .i64 x1, .int .i64 x2] 49)).alloc (.cells #[.int .i64 x0, .int .i64 x1] 83))) := Lib.hid (((Upd.refl [] wq).alloc _).alloc _)
      generalize ((wq.alloc (.cells #[.int .i64 x0, .int .i64 x1, .int .i64 x2] 49)).alloc (.cells #[.int .i64 x0, .int .i64 x1] 83)) = w3 at *
      have M3 := Lib.hid (MX.out.upd U3.out (by simp))
      have k0 : w3.cell? ⟨wq.heap.size + 1, 0, none⟩ = some (.int .i64 x0) := K3.out.cell 0
      have k1 : w3.cell? ⟨wq.heap.size + 1, 1, none⟩ = some (.int .i64 x1) := K3.out.cell 1
      obtain ⟨c, hc⟩ : ∃ c, metN es (x0, x1) = c := ⟨_, rfl⟩
      have hc2 : c ≤ 1000 := by have := metN_le es (x0, x1); omega
      have hmf : (metF es (x0, x1)).getD (.int .i64 0) = .int .i64 (c : Nat) := by
        unfold metF
        rw [hc]
        by_cases e : c = 0
        · subst e; rfl
        · rw [if_neg e]; rfl
      have r1 : (Instr.lookup 82 (.map (some mb)) (.agg #[.int .i64 x0, .int .i64 x1]) false).run Tryz.prog w3.drew = .ok (.int .i64 (c : Nat)) w3.drew := by
        rw [← hmf]
        exact run_lookup_k' Tryz.underlying82 klaw_pair (Tryz.zeroValue3 _) M3.out.drew (x0, x1)
      obtain ⟨w5, s5, r2, ⟨L5, c5, kr5, ⟨v5, hv5⟩, kf5, _⟩, u5⟩ := run_mapEntry_k (P := Tryz.prog) Tryz.underlying82 klaw_pair (fun w => Tryz.zeroValue3 w) M3.out.drew (x0, x1)
      rw [hmf] at r2 kf5
      have M5 : KMap w5 kP mb (findK L5) L5.length := ⟨L5, c5, kr5, fun _ => rfl, rfl⟩
      have r3 : (Instr.lookup 82 (.map (some mb)) (.agg #[.int .i64 x0, .int .i64 x1]) false).run Tryz.prog w5 = .ok (.int .i64 (c : Nat)) w5 := by
        have := run_lookup_k' (P := Tryz.prog) Tryz.underlying82 klaw_pair (Tryz.zeroValue3 _) M5 (x0, x1)
        rw [kf5, if_pos rfl] at this
        exact this
      obtain ⟨w6, r4, m6, u6⟩ := run_entryStore_k (P := Tryz.prog) (mt := 82) kr5 hv5 (.int .i64 ((c : Nat) + 1 : Int))
      have r2' : (Instr.mapEntry 82 (.map (some mb)) (.agg #[.int .i64 x0, .int .i64 x1])).run Tryz.prog w3.drew = .ok (.tuple #[.int .i64 (c : Nat), .int .i64 s5]) w5 := r2
      have r4' : (Instr.entryStore 82 (.map (some mb)) (.int .i64 s5) (.int .i64 ((c : Nat) + 1 : Int))).run Tryz.prog w5 = .ok () w6 := r4
      have M6 : Hid (KMap w6 kP mb (metF (es ++ [(x0, x1, x2)])) L5.length) := Lib.hid (m6.congr (fun p => by
        rw [kf5]
        unfold metF
        rw [metN_snoc]
        by_cases e : p = (x0, x1)
        · subst e; rw [if_pos rfl, if_pos rfl, hc]; simp
        · rw [if_neg e, if_neg e, if_neg e]))
      have hmbl := M3.out.lt
      have U6 : Hid (Upd [mb] wq w6) := Lib.hid (((U3.out.drew.mono (by simp)).trans u5).trans u6)
      have X6 : Hid (Blk w6 wq.heap.size 49 #[.int .i64 x0, .int .i64 x1, .int .i64 x2]) := Lib.hid ((((X3.out.drew).upd u5 (by simp; have := MX.out.lt; omega))).upd u6 (by simp; have := MX.out.lt; omega))
      have K6 : Hid (Blk w6 (wq.heap.size + 1) 83 #[.int .i64 x0, .int .i64 x1]) := Lib.hid ((((K3.out.drew).upd u5 (by simp; have := MX.out.lt; omega))).upd u6 (by simp; have := MX.out.lt; omega))
      have HC := Lib.hid hc
      have KX : k0 = k0 := rfl
      clear hc hmf u5 u6 kr5 hv5 kf5 M5 m6 r2 r4 KX
      go_region
      clear r1 r2' r3 r4' k0 k1 hmbl hc2
      have hmne : Hid (∀ y, ρx y ≠ .aux → y ≠ mb) := Lib.hid (fun y hy e => hy (by rw [e]; exact AX.out))
      have S6 : Hid (TrSt w6 ρx B tb b fv sv (tcOf (cntQ l es) cn l S (ldP (pairsL es)))) := Lib.hid (SX.out.fr (O := fun y => y = mb) (UpdP.of_upd U6.out (by intro y hy; simp at hy; exact .inl hy)) (Agr.refl _ _) SX.out.hi (fun y hy => .inr (by rw [hy]; exact AX.out)))
      have TW6 : Hid (Tw ρ1 ρx w2 w6) := Lib.hid (TW.out.trans (Tw.of_upd U6.out (by intro y hy; simp at hy; subst hy; rw [AX.out]; simp)))
      have k0 : w6.cell? ⟨wq.heap.size + 1, 0, none⟩ = some (.int .i64 x0) := K6.out.cell 0
      have k1 : w6.cell? ⟨wq.heap.size + 1, 1, none⟩ = some (.int .i64 x1) := K6.out.cell 1
      have r6 : (Instr.lookup 82 (.map (some mb)) (.agg #[.int .i64 x0, .int .i64 x1]) false).run Tryz.prog w6 = .ok (.int .i64 ((c : Nat) + 1 : Int)) w6 := by
        have := run_lookup_k' (P := Tryz.prog) Tryz.underlying82 klaw_pair (Tryz.zeroValue3 _) M6.out (x0, x1)
        rw [show metF (es ++ [(x0, x1, x2)]) (x0, x1) = some (.int .i64 ((c : Nat) + 1 : Int)) from by unfold metF; rw [metN_snoc, if_pos rfl, HC.out]; simp] at this
        exact this
      clear TW SX U3 X3 K3 M3 MX
      by_cases h0 : c = 0
      · subst h0
        have HP : Hid ((x0, x1) ∉ pairsL es) := Lib.hid (metN_zero.1 HC.out)
        go_wp2_with fail
        clear k0 k1 r6
        have hB6 : Hid (B ≤ w6.heap.size) := Lib.hid (Nat.le_trans (S6.out.hi tb (by rw [S6.out.rt]; simp)) (Nat.le_of_lt S6.out.tr.lt))
        obtain ⟨lg, lm, vv, ig, hvv, hown, hro, hall⟩ := rows_at S6.out.ld.2 x0
        have ho2 : w6.ownsRow B 3 1 vv (ldP (pairsL es) x0).length ((ldP (pairsL es) x0).map (.int .i64)) := hown
        obtain ⟨ls, hls⟩ : ∃ ls, ldP (pairsL es) x0 = ls := ⟨_, rfl⟩
        rw [hls] at ho2
        have HLS := Lib.hid hls
        have hlsl : ls.length ≤ 1000 := by rw [← hls]; have h1 := ldP_len (pairsL es) x0; have h2 := pairsL_len es; omega
        obtain ⟨A1, c1, rfl, hnc1, hcm1⟩ := own_slice ho2
        obtain ⟨n1, hn1⟩ : ∃ n1, ls.length = n1 := ⟨_, rfl⟩
        rw [hn1] at ho2 hnc1 hlsl hown hvv hro
        have HN1 := Lib.hid hn1
        have OW := Lib.hid ho2
        have IG := Lib.hid ig
        have HRO := Lib.hid hro
        have HALL := Lib.hid hall
        have HVV := Lib.hid hvv
        clear ho2 hls hn1 ig hro hall hown hvv
        have hob : ∀ y, (Value.slice A1 n1 c1).ownBlock = some y → y < w6.heap.size := fun y hy => (own_lt OW.out hy).2
        have hrowS : ∀ y ∈ (Value.slice A1 n1 c1).ownBlock.toList, ρx y = .lead x0 := fun y hy => HRO.out y (by simpa using hy)
        have htb : tb ∉ (Value.slice A1 n1 c1).ownBlock.toList := fun hm => by have := hrowS _ hm; rw [S6.out.rt] at this; cases this
        have hxb : wq.heap.size ∉ (Value.slice A1 n1 c1).ownBlock.toList := fun hm => by
          have h1 := X6.out
          have := own_type OW.out h1 (by decide)
          exact this (by simpa using hm)
        have hbl : b.bl ∉ (Value.slice A1 n1 c1).ownBlock.toList := fun hm => by have := hrowS _ hm; rw [S6.out.ld.1] at this; cases this
        have hmbn : Hid (mb ∉ (Value.slice A1 n1 c1).ownBlock.toList) := Lib.hid (fun hm => by have := hrowS _ hm; rw [AX.out] at this; cases this)
        have CF : Hid (∀ W, Upd (Value.slice A1 n1 c1).ownBlock.toList w6.drew W → (W.cell? ⟨tb, 4, none⟩ = some (.map (some b.bl)) ∧ W.cell? ⟨wq.heap.size, 0, none⟩ = some (.int .i64 x0) ∧ W.cell? ⟨wq.heap.size, 1, none⟩ = some (.int .i64 x1)) ∧ (Instr.lookup 63 (.map (some b.bl)) (.int .i64 x0) false).run Tryz.prog W = .ok (.slice A1 n1 c1) W) := Lib.hid (fun W hW => by
          have hu : Upd (Value.slice A1 n1 c1).ownBlock.toList w6 W := (Upd.refl _ w6).drew.trans hW
          have hx := X6.out.upd hu hxb
          refine ⟨⟨(S6.out.tr.upd hu htb).cell 4, hx.cell 0, hx.cell 1⟩, ?_⟩
          rw [run_lookup_int' Tryz.underlying63 Tryz.underlying3 (Tryz.zeroValue26 W) (IG.out.upd hu hbl) x0, HVV.out])
        refine wp_invT 17 (Value.slice A1 n1 c1).ownBlock.toList (fun u s W' => KApp w6.heap.size (.slice A1 n1 c1) B 3 1 n1 (ls.map (.int .i64)) (n1 + 1) (ls.map (.int .i64) ++ [.int .i64 x1]) 16 u s W') [(16, [16])] [(15, .lit 3 #[.int .i64 x1] 1), (16, appNew w6.heap.size B 3 1 (n1 + 1) (ls.map (.int .i64) ++ [.int .i64 x1]))] [] [16] (by kernel_rfl) (by simp) (by kernel_rfl) (by kernel_rfl) (by kernel_rfl) (fun y hy => hob y (by simpa using hy)) ⟨lasts_lit _ _ _, lasts_appNew _ _ _ _ _ _ _ _, trivial⟩ ?_ ?_ ?_ ?_
        · intro s u u' w1' hag hk
          exact kapp_congr (fun hs => hag 16 (by simp) rfl (by rw [show ((List.range 16).filter (fun j => [16].contains j)).length = 0 from by decide]; omega) 16 (by simp [conOf])) hk
        · intro u s w1' w' T hk hu hT
          exact kapp_lasts hu hT hob s hk
        · intro u
          exact own_upd0 OW.out ((Upd.refl [] w6).drew)
        simp only [List.take_succ_cons, List.take_zero, List.drop_succ_cons, List.drop_zero]
        with_reducible apply wpV_light
        · simp only [lightOp]
        · intro W hU hF
          have f0 := CF.out W hU
          clear hU hF
          go_simp
          exact rfl
        simp only [Act.put, List.setIfInBounds_toArray, List.set_cons_zero, List.set_cons_succ]
        with_reducible apply wpV_light
        · simp only [lightOp]
        · intro W hU hF
          have f0 := CF.out W hU
          clear hU hF
          go_simp
          exact rfl
        simp only [Act.put, List.setIfInBounds_toArray, List.set_cons_zero, List.set_cons_succ]
        with_reducible apply wpV_light
        · simp only [lightOp]
        · intro W hU hF
          have f0 := CF.out W hU
          clear hU hF
          go_simp
          exact rfl
        simp only [Act.put, List.setIfInBounds_toArray, List.set_cons_zero, List.set_cons_succ]
        with_reducible apply wpV_light
        · simp only [lightOp]
        · intro W hU hF
          have f0 := CF.out W hU
          clear hU hF
          go_simp
          exact rfl
        simp only [Act.put, List.setIfInBounds_toArray, List.set_cons_zero, List.set_cons_succ]
        with_reducible apply wpV_light
        · simp only [lightOp]
        · intro W hU hF
          have f0 := CF.out W hU
          clear hU hF
          go_simp
          exact rfl
        simp only [Act.put, List.setIfInBounds_toArray, List.set_cons_zero, List.set_cons_succ]
        with_reducible apply wpV_light
        · simp only [lightOp]
        · intro W hU hF
          have f0 := CF.out W hU
          clear hU hF
          go_simp
          exact rfl
        simp only [Act.put, List.setIfInBounds_toArray, List.set_cons_zero, List.set_cons_succ]
        with_reducible apply wpV_light
        · simp only [lightOp]
        · intro W hU hF
          have f0 := CF.out W hU
          clear hU hF
          go_simp
          exact rfl
        simp only [Act.put, List.setIfInBounds_toArray, List.set_cons_zero, List.set_cons_succ]
        with_reducible apply wpV_light
        · simp only [lightOp]
        · intro W hU hF
          have f0 := CF.out W hU
          clear hU hF
          go_simp
          exact rfl
        simp only [Act.put, List.setIfInBounds_toArray, List.set_cons_zero, List.set_cons_succ]
        with_reducible apply wpV_light
        · simp only [lightOp]
        · intro W hU hF
          have f0 := CF.out W hU
          clear hU hF
          go_simp
          exact rfl
        simp only [Act.put, List.setIfInBounds_toArray, List.set_cons_zero, List.set_cons_succ]
        with_reducible apply wpV_light
        · simp only [lightOp]
        · intro W hU hF
          have f0 := CF.out W hU
          clear hU hF
          go_simp
          exact rfl
        simp only [Act.put, List.setIfInBounds_toArray, List.set_cons_zero, List.set_cons_succ]
        with_reducible apply wpV_light
        · simp only [lightOp]
        · intro W hU hF
          have f0 := CF.out W hU
          clear hU hF
          go_simp
          exact rfl
        simp only [Act.put, List.setIfInBounds_toArray, List.set_cons_zero, List.set_cons_succ]
        with_reducible apply wpV_light
        · simp only [lightOp]
        · intro W hU hF
          have f0 := CF.out W hU
          clear hU hF
          go_simp
          exact rfl
        simp only [Act.put, List.setIfInBounds_toArray, List.set_cons_zero, List.set_cons_succ]
        with_reducible apply wpV_light
        · simp only [lightOp]
        · intro W hU hF
          have f0 := CF.out W hU
          clear hU hF
          go_simp
          exact rfl
        simp only [Act.put, List.setIfInBounds_toArray, List.set_cons_zero, List.set_cons_succ]
        with_reducible apply wpV_light
        · simp only [lightOp]
        · intro W hU hF
          have f0 := CF.out W hU
          clear hU hF
          go_simp
          exact rfl
        simp only [Act.put, List.setIfInBounds_toArray, List.set_cons_zero, List.set_cons_succ]
        with_reducible apply wpV_light
        · simp only [lightOp]
        · intro W hU hF
          have f0 := CF.out W hU
          clear hU hF
          go_simp
          exact rfl
        simp only [Act.put, List.setIfInBounds_toArray, List.set_cons_zero, List.set_cons_succ]
        refine wpV_heavy (by simp only [lightOp]) (by rfl) (fun W hU hk hF K hK => ?_) ?_
        · go_wp2_with fail
          exact wpV_lit hK rfl rfl rfl
        rintro _ ⟨g6, rfl⟩
        simp only [Act.put, List.setIfInBounds_toArray, List.set_cons_zero, List.set_cons_succ]
        refine wpV_heavy (by simp only [lightOp]) (by rfl) (fun W hU hk hF K hK => ?_) ?_
        · have hk0 := hk rfl
          obtain ⟨g', he, hbl⟩ := hF.out.1 (by kernel_rfl)
          injection he with he _ _
          injection he with he
          injection he with he
          subst he
          have hBW : B ≤ W.heap.size := Nat.le_trans hB6.out hU.size
          refine wp_app W (.tmp 41) (.tmp 44) _ (by rfl) int_elem (.slice A1 n1 c1) _ (by rfl) (by rfl) hk0 (.of_blk hbl (m := 1) 1 rfl) (by intro u hu; simp at hu; subst hu; rfl) (by simp only [maxLen]; omega) (by omega) hBW ?_
          intro v' w' o' u' b'
          exact hK.out _ _ (outV_appK hU.size hob rfl rfl (by simp) o' u' b')
        rintro v16 -
        simp only [Act.put, List.setIfInBounds_toArray, List.set_cons_zero, List.set_cons_succ]
        refine wpV_end (fun W hU hk hF _ => ?_)
        obtain ⟨ho, hold⟩ := app_end (n0 := n1) (xs0 := ls.map (.int .i64)) (hF.out.2.1 (by kernel_rfl)) hk rfl
        have U7 : Hid (Upd (Value.slice A1 n1 c1).ownBlock.toList w6 W) := Lib.hid ((Upd.refl _ w6).drew.trans hU)
        have HO7 := Lib.hid ho
        have HOLD := Lib.hid hold
        clear hU hk hF ho hold CF
        obtain ⟨w8, hrun, im, hu8⟩ := run_mapUpdate_int (P := Tryz.prog) Tryz.underlying63 Tryz.underlying3 (IG.out.upd U7.out hbl) x0 v16
        refine wpT_op (by rfl) (fun K hK => ?_)
        go_wp2_with fail
        refine hK.out _ _ ?_
        clear hK K hrun
        refine wpT_end ?_
        obtain ⟨ρ2, g1, g2, g3, g4⟩ := rows_put (w := w6) (rd := ldP (pairsL es)) (k := x0) (x := x1) HALL.out (r := .lead) (fun a b h => by injection h) (fun a => by rw [S6.out.ld.1]; simp) S6.out.ld.2.lt HRO.out U7.out (by rw [HLS.out, HN1.out]; exact HO7.out) HOLD.out im hu8
        have hhi2 : ∀ y, ρ2 y ≠ .other → B ≤ y := fun y hy => (g2 y hy).elim (S6.out.hi y) (fun h => Nat.le_trans hB6.out h)
        have S8 := Lib.hid (S6.out.setLd g4 g1 hhi2 (fun y hy => hy.elim (fun e => .inl (by rw [e]; exact S6.out.ld.1)) (fun e => .inr ⟨x0, e⟩)) g3)
        have TW8 : Hid (Tw ρ1 ρ2 w2 w8) := Lib.hid (TW6.out.trans ⟨g4.mono (fun y hy => .inl (hy.elim (fun e => by rw [e, S6.out.ld.1]; simp) (fun e => by rw [e]; simp))), g1⟩)
        have hblx : wq.heap.size ≠ b.bl := fun e => by
          have h1 := X6.out
          rw [e] at h1
          exact blk_map h1 IG.out rfl
        have X8 := Lib.hid ((X6.out.upd U7.out hxb).upd hu8 (by simp; exact hblx))
        have hmbl : mb ≠ b.bl := fun e => by have := S6.out.ld.1; rw [← e, AX.out] at this; cases this
        have M8 := Lib.hid ((M6.out.upd U7.out hmbn.out).upd hu8 (by simp; exact hmbl))
        have AX8 : Hid (ρ2 mb = .aux) := Lib.hid ((g1 mb M6.out.lt).trans AX.out)
        clear g1 g2 g3 g4 hhi2 hu8 im hblx hmbl hob hrowS htb hxb hbl U7 HO7 HOLD S6 X6 M6 TW6 AX IG HALL HRO HVV HLS HN1 OW
        obtain ⟨cb, hcb⟩ : ∃ cb, cntP (pairsL es) x1 = cb := ⟨_, rfl⟩
        have hcbl : cb ≤ 1000 := by have h1 := cntP_len (pairsL es) x1; have h2 := pairsL_len es; omega
        have HCB := Lib.hid hcb
        clear hcb
        have CF : Hid (∀ W, Upd [] w8.drew W → (W.cell? ⟨tb, 0, none⟩ = some (.map (some b.bt)) ∧ W.cell? ⟨wq.heap.size, 1, none⟩ = some (.int .i64 x1)) ∧ (Instr.lookup 59 (.map (some b.bt)) (.int .i64 x1) false).run Tryz.prog W = .ok (.int .i64 (cb : Nat)) W) := Lib.hid (fun W hW => by
          have hu : Upd [] w8 W := (Upd.refl [] w8).drew.trans hW
          refine ⟨⟨(S8.out.tr.upd hu (by simp)).cell 0, (X8.out.upd hu (by simp)).cell 1⟩, ?_⟩
          rw [run_lookup_int' Tryz.underlying59 Tryz.underlying3 (Tryz.zeroValue3 W) (S8.out.tx.2.upd hu (by simp)) x1]
          show Result.ok (((cntQ l es x1).map (Value.int .i64)).getD _) W = _
          unfold cntQ
          rw [if_pos HX1.out, HCB.out]
          rfl)
        go_wp2_with fail
        refine wp_invNT 8 [] [] (by kernel_rfl) (by simp) (by kernel_rfl) (by kernel_rfl) trivial ?_
        simp only [List.take_succ_cons, List.take_zero, List.drop_succ_cons, List.drop_zero]
        with_reducible apply wpV_light
        · simp only [lightOp]
        · intro W hU hF
          have f0 := CF.out W hU
          clear hU hF
          go_simp
          exact rfl
        simp only [Act.put, List.setIfInBounds_toArray, List.set_cons_zero, List.set_cons_succ]
        with_reducible apply wpV_light
        · simp only [lightOp]
        · intro W hU hF
          have f0 := CF.out W hU
          clear hU hF
          go_simp
          exact rfl
        simp only [Act.put, List.setIfInBounds_toArray, List.set_cons_zero, List.set_cons_succ]
        with_reducible apply wpV_light
        · simp only [lightOp]
        · intro W hU hF
          have f0 := CF.out W hU
          clear hU hF
          go_simp
          exact rfl
        simp only [Act.put, List.setIfInBounds_toArray, List.set_cons_zero, List.set_cons_succ]
        with_reducible apply wpV_light
        · simp only [lightOp]
        · intro W hU hF
          have f0 := CF.out W hU
          clear hU hF
          go_simp
          exact rfl
        simp only [Act.put, List.setIfInBounds_toArray, List.set_cons_zero, List.set_cons_succ]
        with_reducible apply wpV_light
        · simp only [lightOp]
        · intro W hU hF
          have f0 := CF.out W hU
          clear hU hF
          go_simp
          exact rfl
        simp only [Act.put, List.setIfInBounds_toArray, List.set_cons_zero, List.set_cons_succ]
        with_reducible apply wpV_light
        · simp only [lightOp]
        · intro W hU hF
          have f0 := CF.out W hU
          clear hU hF
          go_simp
          exact rfl
        simp only [Act.put, List.setIfInBounds_toArray, List.set_cons_zero, List.set_cons_succ]
        with_reducible apply wpV_light
        · simp only [lightOp]
        · intro W hU hF
          have f0 := CF.out W hU
          clear hU hF
          go_simp
          exact rfl
        simp only [Act.put, List.setIfInBounds_toArray, List.set_cons_zero, List.set_cons_succ]
        with_reducible apply wpV_light
        · simp only [lightOp]
        · intro W hU hF
          have f0 := CF.out W hU
          clear hU hF
          go_simp
          exact rfl
        simp only [Act.put, List.setIfInBounds_toArray, List.set_cons_zero, List.set_cons_succ]
        refine wpV_end (fun W hU _ _ _ => ?_)
        have U9 : Hid (Upd [] w8 W) := Lib.hid ((Upd.refl [] w8).drew.trans hU)
        clear hU CF
        obtain ⟨wa, hrun, im, hua⟩ := run_mapUpdate_int (P := Tryz.prog) Tryz.underlying59 Tryz.underlying3 (S8.out.tx.2.upd U9.out (by simp)) x1 (.int .i64 ((cb : Nat) + 1 : Int))
        refine wpT_op (by rfl) (fun K hK => ?_)
        go_wp2_with fail
        refine hK.out _ _ ?_
        clear hK K hrun
        refine wpT_end ?_
        have hcn : (if ((fun k => (cntQ l es k).map (Value.int .i64)) x1).isSome then cn else cn + 1) = cn := by
          rw [if_pos]
          show ((cntQ l es x1).map (Value.int .i64)).isSome = true
          unfold cntQ
          simp [HX1.out]
        have SA := (S8.out.upd0 U9.out).setTx hua (f := cntQ l (es ++ [(x0, x1, x2)])) (n := cn) (by
          have h1 : IMap wa .i64 b.bt (fun k => (cntQ l (es ++ [(x0, x1, x2)]) k).map (Value.int .i64)) _ := im.congr (fun k => by
            rw [← cntQ_next (c := x2) HP.out HX1.out k, HCB.out])
          rw [show (if ((fun k => Option.map (Value.int .i64) ((tcOf (cntQ l es) cn l S (ldP (pairsL es))).cnt k)) x1).isSome = true then (tcOf (cntQ l es) cn l S (ldP (pairsL es))).cn else (tcOf (cntQ l es) cn l S (ldP (pairsL es))).cn + 1) = cn from hcn] at h1
          exact h1)
        have hmbt : mb ≠ b.bt := fun e => by have := S8.out.tx.1; rw [← e, AX8.out] at this; cases this
        have HREL : Hid (∃ ρx nm, Tw ρ1 ρx w2 wa ∧ TrSt wa ρx B tb b fv sv (tcOf (cntQ l (es ++ [(x0, x1, x2)])) cn l S (ldP (pairsL (es ++ [(x0, x1, x2)])))) ∧ KMap wa kP mb (metF (es ++ [(x0, x1, x2)])) nm ∧ ρx mb = .aux) := Lib.hid ⟨ρ2, _, (TW8.out.trans (Tw.of0 U9.out)).trans (Tw.of_upd hua (by intro y hy; simp at hy; subst hy; rw [S8.out.tx.1]; simp)), by
          have e : ldP (pairsL (es ++ [(x0, x1, x2)])) = fun k' => if k' = x0 then ldP (pairsL es) x0 ++ [x1] else ldP (pairsL es) k' := by
            funext k'
            rw [pairsL_snoc, ldP_add HP.out]
            by_cases e : k' = x0
            · rw [if_pos e, if_pos e, e]
            · rw [if_neg e, if_neg e]
          rw [e]
          exact SA, (M8.out.upd U9.out (by simp)).upd hua (by simp; exact hmbt), AX8.out⟩
        clear SA hua im hcn hmbt
        go_wp2_with fail
        go_roundw
        case rel => exact ⟨j + 1, by go_num, by omega, by rw [TK.out]; exact HREL⟩
        case measure => simp [intOf]; omega
      · have HP : Hid ((x0, x1) ∈ pairsL es) := Lib.hid (Classical.byContradiction fun e => h0 (by rw [← HC.out]; exact metN_zero.2 e))
        have d : decide ((1 : Int) < (c : Int) + 1) = true := by simp; omega
        go_wp2_with fail
        go_roundw
        case rel => exact ⟨j + 1, by go_num, by omega, Lib.hid ⟨ρx, _, TW6.out, by
          rw [TK.out]
          have e : pairsL (es ++ [(x0, x1, x2)]) = pairsL es := by rw [pairsL_snoc]; unfold addP; rw [if_pos HP.out]
          unfold cntQ
          rw [e]
          exact S6.out, by rw [TK.out]; exact M6.out, AX.out⟩⟩
        case measure => simp [intOf]; omega
    · have : j = n := by omega
      subst this
      go_wp2_with fail
      go_end0
      obtain ⟨ρx, nm, tw, sx, mx, ax⟩ := HREL.out
      rw [List.take_of_length_le (by rw [HN.out]; exact Nat.le_refl _)] at sx
      unfold PairsPost
      rw [HG.out]
      refine ⟨rfl, ρx, ⟨(UpdP.of_upd U2.out (by simp)).trans tw.upd HNE1.out, HAG1.out.trans U2.out.size tw.agr⟩, sx⟩
end Go.Proofs.YteddiknlcdbhjaaGreat.Vk

namespace Go.Proofs.YteddiknlcdbhjaaGreat.TrP

/-- How many stand ahead of each that are not out. -/
def cntR (g : List Ed) (all out : List Int) : Int → Option Int := fun t => if t ∈ all then some (remain g all out t : Int) else none
/-- The same while those behind n are told one by one. -/
def cntI (g : List Ed) (all out : List Int) (n : Int) (i : Nat) : Int → Option Int := fun t => if t ∈ all then some ((remain g all (out ++ [n]) t : Int) + (if t ∈ (succL g all n).drop i then 1 else 0)) else none
def rdyI (g : List Ed) (all out : List Int) (n : Int) (H : List Int) (i : Nat) : List Int := H ++ ((succL g all n).take i).filter (fun b => decide (remain g all (out ++ [n]) b = 0))
section
variable {g : List Ed} {all out : List Int} {n : Int}
theorem cntI_start (hg : GOk g all) (hn : n ∈ all) (ho : n ∉ out) : cntR g all out = cntI g all out n 0 := by
  funext t
  unfold cntR cntI
  by_cases ht : t ∈ all
  · rw [if_pos ht, if_pos ht, remain_snoc hg hn ho t, List.drop_zero]
    by_cases hl : leadsB g n t = true
    · rw [if_pos hl, if_pos (mem_succL.2 ⟨ht, hl⟩)]; simp
    · rw [if_neg hl, if_neg (fun h => hl (mem_succL.1 h).2)]; simp
  · rw [if_neg ht, if_neg ht]
theorem cntI_end {i : Nat} (h : (succL g all n).length ≤ i) : cntI g all out n i = cntR g all (out ++ [n]) := by
  funext t
  unfold cntI cntR
  rw [List.drop_eq_nil_of_le h]
  simp
theorem drop_cons {i : Nat} {b : Int} (h : (succL g all n)[i]? = some b) : (succL g all n).drop i = b :: (succL g all n).drop (i + 1) := by
  obtain ⟨hi, e⟩ := List.getElem?_eq_some_iff.1 h
  rw [← e]
  exact List.drop_eq_getElem_cons hi
theorem succ_mem {i : Nat} {b : Int} (h : (succL g all n)[i]? = some b) : b ∈ all := (mem_succL.1 (List.mem_of_getElem? h)).1
theorem cntI_at {i : Nat} {b : Int} (h : (succL g all n)[i]? = some b) : cntI g all out n i b = some ((remain g all (out ++ [n]) b : Int) + 1) := by
  unfold cntI
  rw [if_pos (succ_mem h), drop_cons h, if_pos (by simp)]
theorem cntI_next (hg : GOk g all) {i : Nat} {b : Int} (h : (succL g all n)[i]? = some b) (t : Int) : cntI g all out n (i + 1) t = if t = b then some (remain g all (out ++ [n]) b : Int) else cntI g all out n i t := by
  have hd := drop_cons h
  have hnd : ((succL g all n).drop i).Nodup := (succL_nodup hg n).sublist (List.drop_sublist _ _)
  rw [hd, List.nodup_cons] at hnd
  unfold cntI
  by_cases e : t = b
  · subst e
    rw [if_pos rfl, if_pos (succ_mem h), if_neg hnd.1]
    simp
  · rw [if_neg e, hd]
    simp [e]
theorem rdyI_next {H : List Int} {i : Nat} {b : Int} (h : (succL g all n)[i]? = some b) : rdyI g all out n H (i + 1) = rdyI g all out n H i ++ (if remain g all (out ++ [n]) b = 0 then [b] else []) := by
  unfold rdyI
  rw [List.take_add_one, h, List.filter_append, List.append_assoc]
  congr 2
  by_cases e : remain g all (out ++ [n]) b = 0 <;> simp [e]
theorem rdyI_len {H : List Int} {i : Nat} : (rdyI g all out n H i).length ≤ H.length + all.length := by
  unfold rdyI
  rw [List.length_append]
  have h1 := List.length_filter_le (fun b => decide (remain g all (out ++ [n]) b = 0)) ((succL g all n).take i)
  have h2 : ((succL g all n).take i).length ≤ (succL g all n).length := by rw [List.length_take]; omega
  have h3 : (succL g all n).length ≤ all.length := List.length_filter_le _ _
  omega
theorem readyL_len : (readyL g all out).length ≤ all.length := List.length_filter_le _ _
theorem remain_len (b : Int) : remain g all out b ≤ all.length := List.length_filter_le _ _
theorem mem_ready {b : Int} : b ∈ readyL g all [] ↔ b ∈ all ∧ remain g all [] b = 0 := by
  unfold readyL
  rw [List.mem_filter, pick_remain]
  simp
/-- The least of those that are ready. -/
theorem go_step (hg : GOk g all) (hs : Ser g all out) (hinv : serialL g all = serialGo g all (all.length - out.length) out) (hn : n ∈ readyL g all out) (hm : ∀ b ∈ readyL g all out, n ≤ b) :
    Ser g all (out ++ [n]) ∧ serialL g all = serialGo g all (all.length - (out ++ [n]).length) (out ++ [n]) ∧ n ∈ all ∧ n ∉ out ∧ pickB g all out n = true ∧ out.length < all.length := by
  obtain ⟨h1, h2⟩ := List.mem_filter.1 hn
  have h3 := (pickB_iff.1 h2).1
  have hl := hs.lt hg h1 h3
  refine ⟨hs.snoc h1 h2, ?_, h1, h3, h2, hl⟩
  rw [hinv, List.length_append, List.length_singleton, show all.length - out.length = (all.length - (out.length + 1)) + 1 by omega]
  exact serialGo_next (next_least hg hn hm) hl
theorem go_end (hinv : serialL g all = serialGo g all (all.length - out.length) out) (hr : readyL g all out = []) : serialL g all = if out.length < all.length then none else some out := by
  rw [hinv]
  exact serialGo_end hr
end
end Go.Proofs.YteddiknlcdbhjaaGreat.TrP

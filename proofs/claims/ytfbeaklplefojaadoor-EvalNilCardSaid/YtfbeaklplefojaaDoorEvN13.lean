/-
  slices.Sorted of maps.Keys: the keys of a map of integers, rising.
  slices.BinarySearch of ints.
  model.State: ordered, Ceil, Range, List.
  model.State: Range, List, Kinds.
  eval.runner: tell, list.
-/
import Derived.Test.YtfbeaklplefojaaDoorEvN4
import Derived.Test.YtfbeaklplefojaaDoorLayK
import Derived.Maps.Range
import Derived.Test.YtfbeaklplefojaaDoorEvNsRun
set_option linter.unusedVariables false
namespace Go.Proofs.YtfbeaklplefojaaDoor
open Go.RowKit Assoc MP Go.Shelf Go.WideElems Go.MapKept Go.Maps Go.WideShapes

theorem sortsI (m : Nat) : AnyZI.SortsIn Tryd.prog sortedI_lay_ren Fence.wide m :=
  ⟨fun blk off cap ss W hH hblk hsz => callsIn_wide.2 (AnyM.slices_Sort_int sortI_lay blk off cap ss W hH hblk hsz),
   fun p cap W => callsIn_wide.2 (AnyM.slices_Sort_int_none sortI_lay p cap W)⟩
theorem keysM (mb : Option Nat) (w : World) : Calls Tryd.prog 56 #[.map mb] w fun e w' => e = .returned (.func (.func 61) #[] #[.pointer (some ⟨w.heap.size, 0, none⟩)]) ∧ w.alloc (.cells #[.map mb] 65) = w' := by
  go_enter Tryd.func56, Tryd.ntmps56
  go_wp2_with fail
  go_ret
  exact ⟨rfl, rfl⟩
def kwf (l : AL) : Prop := ∀ p ∈ l, (Lit.int .i64 p.1).wf = true
def R0 : Value → Option (DataW Unit × List MemPlace) := fun _ => some (.nil, [])
theorem keyOf_int {x : Int} (h : (Lit.int .i64 x).wf = true) : keyOf Tryd.prog 3 (.int .i64 x) = some (.int .i64 x) := by
  unfold keyOf
  rw [Tryd.underlying3]
  simp [mapKey, Tryd.underlying3, h]
theorem findI_some {L : List IEnt} {k : Int} : (findI L k).isSome = true ↔ k ∈ L.map (·.1) := by
  unfold findI
  rw [Option.isSome_map, List.find?_isSome]
  simp only [List.mem_map, beq_iff_eq]
theorem get_mem_keys {l : AL} {k : Int} : (get l k).isSome = true ↔ k ∈ l.map (·.1) := by
  unfold Assoc.get
  rw [Option.isSome_map, List.find?_isSome]
  simp only [List.mem_map, beq_iff_eq]
theorem srt_keys {l : AL} (h : Srt l) : (l.map (·.1)).Pairwise (· < ·) := List.pairwise_map.2 h
theorem keys_perm {l : AL} {L : List IEnt} (hs : Srt l) (hn : (L.map (·.1)).Nodup) (hf : ∀ k, mapI l k = findI L k) : (L.map (·.1)).Perm (l.map (·.1)) := by
  refine (List.perm_ext_iff_of_nodup hn ((srt_keys hs).imp (fun h => by omega))).2 fun k => ?_
  rw [← findI_some, ← get_mem_keys, ← hf k, mapI_some]
theorem sort_keys {l : AL} {ss : List Int} (hs : Srt l) (hp : ss.Perm (l.map (·.1))) : ss.mergeSort (fun x y => decide (x ≤ y)) = l.map (·.1) := by
  refine List.Perm.eq_of_pairwise (le := fun x y => x ≤ y) ?_ ?_ ?_ ((List.mergeSort_perm _ _).trans hp)
  · intro a b _ _ h1 h2; omega
  · have := List.pairwise_mergeSort (le := fun (x y : Int) => decide (x ≤ y)) (fun a b c h1 h2 => by simp at *; omega) (fun a b => by simp; omega) ss
    exact this.imp (fun h => by simpa using h)
  · exact (srt_keys hs).imp (fun h => by omega)
/-- The map as the shelf's kit knows it. -/
theorem owns_of {w : World} {m : Nat} {l : AL} (h : IMap w .i64 m (mapI l) l.length) (hs : Srt l) (hk : kwf l) (hl : l.length ≤ 100) :
    ∃ D0 : DataW Unit, w.ownsMap Tryd.prog 3 R0 m l.length D0 ∧ Maps.size D0 ≤ 100 ∧ (intKeys D0).Perm (l.map (·.1)) := by
  obtain ⟨L, c, hr, hf, hn⟩ := h
  have hkp := keys_perm hs hr.keys hf
  have hwf : ∀ p ∈ L, (Lit.int .i64 p.1).wf = true := fun p hp => by
    obtain ⟨q, hq, e⟩ := List.mem_map.1 (hkp.mem_iff.1 (List.mem_map.2 ⟨p, hp, rfl⟩))
    rw [← e]
    exact hk q hq
  have hrg : ∀ p ∈ L, rg Tryd.prog 3 R0 (ent .i64 p) = (.int .i64 p.1, .nil) := fun p hp => by
    unfold rg rd ent R0
    simp [keyOf_int (hwf p hp)]
  have he : ((L.map (ent .i64)).toArray.toList.map (rg Tryd.prog 3 R0)) = L.map (fun p => (Lit.int .i64 p.1, (DataW.nil : DataW Unit))) := by
    generalize rg Tryd.prog 3 R0 = f at hrg ⊢
    show (L.map (ent .i64)).map f = _
    rw [List.map_map]
    exact List.map_congr_left fun p hp => hrg p hp
  refine ⟨_, ⟨_, c, hr.blk, ⟨?_, ⟨?_, ?_, ?_⟩, ?_⟩, ?_, rfl⟩, ?_, ?_⟩
  · simp [maxLen]; omega
  · intro x hx
    simp only [List.mem_map] at hx
    obtain ⟨p, hp, rfl⟩ := hx
    exact hr.lt p hp
  · simp only [List.map_map]
    exact hr.stamps
  · simp only [List.map_map]
    have : (Value.int IntKind.i64 ∘ fun (p : IEnt) => p.1) = (MapEntry.key ∘ ent .i64) := rfl
    rw [← this, ← List.map_map]
    exact List.Pairwise.map _ (fun a b h e => h (by injection e)) hr.keys
  · intro x hx
    simp only [List.mem_map] at hx
    obtain ⟨p, hp, rfl⟩ := hx
    exact ⟨(.int .i64 p.1, .nil), by unfold rd ent R0; simp [keyOf_int (hwf p hp)]⟩
  · simp [hn]
  · rw [he]
    show (List.foldr DataW.insert [] _).length ≤ 100
    rw [(sorted_perm _).length_eq, List.length_map, hn]
    exact hl
  · rw [he]
    unfold intKeys
    refine ((sorted_perm _).map _).trans ?_
    rw [List.map_map]
    exact hkp
def KeysPost (l : AL) (w : World) (e : Ending) (w' : World) : Prop := ∃ v, e = .returned v ∧ Ow encK 3 w' w.heap.size v (l.map (·.1)) ∧ Upd [] w w'
theorem flat_ints (xs : List Int) : flat encK xs = xs.map encZ := by
  induction xs with
  | nil => rfl
  | cons x xs ih => rw [flat_cons, ih]; rfl
theorem sortedKeys (Bm m : Nat) (l : AL) (w : World) (hb : Blk w Bm 65 #[.map (some m)]) (h : IMap w .i64 m (mapI l) l.length) (hs : Srt l) (hk : kwf l) (hl : l.length ≤ 100) :
    Calls Tryd.prog 55 #[.func (.func 61) #[] #[.pointer (some ⟨Bm, 0, none⟩)]] w fun e w' => KeysPost l w e w' := by
  obtain ⟨D0, hown, hsz, hp⟩ := owns_of h hs hk hl
  have hseq : SeqGives Fence.wide 2 Tryd.prog 61 #[.pointer (some ⟨Bm, 0, none⟩)] encZ (fun ss => ss.Perm (intKeys D0)) (Maps.size D0) w :=
    AnyZI.keys_gives (ρ := keysM_lay_ren) { keysM_lay with } Fence.wide _ trivial rfl (by omega) Bm m l.length D0 _ hb.lt (hb.cell 0) hown
  have cS := AnyZI.sorted_in sortedI_lay Fence.wide 5 trivial trivial trivial trivial rfl (by omega) (sortsI _) (enters_of Tryd.func60 (by kernel_rfl) rfl) 61 #[.pointer (some ⟨Bm, 0, none⟩)] trivial (enters_of Tryd.func61 (by kernel_rfl) rfl) _ _ (by simp only [maxLen]; omega) (by omega) _ hseq
  refine (callsIn_wide (n := 5)).1 (show CallsIn Fence.wide 5 Tryd.prog 55 _ w _ from cS.mono ?_)
  rintro e w' ⟨v, ss, rfl, hS, hrow, _, hbl⟩
  rw [sort_keys hs (hS.trans hp)] at hrow
  refine ⟨v, rfl, ?_, Upd.of_below (S := []) hbl (Nat.le_refl _)⟩
  unfold Ow
  rw [flat_ints]
  have e : ss.length = (l.map (·.1)).length := (hS.trans hp).length_eq
  rw [← e]
  exact hrow
end Go.Proofs.YtfbeaklplefojaaDoor

namespace Go.Proofs.YtfbeaklplefojaaDoor
open Go.RowKit Assoc MP
attribute [local go_sem] litStep_value

theorem isNaN_int (x : Int) (w : World) : Calls Tryd.prog 58 #[.int .i64 x] w fun e w' => e = .returned (.bool false) ∧ w = w' := by
  go_enter Tryd.func58, Tryd.ntmps58
  go_wp2_with fail
  go_ret
  exact ⟨by simp, rfl⟩
theorem isNaN_cmp (x : Int) (w : World) : Calls Tryd.prog 62 #[.int .i64 x] w fun e w' => e = .returned (.bool false) ∧ w = w' := by
  go_enter Tryd.func62, Tryd.ntmps62
  go_wp2_with fail
  go_ret
  exact ⟨by simp, rfl⟩
set_option maxRecDepth 100000 in
theorem less_int (x y : Int) (w : World) : Calls Tryd.prog 57 #[.int .i64 x, .int .i64 y] w fun e w' => e = .returned (.bool (decide (x < y))) ∧ w = w' := by
  go_enter Tryd.func57, Tryd.ntmps57
  go_wp2_with fail
  refine (isNaN_cmp x w).mono ?_; rintro e w' ⟨rfl, rfl⟩
  go_wp2_with fail
  go_ret
  exact ⟨rfl, rfl⟩
def BinPost (xs : List Int) (k : Int) (w : World) (e : Ending) (w' : World) : Prop := ∃ i b, e = .returned (.tuple #[.int .i64 (i : Nat), .bool b]) ∧ i ≤ xs.length ∧ (∀ j, j < i → xs.getD j 0 < k) ∧ (∀ j, i ≤ j → j < xs.length → k ≤ xs.getD j 0) ∧ Upd [] w w'
set_option maxRecDepth 100000 in
set_option maxHeartbeats 2000000 in
theorem bin_ok (B : Nat) (xs : List Int) (v : Value) (k : Int) (w : World) (h : Ow encK 3 w B v xs) (hs : xs.Pairwise (· < ·)) (hl : xs.length ≤ 1000) :
    Calls Tryd.prog 53 #[v, .int .i64 k] w fun e w' => BinPost xs k w e w' := by
  obtain ⟨A, c, rfl, hnc, hcm⟩ := own_slice h
  obtain ⟨n, hn⟩ : ∃ n, xs.length = n := ⟨_, rfl⟩
  have HO : Hid (w.ownsRow B 3 1 (.slice A n c) n (flat encK xs)) := Lib.hid (by have := h; unfold Ow at this; rw [hn] at this; exact this)
  have HN := Lib.hid hn
  have HS := Lib.hid hs
  rw [hn] at hl hnc ⊢
  clear h hn hs
  go_enter Tryd.func53, Tryd.ntmps53
  go_wp2_with fail
  go_loopw [7, 8] (fun vi vj wr => ∃ i j : Nat, vi = .int .i64 i ∧ vj = .int .i64 j ∧ i ≤ j ∧ j ≤ n ∧ Hid (∀ p, p < i → xs.getD p 0 < k) ∧ Hid (∀ p, j ≤ p → p < n → k ≤ xs.getD p 0) ∧ Hid (Upd [] w wr)) (fun vi vj _ => ((intOf vj).toNat - (intOf vi).toNat))
  case atStart => exact ⟨0, n, rfl, rfl, by omega, by omega, Lib.hid (fun p hp => by omega), Lib.hid (fun p hp hpn => by omega), Lib.hid (.refl _ _)⟩
  case round =>
    obtain ⟨i, j, rfl, rfl, hij, hjn, HA, HB, HU⟩ := hrel
    by_cases hlt : i < j
    · have q0 : (i : Int) < (j : Int) := by omega
      obtain ⟨m, hm⟩ : ∃ m : Nat, ((i : Int) + (j : Int)) / 2 = (m : Int) := ⟨((i + j) / 2 : Nat), by omega⟩
      have m1 : i ≤ m := by omega
      have m2 : m < j := by omega
      obtain ⟨g, cg, cur, e1, _⟩ := own_form HO.out (by omega)
      injection e1 with e1 _ e1'
      subst e1 e1'
      obtain ⟨y, hy⟩ : ∃ y, xs[m]? = some y := ⟨_, List.getElem?_eq_getElem (by rw [HN.out]; omega)⟩
      have HY := Lib.hid hy
      have OW := Lib.hid (own_upd0 HO.out HU.out)
      have e0 : wr.cell? ⟨g, m, none⟩ = some (.int .i64 y) := by
        have := own_cell OW.out _ _ ((flat_get (E := encK) hy (j := 0) (by decide)).trans rfl)
        rwa [show m * encK.s + 0 = m by simp [encI]] at this
      have HG : Hid (xs.getD m 0 = y) := Lib.hid (by rw [List.getD_eq_getElem?_getD, hy]; rfl)
      have q1 : (0 : Int) ≤ (m : Int) := by omega
      have q2 : (m : Int) < (n : Int) := by omega
      clear hy
      go_wp2_with fail
      refine (less_int y k wr).mono ?_; rintro e w' ⟨rfl, rfl⟩
      by_cases hyk : y < k
      · have d : decide (y < k) = true := by simpa using hyk
        have HA2 : Hid (∀ p, p < m + 1 → xs.getD p 0 < k) := Lib.hid (fun p hp => by
          rcases Nat.lt_or_ge p m with h1 | h1
          · have h2 := List.pairwise_iff_getElem.1 HS.out p m (by rw [HN.out]; omega) (by rw [HN.out]; omega) h1
            rw [List.getD_eq_getElem?_getD, List.getElem?_eq_getElem (by rw [HN.out]; omega)]
            have h3 := (List.getElem?_eq_some_iff.1 HY.out).2
            rw [h3] at h2
            simp only [Option.getD_some]
            omega
          · obtain rfl : p = m := by omega
            rw [HG.out]; exact hyk)
        rw [d]
        clear hyk d e0
        go_wp2_with fail
        go_roundw
        case rel => exact ⟨m + 1, j, by go_num, rfl, by omega, by omega, HA2, HB, HU⟩
        case measure => simp [intOf]; omega
      · have d : decide (y < k) = false := by simpa using hyk
        have HB2 : Hid (∀ p, m ≤ p → p < n → k ≤ xs.getD p 0) := Lib.hid (fun p hp hpn => by
          rcases Nat.lt_or_ge m p with h1 | h1
          · have h2 := List.pairwise_iff_getElem.1 HS.out m p (by rw [HN.out]; omega) (by rw [HN.out]; omega) h1
            rw [List.getD_eq_getElem?_getD, List.getElem?_eq_getElem (by rw [HN.out]; omega)]
            have h3 := (List.getElem?_eq_some_iff.1 HY.out).2
            rw [h3] at h2
            simp only [Option.getD_some]
            omega
          · obtain rfl : p = m := by omega
            rw [HG.out]; omega)
        rw [d]
        clear hyk d e0
        go_wp2_with fail
        go_roundw
        case rel => exact ⟨i, m, rfl, rfl, by omega, by omega, HA, HB2, HU⟩
        case measure => simp [intOf]; omega
    · obtain rfl : i = j := by omega
      by_cases hin : i < n
      · obtain ⟨g, cg, cur, e1, _⟩ := own_form HO.out (by omega)
        injection e1 with e1 _ e1'
        subst e1 e1'
        obtain ⟨y, hy⟩ : ∃ y, xs[i]? = some y := ⟨_, List.getElem?_eq_getElem (by rw [HN.out]; omega)⟩
        have OW := Lib.hid (own_upd0 HO.out HU.out)
        have e0 : wr.cell? ⟨g, i, none⟩ = some (.int .i64 y) := by
          have := own_cell OW.out _ _ ((flat_get (E := encK) hy (j := 0) (by decide)).trans rfl)
          rwa [show i * encK.s + 0 = i by simp [encI]] at this
        have q1 : (0 : Int) ≤ (i : Int) := by omega
        have q2 : (i : Int) < (n : Int) := by omega
        clear hy
        by_cases hyk : y = k
        · have d : (y == k) = true := by simpa using hyk
          clear hyk
          go_wp2_with fail
          go_ret2
          unfold BinPost
          exact ⟨i, _, rfl, by rw [HN.out]; exact hjn, HA.out, by rw [HN.out]; exact HB.out, HU.out⟩
        · have d : (y == k) = false := by simpa using hyk
          clear hyk
          go_wp2_with fail
          refine (isNaN_int y _).mono ?_; rintro e w' ⟨rfl, rfl⟩
          go_wp2_with fail
          go_ret2
          unfold BinPost
          exact ⟨i, _, rfl, by rw [HN.out]; exact hjn, HA.out, by rw [HN.out]; exact HB.out, HU.out⟩
      · have q2 : ¬ (i : Int) < (n : Int) := by omega
        go_wp2_with fail
        go_ret2
        unfold BinPost
        exact ⟨i, _, rfl, by rw [HN.out]; exact hjn, HA.out, by rw [HN.out]; exact HB.out, HU.out⟩
end Go.Proofs.YtfbeaklplefojaaDoor

namespace Go.Proofs.YtfbeaklplefojaaDoor
open Go.RowKit Assoc MP
attribute [local go_sem] litStep_value

def encPr : Enc (Int × Int) := encII .i64 .i64
theorem elem_pair : Elem Tryd.prog 132 136 2 16 := .mk' (z := ((Tryd.prog.info? 136).bind (·.zero)).getD undef) Tryd.underlying132 (by kernel_rfl) (by kernel_rfl) (by omega)
/-- The error of whoever asks for an order. -/
def oErr (s : MS) (c : Int) : Int := if isC s c then (if s.K.getD c.toNat 0 = 3 then 0 else 17) else 3
def keysC (s : MS) (c : Int) : List Int := (coll s c.toNat).map (·.1)
def OrdPost (s : MS) (c : Int) (w : World) (e : Ending) (w' : World) : Prop := ∃ v u, e = .returned (.tuple #[v, u]) ∧ Upd [] w w' ∧
  ((oErr s c = 0 ∧ isC s c = true ∧ u = .nilIface ∧ Ow encK 3 w' w.heap.size v (keysC s c)) ∨ (oErr s c = 17 ∧ isC s c = true ∧ v = .slice none 0 0 ∧ u = .iface 39 (.int .i64 17)) ∨
   (oErr s c = 3 ∧ isC s c = false ∧ v = .slice none 0 0 ∧ ∃ g, u = .iface 48 (.pointer (some ⟨g, 0, none⟩)) ∧ Blk w' g 52 #[.int .i64 c, .int .i64 3]))
theorem good_kwf {s : MS} (h : MP.Good s) {i : Nat} (hi : i < s.L.length) : kwf (coll s i) := fun p hp => WalkArith.wf_i64 (h.kb _ (coll_mem hi) p hp)
set_option maxRecDepth 100000 in
set_option maxHeartbeats 4000000 in
theorem m_ordered (B sb : Nat) (F : List Nat) (s : MS) (c : Int) (w : World) (h : Mdl B sb F w s) :
    Calls Tryd.prog 52 #[.pointer (some ⟨sb, 0, none⟩), .int .i64 c] w fun e w' => OrdPost s c w e w' := by
  have H := Lib.hid h
  obtain ⟨g, vk, gc, cc, ms, hF, h⟩ := h
  have HF := Lib.hid hF
  have HS := Lib.hid h
  have HG := Lib.hid g
  have K8 := Lib.hid (show s.L.length ≤ 8 by have := g.k8; rw [g.kl] at this; exact this)
  clear g hF h
  go_enter Tryd.func52, Tryd.ntmps52
  go_wp2_with fail
  refine (m_coll B sb vk gc cc ms s c w HS.out K8.out).mono ?_
  rintro e w1 (⟨hc, rfl, i, m, rfl, hi, hm, rfl⟩ | ⟨hc, u1, gf, rfl, bf⟩)
  · obtain ⟨m', hm', him⟩ := HS.out.at_ hi
    obtain rfl : m' = m := by rw [hm] at hm'; exact (Option.some.inj hm').symm
    have HI := Lib.hid hc
    have HIM := Lib.hid him
    have HII := Lib.hid hi
    obtain ⟨Ak, ck, rfl, hnk, _⟩ := own_slice HS.out.k
    obtain ⟨NK, hNK⟩ : ∃ NK, s.K.length = NK := ⟨_, rfl⟩
    have hik : i < NK := by rw [← hNK, HG.out.kl]; exact hi
    have OK : Hid (w.ownsRow B 3 1 (.slice Ak NK ck) NK (flat encK s.K)) := Lib.hid (by have := HS.out.k; unfold Ow at this; rw [hNK] at this; exact this)
    obtain ⟨gk, cg, cur, e1, _⟩ := own_form OK.out (by omega)
    injection e1 with e1 _ e1'
    subst e1 e1'
    obtain ⟨y, hy⟩ : ∃ y, s.K[i]? = some y := ⟨_, List.getElem?_eq_getElem (by rw [hNK]; exact hik)⟩
    have e0 : w.cell? ⟨gk, i, none⟩ = some (.int .i64 y) := by
      have := own_cell OK.out _ _ ((flat_get (E := encK) hy (j := 0) (by decide)).trans rfl)
      rwa [show i * encK.s + 0 = i by simp [encI]] at this
    have c0 : w.cell? ⟨sb, 0, none⟩ = some (.slice (some ⟨gk, 0, none⟩) NK ck) := by rw [← hNK]; exact HS.out.box.cell 0
    have q1 : (0 : Int) ≤ (i : Int) := by omega
    have q2 : (i : Int) < (NK : Int) := by omega
    have HE : Hid (oErr s i = if y = 3 then 0 else 17) := Lib.hid (by unfold oErr; rw [hc, Int.toNat_natCast, List.getD_eq_getElem?_getD, hy]; rfl)
    clear hm hm' hi hc him hNK hy
    by_cases h3 : y = 3
    · have d : (y != 3) = false := by simpa using h3
      have HE0 : Hid (oErr s i = 0) := Lib.hid (by rw [HE.out, if_pos h3])
      clear h3
      go_wp2_with fail
      refine (keysM (some m') w).mono ?_; rintro e w1 ⟨rfl, rfl⟩
      have U1 : Hid (Upd [] w (w.alloc (.cells #[.map (some m')] 65))) := Lib.hid ((Upd.refl [] w).alloc _)
      have Y1 : Hid (Blk (w.alloc (.cells #[.map (some m')] 65)) w.heap.size 65 #[.map (some m')]) := Lib.hid (Blk.new w _ _)
      clear c0 e0
      go_wp2_with fail
      generalize (w.alloc (.cells #[.map (some m')] 65)) = w2 at *
      refine (sortedKeys w.heap.size m' (coll s i) w2 Y1.out (HIM.out.upd U1.out (by simp)) (HG.out.srt _ (coll_mem HII.out)) (good_kwf HG.out HII.out) (HG.out.len _ (coll_mem HII.out))).mono ?_
      rintro e w3 ⟨v, rfl, o3, u3⟩
      have O3 := Lib.hid (own_base o3 U1.out.size)
      have U3 := Lib.hid (U1.out.trans u3)
      clear o3 u3
      go_wp2_with fail
      go_ret2
      unfold OrdPost
      exact ⟨_, _, rfl, U3.out, .inl ⟨HE0.out, HI.out, rfl, O3.out⟩⟩
    · have d : (y != 3) = true := by simpa using h3
      have HE0 : Hid (oErr s i = 17) := Lib.hid (by rw [HE.out, if_neg h3])
      clear h3
      go_wp2_with fail
      go_ret2
      unfold OrdPost
      exact ⟨_, _, rfl, .refl _ _, .inr (.inl ⟨HE0.out, HI.out, rfl, rfl⟩)⟩
  · have U1 := Lib.hid u1
    have BF := Lib.hid bf
    have HI := Lib.hid hc
    clear u1 bf hc
    go_wp2_with fail
    go_ret2
    unfold OrdPost
    exact ⟨_, _, rfl, U1.out, .inr (.inr ⟨by unfold oErr; rw [HI.out]; rfl, HI.out, rfl, gf, rfl, BF.out⟩)⟩
theorem oErr_err {s : MS} {c : Int} {w : World} {u v : Value} (h : (oErr s c = 17 ∧ isC s c = true ∧ v = .slice none 0 0 ∧ u = .iface 39 (.int .i64 17)) ∨
   (oErr s c = 3 ∧ isC s c = false ∧ v = .slice none 0 0 ∧ ∃ g, u = .iface 48 (.pointer (some ⟨g, 0, none⟩)) ∧ Blk w g 52 #[.int .i64 c, .int .i64 3])) : ErrV w u (oErr s c) (if isC s c then 0 else c) := by
  rcases h with ⟨h1, h2, _, rfl⟩ | ⟨h1, h2, _, g, rfl, hb⟩
  · rw [h1, h2]; exact ErrV.errno _ 17 (by omega) (by omega)
  · rw [h1, h2]; exact ErrV.fault (no := 3) (at_ := c) hb (by omega) (by omega)
theorem ceil_at {l : AL} {k : Int} {i : Nat} (h1 : ∀ j, j < i → (l.map (·.1)).getD j 0 < k) (h2 : ∀ j, i ≤ j → j < (l.map (·.1)).length → k ≤ (l.map (·.1)).getD j 0) : ceilL l k = (l.map (·.1))[i]? := by
  unfold ceilL
  rw [List.getElem?_map]
  congr 1
  rw [List.length_map] at h2
  rcases Nat.lt_or_ge i l.length with hi | hi
  · rw [List.getElem?_eq_getElem hi, List.find?_eq_some_iff_getElem]
    have h3 := h2 i (Nat.le_refl _) hi
    rw [List.getD_eq_getElem?_getD, List.getElem?_map, List.getElem?_eq_getElem hi] at h3
    refine ⟨by simpa using h3, i, hi, rfl, fun j hj => ?_⟩
    have h4 := h1 j hj
    rw [List.getD_eq_getElem?_getD, List.getElem?_map, List.getElem?_eq_getElem (by omega)] at h4
    simp at h4 ⊢
    exact h4
  · rw [List.getElem?_eq_none hi, List.find?_eq_none]
    intro p hp
    obtain ⟨j, hj, rfl⟩ := List.getElem_of_mem hp
    have h4 := h1 j (by omega)
    rw [List.getD_eq_getElem?_getD, List.getElem?_map, List.getElem?_eq_getElem hj] at h4
    simp at h4 ⊢
    exact h4
/-- What Ceil tells. -/
def ceilC (s : MS) (c k : Int) : Option Int := if oErr s c = 0 then ceilL (coll s c.toNat) k else none
def CeilPost (s : MS) (c k : Int) (w : World) (e : Ending) (w' : World) : Prop := ∃ u, e = .returned (.tuple #[.int .i64 ((ceilC s c k).getD 0), .bool (ceilC s c k).isSome, u]) ∧ ErrV w' u (oErr s c) (if isC s c then 0 else c) ∧ Upd [] w w'
theorem keys_len {s : MS} {c : Int} (h : MP.Good s) (hc : isC s c = true) : (keysC s c).length ≤ 100 ∧ (keysC s c).Pairwise (· < ·) := by
  obtain ⟨i, rfl, hi⟩ := isC_form hc
  unfold keysC
  rw [Int.toNat_natCast, List.length_map]
  exact ⟨h.len _ (coll_mem hi), srt_keys (h.srt _ (coll_mem hi))⟩
set_option maxRecDepth 100000 in
set_option maxHeartbeats 4000000 in
theorem m_ceil (B sb : Nat) (F : List Nat) (s : MS) (c k : Int) (w : World) (h : Mdl B sb F w s) :
    Calls Tryd.prog 48 #[.pointer (some ⟨sb, 0, none⟩), .int .i64 c, .int .i64 k] w fun e w' => CeilPost s c k w e w' := by
  have H := Lib.hid h
  clear h
  go_enter Tryd.func48, Tryd.ntmps48
  go_wp2_with fail
  refine (m_ordered B sb F s c w H.out).mono ?_
  rintro e w1 ⟨v, u, rfl, u1, hor⟩
  have U1 := Lib.hid u1
  clear u1
  rcases hor with ⟨h1, h2, rfl, ho⟩ | hor
  · have HE := Lib.hid h1
    have HC := Lib.hid h2
    have KL := Lib.hid (keys_len H.out.1 h2)
    obtain ⟨A, ca, rfl, hnc, _⟩ := own_slice ho
    obtain ⟨n, hn⟩ : ∃ n, (keysC s c).length = n := ⟨_, rfl⟩
    have HN := Lib.hid hn
    have HO := Lib.hid ho
    rw [hn] at hnc HO ⊢
    clear ho hn h1 h2
    go_wp2_with fail
    refine (bin_ok _ (keysC s c) (.slice A n ca) k w1 HO.out KL.out.2 (by have := KL.out.1; omega)).mono ?_
    rintro e w2 ⟨i, b, rfl, hi, ha, hb, u2⟩
    have HCE : Hid (ceilC s c k = (keysC s c)[i]?) := Lib.hid (by unfold ceilC; rw [HE.out, if_pos rfl]; exact ceil_at ha hb)
    have U2 := Lib.hid (U1.out.trans u2)
    rw [HN.out] at hi
    have O2 := Lib.hid (HO.out.upd0 u2)
    clear ha hb u2
    by_cases hin : i = n
    · have d : ((i : Int) == (n : Int)) = true := by simp [hin]
      have HX : Hid (ceilC s c k = none) := Lib.hid (by rw [HCE.out, List.getElem?_eq_none (by rw [HN.out]; omega)])
      clear hin
      go_wp2_with fail
      go_ret3
      unfold CeilPost
      rw [HX.out, HE.out, HC.out]
      exact ⟨_, rfl, ErrV.nil _, U2.out⟩
    · have d : ((i : Int) == (n : Int)) = false := by simp; omega
      obtain ⟨y, hy⟩ : ∃ y, (keysC s c)[i]? = some y := ⟨_, List.getElem?_eq_getElem (by rw [HN.out]; omega)⟩
      have HX : Hid (ceilC s c k = some y) := Lib.hid (by rw [HCE.out, hy])
      have ON : Hid (w2.ownsRow w.heap.size 3 1 (.slice A n ca) n (flat encK (keysC s c))) := Lib.hid (by have := O2.out; unfold Ow at this; rw [HN.out] at this; exact this)
      obtain ⟨g, cg, cur, e1, _⟩ := own_form ON.out (by omega)
      injection e1 with e1 _ e1'
      subst e1 e1'
      have e0 : w2.cell? ⟨g, i, none⟩ = some (.int .i64 y) := by
        have := own_cell ON.out _ _ ((flat_get (E := encK) hy (j := 0) (by decide)).trans rfl)
        rwa [show i * encK.s + 0 = i by simp [encI]] at this
      have q1 : (0 : Int) ≤ (i : Int) := by omega
      have q2 : (i : Int) < (n : Int) := by omega
      clear hy hin
      go_wp2_with fail
      go_ret3
      unfold CeilPost
      rw [HX.out, HE.out, HC.out]
      exact ⟨_, rfl, ErrV.nil _, U2.out⟩
  · have EV := Lib.hid (oErr_err hor)
    have HNE : Hid (ceilC s c k = none) := Lib.hid (by unfold ceilC; rw [if_neg (by rcases hor with ⟨h, _⟩ | ⟨h, _⟩ <;> omega)])
    have HU : (∃ x, u = .iface 39 x) ∨ ∃ g, u = .iface 48 (.pointer (some ⟨g, 0, none⟩)) := by
      rcases hor with ⟨_, _, _, h⟩ | ⟨_, _, _, g, h, _⟩
      · exact .inl ⟨_, h⟩
      · exact .inr ⟨g, h⟩
    clear hor
    rcases HU with ⟨x, rfl⟩ | ⟨g, rfl⟩
    · go_wp2_with fail
      go_ret3
      unfold CeilPost
      rw [HNE.out]
      exact ⟨_, rfl, EV.out, U1.out⟩
    · go_wp2_with fail
      go_ret3
      unfold CeilPost
      rw [HNE.out]
      exact ⟨_, rfl, EV.out, U1.out⟩
end Go.Proofs.YtfbeaklplefojaaDoor

namespace Go.Proofs.YtfbeaklplefojaaDoor
open Go.RowKit Assoc MP
attribute [local go_sem] litStep_value

def rangeK (xs : List Int) (a b : Int) : Nat := (xs.filter (fun x => decide (a ≤ x) && decide (x ≤ b))).length
theorem rangeK_snoc (xs : List Int) (a b x : Int) : rangeK (xs ++ [x]) a b = rangeK xs a b + if a ≤ x ∧ x ≤ b then 1 else 0 := by
  unfold rangeK
  rw [List.filter_append, List.length_append]
  by_cases h : a ≤ x ∧ x ≤ b
  · simp [h]
  · have : (decide (a ≤ x) && decide (x ≤ b)) = false := by simpa using h
    simp [this, h]
theorem rangeL_eq (l : AL) (a b : Int) : rangeL l a b = rangeK (l.map (·.1)) a b := by
  unfold rangeL rangeK
  rw [List.filter_map, List.length_map]
  rfl
theorem take_snoc_ {α : Type} {L : List α} {k : Nat} {x : α} (h : L[k]? = some x) : L.take (k + 1) = L.take k ++ [x] := by
  obtain ⟨hk, rfl⟩ := List.getElem?_eq_some_iff.1 h
  exact List.take_succ_eq_append_getElem hk
def rangeC (s : MS) (c a b : Int) : Nat := if oErr s c = 0 then rangeL (coll s c.toNat) a b else 0
def MRangePost (s : MS) (c a b : Int) (w : World) (e : Ending) (w' : World) : Prop := ∃ u, e = .returned (.tuple #[.int .i64 (rangeC s c a b : Nat), u]) ∧ ErrV w' u (oErr s c) (if isC s c then 0 else c) ∧ Upd [] w w'
set_option maxRecDepth 100000 in
set_option maxHeartbeats 4000000 in
theorem m_range (B sb : Nat) (F : List Nat) (s : MS) (c a b : Int) (w : World) (h : Mdl B sb F w s) :
    Calls Tryd.prog 49 #[.pointer (some ⟨sb, 0, none⟩), .int .i64 c, .int .i64 a, .int .i64 b] w fun e w' => MRangePost s c a b w e w' := by
  have H := Lib.hid h
  clear h
  go_enter Tryd.func49, Tryd.ntmps49
  go_wp2_with fail
  refine (m_ordered B sb F s c w H.out).mono ?_
  rintro e w1 ⟨v, u, rfl, u1, hor⟩
  have U1 := Lib.hid u1
  clear u1
  rcases hor with ⟨h1, h2, rfl, ho⟩ | hor
  · have HE := Lib.hid h1
    have HC := Lib.hid h2
    have KL := Lib.hid (keys_len H.out.1 h2)
    obtain ⟨A, ca, rfl, hnc, _⟩ := own_slice ho
    obtain ⟨n, hn⟩ : ∃ n, (keysC s c).length = n := ⟨_, rfl⟩
    have HN := Lib.hid hn
    have HO := Lib.hid ho
    have ON : Hid (w1.ownsRow w.heap.size 3 1 (.slice A n ca) n (flat encK (keysC s c))) := Lib.hid (by have := ho; unfold Ow at this; rw [hn] at this; exact this)
    have hn1 : n ≤ 100 := hn ▸ KL.out.1
    rw [hn] at hnc ⊢
    clear ho hn h1 h2
    go_wp2_with fail
    go_loopw [12, 26] (fun vm vk wr => ∃ k : Nat, vk = .int .i64 k ∧ vm = .int .i64 (rangeK ((keysC s c).take k) a b : Nat) ∧ k ≤ n ∧ Hid (rangeK ((keysC s c).take k) a b ≤ k) ∧ Hid (Upd [] w1 wr)) (fun _ v _ => n - (intOf v).toNat)
    case atStart => exact ⟨0, rfl, rfl, by omega, Lib.hid (by simp [rangeK]), Lib.hid (.refl _ _)⟩
    case round =>
      obtain ⟨k, rfl, rfl, hk, HR, HU⟩ := hrel
      obtain ⟨r, hr⟩ : ∃ r, rangeK ((keysC s c).take k) a b = r := ⟨_, rfl⟩
      have HRR := Lib.hid hr
      have hrk : r ≤ k := hr ▸ HR.out
      rw [hr]
      clear hr
      by_cases hkn : k < n
      · obtain ⟨y, hy⟩ : ∃ y, (keysC s c)[k]? = some y := ⟨_, List.getElem?_eq_getElem (by rw [HN.out]; exact hkn)⟩
        obtain ⟨g, cg, cur, e1, _⟩ := own_form ON.out (by omega)
        injection e1 with e1 _ e1'
        subst e1 e1'
        have e0 : wr.cell? ⟨g, k, none⟩ = some (.int .i64 y) := by
          have := own_cell (own_upd0 ON.out HU.out) _ _ ((flat_get (E := encK) hy (j := 0) (by decide)).trans rfl)
          rwa [show k * encK.s + 0 = k by simp [encI]] at this
        have HT := Lib.hid (take_snoc_ hy)
        have q1 : (0 : Int) ≤ (k : Int) := by omega
        have q2 : (k : Int) < (n : Int) := by omega
        clear hy
        by_cases h1 : a ≤ y
        · have d1 : decide (a ≤ y) = true := by simpa using h1
          by_cases h2 : y ≤ b
          · have d2 : decide (y ≤ b) = true := by simpa using h2
            have HZ : Hid (rangeK ((keysC s c).take (k + 1)) a b = r + 1) := Lib.hid (by rw [HT.out, rangeK_snoc, HRR.out, if_pos ⟨h1, h2⟩])
            go_wp2_with fail
            go_roundw
            case rel => exact ⟨k + 1, by go_num, by rw [HZ.out]; go_num, by omega, Lib.hid (by rw [HZ.out]; omega), HU⟩
            case measure => simp [intOf]; omega
          · have d2 : decide (y ≤ b) = false := by simpa using h2
            have HZ : Hid (rangeK ((keysC s c).take (k + 1)) a b = r + 0) := Lib.hid (by rw [HT.out, rangeK_snoc, HRR.out, if_neg (fun h => h2 h.2)])
            go_wp2_with fail
            go_roundw
            case rel => exact ⟨k + 1, by go_num, by rw [HZ.out]; go_num, by omega, Lib.hid (by rw [HZ.out]; omega), HU⟩
            case measure => simp [intOf]; omega
        · have d1 : decide (a ≤ y) = false := by simpa using h1
          have HZ : Hid (rangeK ((keysC s c).take (k + 1)) a b = r + 0) := Lib.hid (by rw [HT.out, rangeK_snoc, HRR.out, if_neg (fun h => h1 h.1)])
          go_wp2_with fail
          go_roundw
          case rel => exact ⟨k + 1, by go_num, by rw [HZ.out]; go_num, by omega, Lib.hid (by rw [HZ.out]; omega), HU⟩
          case measure => simp [intOf]; omega
      · obtain rfl : k = n := by omega
        go_wp2_with fail
        go_ret2
        unfold MRangePost
        have HX : rangeC s c a b = r := by
          unfold rangeC
          rw [HE.out, if_pos rfl, rangeL_eq, ← HRR.out, List.take_of_length_le (by rw [HN.out]; exact Nat.le_refl _)]
          rfl
        rw [HX, HE.out, HC.out]
        exact ⟨_, rfl, ErrV.nil _, U1.out.trans HU.out⟩
  · have EV := Lib.hid (oErr_err hor)
    have HNE : Hid (rangeC s c a b = 0) := Lib.hid (by unfold rangeC; rw [if_neg (by rcases hor with ⟨h, _⟩ | ⟨h, _⟩ <;> omega)])
    have HU : (∃ x, u = .iface 39 x) ∨ ∃ g, u = .iface 48 (.pointer (some ⟨g, 0, none⟩)) := by
      rcases hor with ⟨_, _, _, h⟩ | ⟨_, _, _, g, h, _⟩
      · exact .inl ⟨_, h⟩
      · exact .inr ⟨g, h⟩
    clear hor
    rcases HU with ⟨x, rfl⟩ | ⟨g, rfl⟩
    · go_wp2_with fail
      go_ret2
      unfold MRangePost
      rw [HNE.out]
      exact ⟨_, rfl, EV.out, U1.out⟩
    · go_wp2_with fail
      go_ret2
      unfold MRangePost
      rw [HNE.out]
      exact ⟨_, rfl, EV.out, U1.out⟩
/-- What a collection lists. -/
def listC (s : MS) (c : Int) : AL := if isC s c then coll s c.toNat else []
def ListPost (s : MS) (c : Int) (w : World) (e : Ending) (w' : World) : Prop := ∃ v u, e = .returned (.tuple #[v, u]) ∧ ErrV w' u (if isC s c then 0 else 3) (if isC s c then 0 else c) ∧ Ow encPr 136 w' w.heap.size v (listC s c) ∧ Upd [] w w'
def slLen_ : Value → Nat
  | .slice _ n _ => n
  | _ => 0
set_option maxRecDepth 100000 in
set_option maxHeartbeats 4000000 in
theorem m_list (B sb : Nat) (F : List Nat) (s : MS) (c : Int) (w : World) (h : Mdl B sb F w s) :
    Calls Tryd.prog 54 #[.pointer (some ⟨sb, 0, none⟩), .int .i64 c] w fun e w' => ListPost s c w e w' := by
  have H := Lib.hid h
  obtain ⟨g, vk, gc, cc, ms, hF, h⟩ := h
  have HF := Lib.hid hF
  have HS := Lib.hid h
  have HG := Lib.hid g
  have K8 := Lib.hid (show s.L.length ≤ 8 by have := g.k8; rw [g.kl] at this; exact this)
  clear g hF h
  go_enter Tryd.func54, Tryd.ntmps54
  go_wp2_with fail
  refine (m_coll B sb vk gc cc ms s c w HS.out K8.out).mono ?_
  rintro e w1 (⟨hc, rfl, i, m, rfl, hi, hm, rfl⟩ | ⟨hc, u1, gf, rfl, bf⟩)
  · obtain ⟨m', hm', him⟩ := HS.out.at_ hi
    obtain rfl : m' = m := by rw [hm] at hm'; exact (Option.some.inj hm').symm
    have HI := Lib.hid hc
    have HIM := Lib.hid him
    have HII := Lib.hid hi
    obtain ⟨l, hl⟩ : ∃ l, coll s i = l := ⟨_, rfl⟩
    have HL : Hid (listC s i = l) := Lib.hid (by unfold listC; rw [hc, Int.toNat_natCast]; exact hl)
    have SR : Hid (Srt l ∧ kwf l ∧ l.length ≤ 100) := Lib.hid ⟨hl ▸ HG.out.srt _ (coll_mem hi), hl ▸ good_kwf HG.out hi, hl ▸ HG.out.len _ (coll_mem hi)⟩
    rw [hl] at HIM
    clear hm hm' hi hc him hl
    go_wp2_with fail
    refine (keysM (some m') w).mono ?_; rintro e w1 ⟨rfl, rfl⟩
    have U1 : Hid (Upd [] w (w.alloc (.cells #[.map (some m')] 65))) := Lib.hid ((Upd.refl [] w).alloc _)
    have Y1 : Hid (Blk (w.alloc (.cells #[.map (some m')] 65)) w.heap.size 65 #[.map (some m')]) := Lib.hid (Blk.new w _ _)
    go_wp2_with fail
    generalize (w.alloc (.cells #[.map (some m')] 65)) = w2 at *
    refine (sortedKeys w.heap.size m' l w2 Y1.out (HIM.out.upd U1.out (by simp)) SR.out.1 SR.out.2.1 SR.out.2.2).mono ?_
    rintro e w3 ⟨v, rfl, o3, u3⟩
    have U3 := Lib.hid (U1.out.trans u3)
    obtain ⟨A, ca, rfl, hnc, _⟩ := own_slice o3
    rw [List.length_map] at hnc ⊢
    obtain ⟨n, hn⟩ : ∃ n, l.length = n := ⟨_, rfl⟩
    have HN := Lib.hid hn
    have ON : Hid (w3.ownsRow w2.heap.size 3 1 (.slice A n ca) n (flat encK (l.map (·.1)))) := Lib.hid (by have := o3; unfold Ow at this; rw [List.length_map, hn] at this; exact this)
    have hn1 : n ≤ 100 := hn ▸ SR.out.2.2
    rw [hn] at hnc ⊢
    clear o3 u3 hn Y1 U1
    go_wp2_with fail
    go_loopw [8, 24] (fun vl vk wr => ∃ k : Nat, vk = .int .i64 k ∧ k ≤ n ∧ Hid (Ow encPr 136 wr w3.heap.size vl (l.take k) ∧ Upd [] w3 wr)) (fun _ v _ => n - (intOf v).toNat)
    case atStart => exact ⟨0, rfl, by omega, Lib.hid ⟨Ow.nil _ _ _ _, .refl _ _⟩⟩
    case round =>
      obtain ⟨k, rfl, hk, HK⟩ := hrel
      obtain ⟨ho, hu⟩ := HK.out
      rename World => wi
      obtain ⟨Al, cl, rfl, _, _⟩ := own_slice ho
      obtain ⟨q, hq⟩ : ∃ q, (l.take k).length = q := ⟨_, rfl⟩
      have hqk : q = k := by rw [← hq, List.length_take, HN.out]; omega
      subst hqk
      have O1 : Hid (wi.ownsRow w3.heap.size 136 2 (.slice Al q cl) q (flat encPr (l.take q))) := Lib.hid (by have := ho; unfold Ow at this; rw [hq] at this; exact this)
      have HUI := Lib.hid hu
      rw [hq]
      clear HK ho hu hq
      by_cases hkn : q < n
      · obtain ⟨⟨xk, xv⟩, hx⟩ : ∃ x, l[q]? = some x := ⟨_, List.getElem?_eq_getElem (by rw [HN.out]; exact hkn)⟩
        obtain ⟨g, cg, cur, e1, _⟩ := own_form ON.out (by omega)
        injection e1 with e1 _ e1'
        subst e1 e1'
        have e0 : wi.cell? ⟨g, q, none⟩ = some (.int .i64 xk) := by
          have := own_cell (own_upd0 ON.out HUI.out) _ _ ((flat_get (E := encK) (L := l.map (·.1)) (a := xk) (by rw [List.getElem?_map, hx]; rfl) (j := 0) (by decide)).trans rfl)
          rwa [show q * encK.s + 0 = q by simp [encI]] at this
        have l0 : (Instr.lookup 65 (.map (some m')) (.int .i64 xk) false).run Tryd.prog wi = .ok (.int .i64 xv) wi := by
          have hr := run_lookup_int' (P := Tryd.prog) (z := .int .i64 0) (mt := 65) Tryd.underlying65 Tryd.underlying3 (w := wi) (by kernel_rfl) (HIM.out.upd (U3.out.trans HUI.out) (by simp)) xk
          rw [hr]
          unfold mapI
          rw [get_mem SR.out.1 (List.mem_of_getElem? hx)]
          rfl
        have HT := Lib.hid (take_snoc_ hx)
        have q1 : (0 : Int) ≤ (q : Int) := by omega
        have q2 : (q : Int) < (n : Int) := by omega
        clear hx
        go_wp2_with (at_builtin; refine stopped ?_)
        refine Lib.hid ?_
        refine wpList_app _ (by rfl) (.tmp 28) (.tmp 34) _ (by rfl) elem_pair (.slice Al q cl) _ (by rfl) (by rfl) (own_upd0 O1.out ((Upd.refl [] wi).alloc _)) (.of_blk (Blk.new _ _ _) (m := 1) 1 rfl) (by intro u hu; simp at hu; rcases hu with rfl | rfl <;> rfl) (by simp only [maxLen]; omega) (by omega) (Nat.le_trans HUI.out.size (by simp)) ?_
        intro v5 w5 o5 u5 b5
        obtain ⟨A5, c5, rfl, _, _⟩ := own_slice o5
        have U5' : Hid (Upd [] w3 w5) := Lib.hid (HUI.out.trans' (((Upd.refl _ wi).alloc _).trans u5) (fun k hk => .inr (own_lt O1.out (by simpa using hk)).1))
        have O5 : Hid (Ow encPr 136 w5 w3.heap.size (.slice A5 (q + 1) c5) (l.take (q + 1))) := Lib.hid (by
          rw [HT.out]
          have e1 : flat encPr (l.take q) ++ #[Value.int .i64 xk, Value.int .i64 xv].toList = flat encPr (l.take q ++ [(xk, xv)]) := by rw [flat_append]; rfl
          rw [e1] at o5
          unfold Ow
          rw [List.length_append, List.length_take, HN.out, Nat.min_eq_left (by omega)]
          exact o5)
        clear o5 u5 b5
        go_wp2_with fail
        go_roundw
        case rel => exact ⟨q + 1, by go_num, by omega, Lib.hid ⟨O5.out, U5'.out⟩⟩
        case measure => simp [intOf]; omega
      · obtain rfl : q = n := by omega
        go_wp2_with fail
        go_ret2
        unfold ListPost
        rw [HI.out, HL.out]
        refine ⟨_, _, rfl, ErrV.nil _, ?_, U3.out.trans HUI.out⟩
        have := own_base O1.out U3.out.size
        rw [List.take_of_length_le (by rw [HN.out]; exact Nat.le_refl _)] at this
        unfold Ow
        rw [HN.out]
        exact this
  · have U1 := Lib.hid u1
    have BF := Lib.hid bf
    have HI := Lib.hid hc
    clear u1 bf hc
    go_wp2_with fail
    go_ret2
    unfold ListPost listC
    rw [HI.out]
    exact ⟨_, _, rfl, ErrV.fault (no := 3) (at_ := c) BF.out (by omega) (by omega), Ow.nil _ _ _ _, U1.out⟩
end Go.Proofs.YtfbeaklplefojaaDoor

namespace Go.Proofs.YtfbeaklplefojaaDoor.Ev
open Go.RowKit Assoc MP
attribute [local go_sem] litStep_value

abbrev ints (l : List Int) : List Value := l.map (Value.int .i64)
section
variable {H rb sb : Nat} {F FM T : List Nat} {vt : Value} {ks : List Int} {w w' : World} {r : RS}
/-- A register is set. -/
theorem RunSt.setR (h : RunSt H rb sb FM vt ks w r) {i : Nat} (hi : i < 9) (x : Int) : RunSt H rb sb FM vt ks (w.setCell ⟨rb, 1 + i, none⟩ (.int .i64 x)) { r with regs := r.regs.set i x } := by
  have hu : Upd [rb] w (w.setCell ⟨rb, 1 + i, none⟩ (.int .i64 x)) := Upd.setCell (p := ⟨rb, 1 + i, none⟩) (.refl _ _) (.inl (by simp)) _
  exact ⟨h.blk.set_eq (runC_setR (by rw [h.ok.regs]; exact hi) x), h.mdl.upd hu (fun k hk => by simp; rintro rfl; exact h.rm hk), own_upd h.told hu (fun b hb => by simpa using h.tr b hb), h.low, h.rm, h.tm, ⟨h.ok.K, by simp [h.ok.regs], h.ok.steps, h.ok.told⟩⟩
theorem RunSt.setN (h : RunSt H rb sb FM vt ks w r) {n : Nat} (hn : n ≤ 1000) : RunSt H rb sb FM vt ks (w.setCell ⟨rb, 11, none⟩ (.int .i64 n)) { r with steps := n } := by
  have hu : Upd [rb] w (w.setCell ⟨rb, 11, none⟩ (.int .i64 n)) := Upd.setCell (p := ⟨rb, 11, none⟩) (.refl _ _) (.inl (by simp)) _
  exact ⟨h.blk.set_eq (runC_setN h.ok.regs n), h.mdl.upd hu (fun k hk => by simp; rintro rfl; exact h.rm hk), own_upd h.told hu (fun b hb => by simpa using h.tr b hb), h.low, h.rm, h.tm, ⟨h.ok.K, h.ok.regs, hn, h.ok.told⟩⟩
theorem frm_rb (o : Nat) (v : Value) : Frm (fpR rb vt FM) (fpR rb vt FM) w (w.setCell ⟨rb, o, none⟩ v) :=
  ⟨Upd.setCell (p := ⟨rb, o, none⟩) (.refl _ _) (.inl (List.mem_cons_self ..)) _, fun k hk => .inl hk⟩
/-- More is told. -/
theorem RunSt.push (h : RunSt H rb sb FM vt ks w r) {w1 w5 : World} {v5 : Value} {news : List Int} {m : Nat} (u1 : Upd [] w w1) (o5 : w5.ownsRow H 3 1 v5 (r.told.length + m) (ints r.told ++ ints news)) (u5 : Upd vt.ownBlock.toList w1 w5)
    (b5 : v5.ownBlock = vt.ownBlock ∨ v5.ownBlock = some w1.heap.size) (hm : news.length = m) (hl : r.told.length + m ≤ 201 * 1000) :
    RunSt H rb sb FM v5 ks (w5.setCell ⟨rb, 10, none⟩ v5) { r with told := r.told ++ news } ∧ Frm (fpR rb vt FM) (fpR rb v5 FM) w (w5.setCell ⟨rb, 10, none⟩ v5) := by
  have u15 : Upd vt.ownBlock.toList w w5 := (u1.mono (by simp)).trans u5
  have hT : ∀ b, vt.ownBlock = some b → b ≠ rb := h.tr
  have hbr : Blk w5 rb 45 (runC sb r.regs vt r.steps) := h.blk.upd u15 (fun hm => hT rb (by simpa using hm) rfl)
  have hv : ∀ b, v5.ownBlock = some b → b ≠ rb := fun b hb e => by
    subst e
    exact own_type o5 hbr (by decide) hb
  have hu : Upd [rb] w5 (w5.setCell ⟨rb, 10, none⟩ v5) := Upd.setCell (p := ⟨rb, 10, none⟩) (.refl _ _) (.inl (by simp)) _
  have hM : Mdl H sb FM w5 r.s := h.mdl.upd u15 (fun k hk hm => h.tm k (by simpa using hm) hk)
  refine ⟨⟨hbr.set_eq (runC_setT h.ok.regs v5), hM.upd hu (fun k hk => by simp; rintro rfl; exact h.rm hk), ?_, h.low, h.rm, fun b hb => ?_, ⟨h.ok.K, h.ok.regs, h.ok.steps, by rw [List.length_append, hm]; exact hl⟩⟩, ⟨?_, fun k hk => ?_⟩⟩
  · have := own_upd o5 hu (fun b hb => by simpa using hv b hb)
    rw [List.length_append, hm, List.map_append]
    exact this
  · rcases b5 with b5 | b5
    · exact h.tm b (b5 ▸ hb)
    · intro hk
      have h1 := (h.mdl.lt b hk).2
      have h2 := u1.size
      rw [hb] at b5
      injection b5 with b5
      omega
  · refine (u15.mono (fun x hx => .inl ?_)).trans (hu.mono (fun x hx => .inl ?_))
    · unfold fpR; rw [List.mem_cons, List.mem_append]; exact .inr (.inl hx)
    · unfold fpR; rw [List.mem_cons]; exact .inl (by simpa using hx)
  · unfold fpR at hk ⊢
    rw [List.mem_cons, List.mem_append] at hk
    rcases hk with rfl | hk | hk
    · exact .inl (List.mem_cons_self ..)
    · rcases b5 with b5 | b5
      · left; rw [List.mem_cons, List.mem_append, ← b5]; exact .inr (.inl hk)
      · right
        rw [b5] at hk
        simp at hk
        rw [hk]
        exact u1.size
    · left; rw [List.mem_cons, List.mem_append]; exact .inr (.inr hk)
end
def RunPost (H rb : Nat) (F : List Nat) (ks : List Int) (r' : RS) (w w' : World) : Prop := ∃ F', Run H rb F' ks w' r' ∧ Frm F F' w w'
theorem elem_int' : Elem Tryd.prog 24 3 1 8 := elem_int
set_option maxRecDepth 100000 in
set_option maxHeartbeats 2000000 in
theorem tell_ok {H rb : Nat} {F : List Nat} {ks : List Int} {r : RS} (reg n : Int) (w : World) (h : Run H rb F ks w r) (h1 : 0 ≤ reg) (h8 : reg ≤ 8) (hH : H ≤ w.heap.size) (hl : r.told.length + 1 ≤ 201 * 1000) :
    Calls Tryd.prog 44 #[.pointer (some ⟨rb, 0, none⟩), .int .i64 reg, .int .i64 n] w fun e w' => e = .returned (.tuple #[]) ∧ RunPost H rb F ks (tell r reg n) w w' := by
  obtain ⟨sb, FM, vt, rfl, h⟩ := h
  obtain ⟨i, rfl⟩ : ∃ i : Nat, reg = i := ⟨reg.toNat, by omega⟩
  have HT : Hid (tell r i n = { r with regs := r.regs.set i n, told := r.told ++ [n] }) := Lib.hid (by unfold tell; rw [Int.toNat_natCast])
  have H1 := Lib.hid (h.setR (i := i) (by omega) n)
  have F1 : Hid (Frm (fpR rb vt FM) (fpR rb vt FM) w (w.setCell ⟨rb, 1 + i, none⟩ (.int .i64 n))) := Lib.hid (frm_rb _ _)
  obtain ⟨x, hx⟩ : ∃ x, r.regs[i]? = some x := ⟨_, List.getElem?_eq_getElem (by rw [h.ok.regs]; omega)⟩
  have cx := h.reg hx
  obtain ⟨c0, c10, c11, cf, cl⟩ := h.cells
  have q1 : (0 : Int) ≤ (i : Int) := by omega
  have q2 : (i : Int) < 9 := by omega
  obtain ⟨e0, e10, e11, ef, el⟩ := H1.out.cells
  clear h hx
  go_enter Tryd.func44, Tryd.ntmps44
  go_wp2_with (at_builtin; refine stopped ?_)
  clear c0 c10 c11 cf cl cx e0 e10 e11 ef el
  have HB : Hid (H ≤ (w.setCell ⟨rb, 1 + i, none⟩ (.int .i64 n)).heap.size) := Lib.hid (Nat.le_trans hH F1.out.upd.size)
  have SZ : Hid ((w.setCell ⟨rb, 1 + i, none⟩ (.int .i64 n)).heap.size = w.heap.size) := Lib.hid (by simp [World.setCell])
  have T1 : Hid ((w.setCell ⟨rb, 1 + i, none⟩ (.int .i64 n)).ownsRow H 3 1 vt r.told.length (ints r.told)) := Lib.hid H1.out.told
  generalize (w.setCell ⟨rb, 1 + i, none⟩ (.int .i64 n)) = w1 at *
  refine Lib.hid ?_
  refine wpList_app _ (by rfl) (.tmp 16) (.tmp 18) _ (by rfl) elem_int vt _ (by rfl) (by rfl) (own_upd0 T1.out ((Upd.refl [] w1).alloc _)) (.of_blk (q := w.heap.size) (by rw [← SZ.out]; exact Blk.new w1 3 #[.int .i64 n]) (m := 1) 1 rfl) (by intro u hu; simp at hu; subst hu; rfl) (by simp only [maxLen]; omega) (by omega) (Nat.le_trans HB.out (by simp)) ?_
  intro v5 w5 o5 u5 b5
  obtain ⟨A5, c5, rfl, _, _⟩ := own_slice o5
  have R5 := Lib.hid (H1.out.push (news := [n]) (m := 1) ((Upd.refl [] w1).alloc (.cells #[.int .i64 n] 3)) o5 u5 b5 rfl hl)
  have B5 : Hid (Blk w5 rb 45 (runC sb (r.regs.set i n) vt r.steps)) := Lib.hid ((H1.out.blk.alloc _).upd u5 (fun hm => H1.out.tr rb (by simpa using hm) rfl))
  have c10 : w5.cell? ⟨rb, 10, none⟩ = some vt := (B5.out.cell 10).trans (runC_told H1.out.ok.regs)
  have cf := B5.out.frozen
  have cl := B5.out.lt
  clear o5 u5 b5 B5
  go_wp2_with fail
  go_end0
  exact ⟨rfl, by rw [HT.out]; exact ⟨_, ⟨sb, FM, _, rfl, R5.out.1⟩, F1.out.trans R5.out.2⟩⟩
theorem flatP_len (l : AL) : (flatP l).length = 2 * l.length := by
  induction l with
  | nil => rfl
  | cons a l ih => unfold flatP at *; rw [List.flatMap_cons, List.length_append, ih]; simp; omega
theorem flatP_snoc (l : AL) (p : Int × Int) : flatP (l ++ [p]) = flatP l ++ [p.1, p.2] := by unfold flatP; simp
def tellL (r : RS) (n : Int) (l : AL) : RS := { r with told := r.told ++ (n :: flatP l) }
theorem tellL_snoc (r : RS) (n : Int) (l : AL) (p : Int × Int) : tellL r n (l ++ [p]) = { tellL r n l with told := (tellL r n l).told ++ [p.1, p.2] } := by
  unfold tellL
  rw [flatP_snoc]
  simp
set_option maxRecDepth 100000 in
set_option maxHeartbeats 4000000 in
theorem list_ok' {H rb : Nat} {F : List Nat} {ks : List Int} {r : RS} (c : Int) (w : World) (h : Run H rb F ks w r) (hc : isC r.s c = true) (hH : H ≤ w.heap.size) (hl : r.told.length + 201 ≤ 201 * 1000) (l : AL) (n : Nat) (hl' : coll r.s c.toNat = l) (hn : l.length = n) :
    Calls Tryd.prog 50 #[.pointer (some ⟨rb, 0, none⟩), .int .i64 c] w fun e w' => e = .returned .nilIface ∧ RunPost H rb F ks (tellL r n l) w w' := by
  have HR := Lib.hid h
  obtain ⟨sb, FM, vt, hF, h⟩ := h
  have HFE : Hid (fpR rb vt FM = F) := Lib.hid hF.symm
  have LL : Hid (n ≤ 100) := Lib.hid (by
    obtain ⟨i, rfl, hi⟩ := isC_form hc
    rw [← hn, ← hl', Int.toNat_natCast]
    exact h.mdl.1.len _ (coll_mem hi))
  have ML := Lib.hid (m_list H sb FM r.s c w h.mdl)
  have HLC : Hid (listC r.s c = l) := Lib.hid (by unfold listC; rw [if_pos hc]; exact hl')
  have HC := Lib.hid hc
  obtain ⟨c0, c10, c11, cf, cl⟩ := h.cells
  have HS := Lib.hid h
  have HN := Lib.hid hn
  have n100 := LL.out
  clear h hc hF hn hl' LL
  go_enter Tryd.func50, Tryd.ntmps50
  go_wp2_with fail
  refine ML.out.mono ?_
  rintro e w3 ⟨v, u, rfl, eu, ol, u3⟩
  rw [HC.out] at eu
  obtain rfl : u = .nilIface := by
    rcases eu with h | h | ⟨g, _, _, h, _⟩
    · exact h.1
    · obtain ⟨_, ⟨h, _⟩, _⟩ := h; simp at h
    · simp at h
  rw [HLC.out] at ol
  have OL := Lib.hid ol
  have U3 := Lib.hid u3
  obtain ⟨Al, cl', rfl, _, _⟩ := own_slice ol
  rw [HN.out] at OL ⊢
  have HS3 := Lib.hid (HS.out.upd0 u3)
  clear eu ol u3 ML c0 c10 c11 cf cl HC
  obtain ⟨c0, c10, c11, cf, cl⟩ := HS3.out.cells
  have HB3 : Hid (H ≤ w3.heap.size) := Lib.hid (Nat.le_trans hH U3.out.size)
  go_wp2_with (at_builtin; refine stopped ?_)
  refine Lib.hid ?_
  refine wpList_app _ (by rfl) (.tmp 25) (.tmp 28) _ (by rfl) elem_int vt _ (by rfl) (by rfl) (own_upd0 HS3.out.told ((Upd.refl [] w3).alloc _)) (.of_blk (Blk.new w3 3 #[.int .i64 n]) (m := 1) 1 rfl) (by intro u hu; simp at hu; subst hu; rfl) (by simp only [maxLen]; omega) (by omega) (Nat.le_trans HB3.out (by simp)) ?_
  intro v5 w5 o5 u5 b5
  obtain ⟨A5, c5, rfl, _, _⟩ := own_slice o5
  have R5 := Lib.hid (HS3.out.push (news := [(n : Int)]) (m := 1) ((Upd.refl [] w3).alloc (.cells #[.int .i64 n] 3)) o5 u5 b5 rfl (by omega))
  have B5 : Hid (Blk w5 rb 45 (runC sb r.regs vt r.steps)) := Lib.hid ((HS3.out.blk.alloc _).upd u5 (fun hm => HS3.out.tr rb (by simpa using hm) rfl))
  clear c0 c10 c11 cf cl
  have c10 : w5.cell? ⟨rb, 10, none⟩ = some vt := (B5.out.cell 10).trans (runC_told HS3.out.ok.regs)
  have cf := B5.out.frozen
  have cl := B5.out.lt
  clear o5 u5 b5 B5
  have L5 : Hid (∃ F', Run H rb F' ks (w5.setCell ⟨rb, 10, none⟩ (.slice A5 (r.told.length + 1) c5)) (tellL r n (l.take 0)) ∧ Frm F F' w3 (w5.setCell ⟨rb, 10, none⟩ (.slice A5 (r.told.length + 1) c5))) := Lib.hid ⟨_, ⟨sb, FM, _, rfl, R5.out.1⟩, by rw [← HFE.out]; exact R5.out.2⟩
  go_wp2_with fail
  generalize (w5.setCell ⟨rb, 10, none⟩ (.slice A5 (r.told.length + 1) c5)) = w6 at *
  clear c10 cf cl R5
  have HF : Hid (∀ k ∈ F, k < w.heap.size) := Lib.hid (fun k hk => (HR.out.lt k hk).2)
  clear HS HS3 HFE
  go_loopw [34] (fun v wr => ∃ k : Nat, v = .int .i64 k ∧ k ≤ n ∧ Hid (∃ F', Run H rb F' ks wr (tellL r n (l.take k)) ∧ Frm F F' w3 wr)) (fun v _ => n - (intOf v).toNat)
  case atStart => exact ⟨0, rfl, by omega, L5⟩
  case round =>
    obtain ⟨k, rfl, hk, HK⟩ := hrel
    by_cases hkn : k < n
    · obtain ⟨x, hx⟩ : ∃ x, l[k]? = some x := ⟨_, List.getElem?_eq_getElem (by rw [HN.out]; exact hkn)⟩
      obtain ⟨F', hr, hf⟩ := HK.out
      have OLr : Hid (Ow encPr 136 wr w.heap.size (.slice Al n cl') l) := Lib.hid (by
        exact OL.out.upd hf.upd (fun b hb hm => by have h1 := (own_lt OL.out hb).1; have h2 := HF.out b hm; omega))
      have HT := Lib.hid (take_snoc_ hx)
      obtain ⟨ad, eA, hlt, hcl⟩ := OLr.out.rd.at_ hx
      subst eA
      have e0 : wr.cell? (ad.add (k * 2)) = some (.int .i64 x.1) := hcl 0 _ rfl
      have e1 : wr.cell? ⟨(ad.add (k * 2)).block, (ad.add (k * 2)).off + 1, none⟩ = some (.int .i64 x.2) := by
        have := hcl 1 _ rfl; rwa [show k * encPr.s + 1 = k * 2 + (0 + 1) from rfl, add_more] at this
      obtain ⟨sb', FM', vt', rfl, hs⟩ := hr
      have HS := Lib.hid hs
      have HF' := Lib.hid hf
      have q1 : (0 : Int) ≤ (k : Int) := by omega
      have q2 : (k : Int) < (n : Int) := by omega
      obtain ⟨ρ, hρ⟩ : ∃ ρ, tellL r n (l.take k) = ρ := ⟨_, rfl⟩
      have HP : Hid (tellL r n (l.take (k + 1)) = { ρ with told := ρ.told ++ [x.1, x.2] }) := Lib.hid (by rw [HT.out, tellL_snoc, hρ])
      have HLR : Hid (ρ.told.length + 2 ≤ 201 * 1000) := Lib.hid (by
        rw [← hρ]
        unfold tellL
        simp only [List.length_append, List.length_cons, flatP_len, List.length_take, HN.out]
        omega)
      rw [hρ] at HS
      have HBr : Hid (H ≤ wr.heap.size) := Lib.hid (Nat.le_trans HB3.out hf.upd.size)
      clear hx hcl hs hf hρ HK
      go_wp2_with fail
      have XB : Hid (Blk (wr.alloc (.cells #[.int .i64 x.1, .int .i64 x.2] 136)) wr.heap.size 136 #[.int .i64 x.1, .int .i64 x.2]) := Lib.hid (Blk.new wr _ _)
      have UA : Hid (Upd [] wr (wr.alloc (.cells #[.int .i64 x.1, .int .i64 x.2] 136))) := Lib.hid ((Upd.refl [] wr).alloc _)
      generalize (wr.alloc (.cells #[.int .i64 x.1, .int .i64 x.2] 136)) = w7 at *
      have CS : Hid (∀ W, Upd [] w7.drew W → W.cell? ⟨wr.heap.size, 0, none⟩ = some (.int .i64 x.1) ∧ W.cell? ⟨wr.heap.size, 1, none⟩ = some (.int .i64 x.2) ∧ W.cell? ⟨rb, 10, none⟩ = some vt') := Lib.hid (fun W hW => by
        have hu := (Upd.refl [] w7).drew.trans hW
        exact ⟨(XB.out.upd hu (by simp)).cell 0, (XB.out.upd hu (by simp)).cell 1, ((HS.out.upd0 UA.out).upd0 hu).cells.2.1⟩)
      clear e0 e1
      refine wp_invNT 10 [(9, .lit 3 #[.int .i64 x.1, .int .i64 x.2] 2)] [] (by kernel_rfl) (by simp) (by kernel_rfl) (by kernel_rfl) ⟨lasts_lit _ _ _, trivial⟩ ?_
      simp only [List.take_succ_cons, List.take_zero, List.drop_succ_cons, List.drop_zero]
      with_reducible apply wpV_light
      · simp only [lightOp]
      · intro W hU hF
        have f0 := CS.out W hU
        clear hU hF
        go_simp
        exact rfl
      simp only [Act.put, List.setIfInBounds_toArray, List.set_cons_zero, List.set_cons_succ]
      with_reducible apply wpV_light
      · simp only [lightOp]
      · intro W hU hF
        have f0 := CS.out W hU
        clear hU hF
        go_simp
        exact rfl
      simp only [Act.put, List.setIfInBounds_toArray, List.set_cons_zero, List.set_cons_succ]
      with_reducible apply wpV_light
      · simp only [lightOp]
      · intro W hU hF
        have f0 := CS.out W hU
        clear hU hF
        go_simp
        exact rfl
      simp only [Act.put, List.setIfInBounds_toArray, List.set_cons_zero, List.set_cons_succ]
      with_reducible apply wpV_light
      · simp only [lightOp]
      · intro W hU hF
        have f0 := CS.out W hU
        clear hU hF
        go_simp
        exact rfl
      simp only [Act.put, List.setIfInBounds_toArray, List.set_cons_zero, List.set_cons_succ]
      with_reducible apply wpV_light
      · simp only [lightOp]
      · intro W hU hF
        have f0 := CS.out W hU
        clear hU hF
        go_simp
        exact rfl
      simp only [Act.put, List.setIfInBounds_toArray, List.set_cons_zero, List.set_cons_succ]
      with_reducible apply wpV_light
      · simp only [lightOp]
      · intro W hU hF
        have f0 := CS.out W hU
        clear hU hF
        go_simp
        exact rfl
      simp only [Act.put, List.setIfInBounds_toArray, List.set_cons_zero, List.set_cons_succ]
      with_reducible apply wpV_light
      · simp only [lightOp]
      · intro W hU hF
        have f0 := CS.out W hU
        clear hU hF
        go_simp
        exact rfl
      simp only [Act.put, List.setIfInBounds_toArray, List.set_cons_zero, List.set_cons_succ]
      with_reducible apply wpV_light
      · simp only [lightOp]
      · intro W hU hF
        have f0 := CS.out W hU
        clear hU hF
        go_simp
        exact rfl
      simp only [Act.put, List.setIfInBounds_toArray, List.set_cons_zero, List.set_cons_succ]
      with_reducible apply wpV_light
      · simp only [lightOp]
      · intro W hU hF
        have f0 := CS.out W hU
        clear hU hF
        go_simp
        exact rfl
      simp only [Act.put, List.setIfInBounds_toArray, List.set_cons_zero, List.set_cons_succ]
      refine wpV_heavy (by simp only [lightOp]) (by rfl) (fun W hU hk hF K hK => ?_) ?_
      · go_wp2_with fail
        exact wpV_lit hK rfl rfl rfl
      rintro _ ⟨g', rfl⟩
      simp only [Act.put, List.setIfInBounds_toArray, List.set_cons_zero, List.set_cons_succ]
      refine wpV_end (fun W hU _ hF => ?_)
      have U6 : Hid (Upd [] wr W) := Lib.hid (UA.out.trans ((Upd.refl [] w7).drew.trans hU))
      have LT : Hid (Blk W g' 3 #[.int .i64 x.1, .int .i64 x.2]) := Lib.hid (by
        obtain ⟨g2, he, hb⟩ := hF.out.1 (by kernel_rfl)
        injection he with he _ _
        injection he with he
        injection he with he
        subst he
        exact hb)
      clear hU hF
      refine wpT_op (by rfl) (fun K hK => ?_)
      refine wp_app W (.tmp 42) (.tmp 47) _ (by rfl) elem_int vt' _ (by rfl) (by rfl) (own_upd0 HS.out.told U6.out) (.of_blk LT.out (m := 2) 2 rfl) (by intro u hu; simp at hu; rcases hu with rfl | rfl <;> rfl) (by have := HLR.out; simp only [maxLen]; omega) (by have := HLR.out; omega) (Nat.le_trans HBr.out U6.out.size) ?_
      intro v8 w8 o8 u8 b8
      obtain ⟨A8, c8, rfl, _, _⟩ := own_slice o8
      have R8 := Lib.hid (HS.out.push (news := [x.1, x.2]) (m := 2) U6.out o8 u8 b8 rfl HLR.out)
      have B8 : Hid (Blk w8 rb 45 (runC sb' ρ.regs vt' ρ.steps)) := Lib.hid ((HS.out.blk.upd U6.out (by simp)).upd u8 (fun hm => HS.out.tr rb (by simpa using hm) rfl))
      refine hK.out _ _ ?_
      clear hK K o8 u8 b8
      simp only [Act.put, List.setIfInBounds_toArray, List.set_cons_zero, List.set_cons_succ]
      have f0 : w8.cell? ⟨rb, 10, none⟩ = some vt' := (B8.out.cell 10).trans (runC_told HS.out.ok.regs)
      have f1 := B8.out.frozen
      have f2 := B8.out.lt
      refine wpT_op (by rfl) (fun K hK => ?_)
      go_wp2_with fail
      refine hK.out _ _ ?_
      clear hK K
      try simp only [Act.put, List.setIfInBounds_toArray, List.set_cons_zero, List.set_cons_succ]
      refine wpT_op (by rfl) (fun K hK => ?_)
      go_wp2_with fail
      refine hK.out _ _ ?_
      clear hK K
      try simp only [Act.put, List.setIfInBounds_toArray, List.set_cons_zero, List.set_cons_succ]
      refine wpT_op (by rfl) (fun K hK => ?_)
      go_wp2_with fail
      refine hK.out _ _ ?_
      clear hK K
      try simp only [Act.put, List.setIfInBounds_toArray, List.set_cons_zero, List.set_cons_succ]
      refine wpT_end ?_
      clear f0 f1 f2
      go_wp2_with fail
      go_roundw
      case rel => exact ⟨k + 1, by go_num, by omega, Lib.hid ⟨_, by rw [HP.out]; exact ⟨sb', FM', _, rfl, R8.out.1⟩, HF'.out.trans R8.out.2⟩⟩
      case measure => simp [intOf]; omega
    · obtain rfl : k = n := by omega
      obtain ⟨F', hr, hf⟩ := HK.out
      rw [List.take_of_length_le (by rw [HN.out]; exact Nat.le_refl _)] at hr
      have HQ := Lib.hid hr
      have HG := Lib.hid hf
      clear hr hf
      go_wp2_with fail
      go_ret
      exact ⟨rfl, F', HQ.out, HG.out.pre U3.out⟩
theorem list_ok {H rb : Nat} {F : List Nat} {ks : List Int} {r : RS} (c : Int) (w : World) (h : Run H rb F ks w r) (hc : isC r.s c = true) (hH : H ≤ w.heap.size) (hl : r.told.length + 201 ≤ 201 * 1000) :
    Calls Tryd.prog 50 #[.pointer (some ⟨rb, 0, none⟩), .int .i64 c] w fun e w' => e = .returned .nilIface ∧ RunPost H rb F ks (tellL r (coll r.s c.toNat).length (coll r.s c.toNat)) w w' := list_ok' c w h hc hH hl _ _ rfl rfl
end Go.Proofs.YtfbeaklplefojaaDoor.Ev

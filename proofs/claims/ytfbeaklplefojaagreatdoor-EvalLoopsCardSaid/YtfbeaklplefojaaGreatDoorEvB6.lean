/-
  slices.Sorted of maps.Keys: the keys of a map of integers, rising.
  slices.BinarySearch of ints.
  model.State: ordered, Ceil, Range, List.
  model.State: Range, List, Kinds.
  The place of a key in a list by rising keys. No program in sight.
  concordref08.State: what it keeps; There, Find, Get, Ceil, Range.
-/
import Derived.Test.YtfbeaklplefojaaGreatDoorEvB4
import Derived.Test.YtfbeaklplefojaaGreatDoorLayK
import Derived.Maps.Range
import Derived.Test.YtfbeaklplefojaaGreatDoorEvB1
set_option linter.unusedVariables false
namespace Go.Proofs.YtfbeaklplefojaaGreatDoor
open Go.RowKit Assoc MP Go.Shelf Go.WideElems Go.MapKept Go.Maps Go.WideShapes

theorem sortsI (m : Nat) : AnyZI.SortsIn Tryz.prog sortedI_lay_ren Fence.wide m :=
  ⟨fun blk off cap ss W hH hblk hsz => callsIn_wide.2 (AnyM.slices_Sort_int sortI_lay blk off cap ss W hH hblk hsz),
   fun p cap W => callsIn_wide.2 (AnyM.slices_Sort_int_none sortI_lay p cap W)⟩
theorem keysM (mb : Option Nat) (w : World) : Calls Tryz.prog 34 #[.map mb] w fun e w' => e = .returned (.func (.func 61) #[] #[.pointer (some ⟨w.heap.size, 0, none⟩)]) ∧ w.alloc (.cells #[.map mb] 77) = w' := by
  go_enter Tryz.func34, Tryz.ntmps34
  go_wp2_with fail
  go_ret
  exact ⟨rfl, rfl⟩
def kwf (l : AL) : Prop := ∀ p ∈ l, (Lit.int .i64 p.1).wf = true
def R0 : Value → Option (DataW Unit × List MemPlace) := fun _ => some (.nil, [])
theorem keyOf_int {x : Int} (h : (Lit.int .i64 x).wf = true) : keyOf Tryz.prog 3 (.int .i64 x) = some (.int .i64 x) := by
  unfold keyOf
  rw [Tryz.underlying3]
  simp [mapKey, Tryz.underlying3, h]
theorem findI_some {L : List IEnt} {k : Int} : (findI L k).isSome = true ↔ k ∈ L.map (·.1) := by
  unfold findI
  rw [Option.isSome_map, List.find?_isSome]
  simp only [List.mem_map, beq_iff_eq]
theorem get_mem_keys {l : AL} {k : Int} : (get l k).isSome = true ↔ k ∈ l.map (·.1) := by
  unfold Assoc.get
  rw [Option.isSome_map, List.find?_isSome]
  simp only [List.mem_map, beq_iff_eq]
theorem srt_keys {l : AL} (h : Srt l) : (l.map (·.1)).Pairwise (· < ·) := List.pairwise_map.2 h
theorem keys_perm {l : AL} {L : List IEnt} (hs : Srt l) (hn : (L.map (·.1)).Nodup) (hf : ∀ k, mapI l k = findI L k) : (L.map (·.1)).Perm (l.map (·.1)) := by
  refine (List.perm_ext_iff_of_nodup hn ((srt_keys hs).imp (fun h => by omega))).2 fun k => ?_
  rw [← findI_some, ← get_mem_keys, ← hf k, mapI_some]
theorem sort_keys {l : AL} {ss : List Int} (hs : Srt l) (hp : ss.Perm (l.map (·.1))) : ss.mergeSort (fun x y => decide (x ≤ y)) = l.map (·.1) := by
  refine List.Perm.eq_of_pairwise (le := fun x y => x ≤ y) ?_ ?_ ?_ ((List.mergeSort_perm _ _).trans hp)
  · intro a b _ _ h1 h2; omega
  · have := List.pairwise_mergeSort (le := fun (x y : Int) => decide (x ≤ y)) (fun a b c h1 h2 => by simp at *; omega) (fun a b => by simp; omega) ss
    exact this.imp (fun h => by simpa using h)
  · exact (srt_keys hs).imp (fun h => by omega)
/-- The map as the shelf's kit knows it. -/
theorem owns_of {w : World} {m : Nat} {l : AL} (h : IMap w .i64 m (mapI l) l.length) (hs : Srt l) (hk : kwf l) (hl : l.length ≤ 100) :
    ∃ D0 : DataW Unit, w.ownsMap Tryz.prog 3 R0 m l.length D0 ∧ Maps.size D0 ≤ 100 ∧ (intKeys D0).Perm (l.map (·.1)) := by
  obtain ⟨L, c, hr, hf, hn⟩ := h
  have hkp := keys_perm hs hr.keys hf
  have hwf : ∀ p ∈ L, (Lit.int .i64 p.1).wf = true := fun p hp => by
    obtain ⟨q, hq, e⟩ := List.mem_map.1 (hkp.mem_iff.1 (List.mem_map.2 ⟨p, hp, rfl⟩))
    rw [← e]
    exact hk q hq
  have hrg : ∀ p ∈ L, rg Tryz.prog 3 R0 (ent .i64 p) = (.int .i64 p.1, .nil) := fun p hp => by
    unfold rg rd ent R0
    simp [keyOf_int (hwf p hp)]
  have he : ((L.map (ent .i64)).toArray.toList.map (rg Tryz.prog 3 R0)) = L.map (fun p => (Lit.int .i64 p.1, (DataW.nil : DataW Unit))) := by
    generalize rg Tryz.prog 3 R0 = f at hrg ⊢
    show (L.map (ent .i64)).map f = _
    rw [List.map_map]
    exact List.map_congr_left fun p hp => hrg p hp
  refine ⟨_, ⟨_, c, hr.blk, ⟨?_, ⟨?_, ?_, ?_⟩, ?_⟩, ?_, rfl⟩, ?_, ?_⟩
  · simp [maxLen]; omega
  · intro x hx
    simp only [List.mem_map] at hx
    obtain ⟨p, hp, rfl⟩ := hx
    exact hr.lt p hp
  · simp only [List.map_map]
    exact hr.stamps
  · simp only [List.map_map]
    have : (Value.int IntKind.i64 ∘ fun (p : IEnt) => p.1) = (MapEntry.key ∘ ent .i64) := rfl
    rw [← this, ← List.map_map]
    exact List.Pairwise.map _ (fun a b h e => h (by injection e)) hr.keys
  · intro x hx
    simp only [List.mem_map] at hx
    obtain ⟨p, hp, rfl⟩ := hx
    exact ⟨(.int .i64 p.1, .nil), by unfold rd ent R0; simp [keyOf_int (hwf p hp)]⟩
  · simp [hn]
  · rw [he]
    show (List.foldr DataW.insert [] _).length ≤ 100
    rw [(sorted_perm _).length_eq, List.length_map, hn]
    exact hl
  · rw [he]
    unfold intKeys
    refine ((sorted_perm _).map _).trans ?_
    rw [List.map_map]
    exact hkp
def KeysPost (l : AL) (w : World) (e : Ending) (w' : World) : Prop := ∃ v, e = .returned v ∧ Ow encK 3 w' w.heap.size v (l.map (·.1)) ∧ Upd [] w w'
theorem flat_ints (xs : List Int) : flat encK xs = xs.map encZ := by
  induction xs with
  | nil => rfl
  | cons x xs ih => rw [flat_cons, ih]; rfl
theorem sortedKeys (Bm m : Nat) (l : AL) (w : World) (hb : Blk w Bm 77 #[.map (some m)]) (h : IMap w .i64 m (mapI l) l.length) (hs : Srt l) (hk : kwf l) (hl : l.length ≤ 100) :
    Calls Tryz.prog 33 #[.func (.func 61) #[] #[.pointer (some ⟨Bm, 0, none⟩)]] w fun e w' => KeysPost l w e w' := by
  obtain ⟨D0, hown, hsz, hp⟩ := owns_of h hs hk hl
  have hseq : SeqGives Fence.wide 2 Tryz.prog 61 #[.pointer (some ⟨Bm, 0, none⟩)] encZ (fun ss => ss.Perm (intKeys D0)) (Maps.size D0) w :=
    AnyZI.keys_gives (ρ := keysM_lay_ren) { keysM_lay with } Fence.wide _ trivial rfl (by omega) Bm m l.length D0 _ hb.lt (hb.cell 0) hown
  have cS := AnyZI.sorted_in sortedI_lay Fence.wide 5 trivial trivial trivial trivial rfl (by omega) (sortsI _) (enters_of Tryz.func60 (by kernel_rfl) rfl) 61 #[.pointer (some ⟨Bm, 0, none⟩)] trivial (enters_of Tryz.func61 (by kernel_rfl) rfl) _ _ (by simp only [maxLen]; omega) (by omega) _ hseq
  refine (callsIn_wide (n := 5)).1 (show CallsIn Fence.wide 5 Tryz.prog 33 _ w _ from cS.mono ?_)
  rintro e w' ⟨v, ss, rfl, hS, hrow, _, hbl⟩
  rw [sort_keys hs (hS.trans hp)] at hrow
  refine ⟨v, rfl, ?_, Upd.of_below (S := []) hbl (Nat.le_refl _)⟩
  unfold Ow
  rw [flat_ints]
  have e : ss.length = (l.map (·.1)).length := (hS.trans hp).length_eq
  rw [← e]
  exact hrow
end Go.Proofs.YtfbeaklplefojaaGreatDoor

namespace Go.Proofs.YtfbeaklplefojaaGreatDoor
open Go.RowKit Assoc MP
attribute [local go_sem] litStep_value

theorem isNaN_int (x : Int) (w : World) : Calls Tryz.prog 87 #[.int .i64 x] w fun e w' => e = .returned (.bool false) ∧ w = w' := by
  go_enter Tryz.func87, Tryz.ntmps87
  go_wp2_with fail
  go_ret
  exact ⟨by simp, rfl⟩
theorem isNaN_cmp (x : Int) (w : World) : Calls Tryz.prog 98 #[.int .i64 x] w fun e w' => e = .returned (.bool false) ∧ w = w' := by
  go_enter Tryz.func98, Tryz.ntmps98
  go_wp2_with fail
  go_ret
  exact ⟨by simp, rfl⟩
set_option maxRecDepth 100000 in
theorem less_int (x y : Int) (w : World) : Calls Tryz.prog 86 #[.int .i64 x, .int .i64 y] w fun e w' => e = .returned (.bool (decide (x < y))) ∧ w = w' := by
  go_enter Tryz.func86, Tryz.ntmps86
  go_wp2_with fail
  refine (isNaN_cmp x w).mono ?_; rintro e w' ⟨rfl, rfl⟩
  go_wp2_with fail
  go_ret
  exact ⟨rfl, rfl⟩
def BinPost (xs : List Int) (k : Int) (w : World) (e : Ending) (w' : World) : Prop := ∃ i b, e = .returned (.tuple #[.int .i64 (i : Nat), .bool b]) ∧ i ≤ xs.length ∧ (∀ j, j < i → xs.getD j 0 < k) ∧ (∀ j, i ≤ j → j < xs.length → k ≤ xs.getD j 0) ∧ Upd [] w w'
set_option maxRecDepth 100000 in
set_option maxHeartbeats 2000000 in
theorem bin_ok (B : Nat) (xs : List Int) (v : Value) (k : Int) (w : World) (h : Ow encK 3 w B v xs) (hs : xs.Pairwise (· < ·)) (hl : xs.length ≤ 1000) :
    Calls Tryz.prog 77 #[v, .int .i64 k] w fun e w' => BinPost xs k w e w' := by
  obtain ⟨A, c, rfl, hnc, hcm⟩ := own_slice h
  obtain ⟨n, hn⟩ : ∃ n, xs.length = n := ⟨_, rfl⟩
  have HO : Hid (w.ownsRow B 3 1 (.slice A n c) n (flat encK xs)) := Lib.hid (by have := h; unfold Ow at this; rw [hn] at this; exact this)
  have HN := Lib.hid hn
  have HS := Lib.hid hs
  rw [hn] at hl hnc ⊢
  clear h hn hs
  go_enter Tryz.func77, Tryz.ntmps77
  go_wp2_with fail
  go_loopw [7, 8] (fun vi vj wr => ∃ i j : Nat, vi = .int .i64 i ∧ vj = .int .i64 j ∧ i ≤ j ∧ j ≤ n ∧ Hid (∀ p, p < i → xs.getD p 0 < k) ∧ Hid (∀ p, j ≤ p → p < n → k ≤ xs.getD p 0) ∧ Hid (Upd [] w wr)) (fun vi vj _ => ((intOf vj).toNat - (intOf vi).toNat))
  case atStart => exact ⟨0, n, rfl, rfl, by omega, by omega, Lib.hid (fun p hp => by omega), Lib.hid (fun p hp hpn => by omega), Lib.hid (.refl _ _)⟩
  case round =>
    obtain ⟨i, j, rfl, rfl, hij, hjn, HA, HB, HU⟩ := hrel
    by_cases hlt : i < j
    · have q0 : (i : Int) < (j : Int) := by omega
      obtain ⟨m, hm⟩ : ∃ m : Nat, ((i : Int) + (j : Int)) / 2 = (m : Int) := ⟨((i + j) / 2 : Nat), by omega⟩
      have m1 : i ≤ m := by omega
      have m2 : m < j := by omega
      obtain ⟨g, cg, cur, e1, _⟩ := own_form HO.out (by omega)
      injection e1 with e1 _ e1'
      subst e1 e1'
      obtain ⟨y, hy⟩ : ∃ y, xs[m]? = some y := ⟨_, List.getElem?_eq_getElem (by rw [HN.out]; omega)⟩
      have HY := Lib.hid hy
      have OW := Lib.hid (own_upd0 HO.out HU.out)
      have e0 : wr.cell? ⟨g, m, none⟩ = some (.int .i64 y) := by
        have := own_cell OW.out _ _ ((flat_get (E := encK) hy (j := 0) (by decide)).trans rfl)
        rwa [show m * encK.s + 0 = m by simp [encI]] at this
      have HG : Hid (xs.getD m 0 = y) := Lib.hid (by rw [List.getD_eq_getElem?_getD, hy]; rfl)
      have q1 : (0 : Int) ≤ (m : Int) := by omega
      have q2 : (m : Int) < (n : Int) := by omega
      clear hy
      go_wp2_with fail
      refine (less_int y k wr).mono ?_; rintro e w' ⟨rfl, rfl⟩
      by_cases hyk : y < k
      · have d : decide (y < k) = true := by simpa using hyk
        have HA2 : Hid (∀ p, p < m + 1 → xs.getD p 0 < k) := Lib.hid (fun p hp => by
          rcases Nat.lt_or_ge p m with h1 | h1
          · have h2 := List.pairwise_iff_getElem.1 HS.out p m (by rw [HN.out]; omega) (by rw [HN.out]; omega) h1
            rw [List.getD_eq_getElem?_getD, List.getElem?_eq_getElem (by rw [HN.out]; omega)]
            have h3 := (List.getElem?_eq_some_iff.1 HY.out).2
            rw [h3] at h2
            simp only [Option.getD_some]
            omega
          · obtain rfl : p = m := by omega
            rw [HG.out]; exact hyk)
        rw [d]
        clear hyk d e0
        go_wp2_with fail
        go_roundw
        case rel => exact ⟨m + 1, j, by go_num, rfl, by omega, by omega, HA2, HB, HU⟩
        case measure => simp [intOf]; omega
      · have d : decide (y < k) = false := by simpa using hyk
        have HB2 : Hid (∀ p, m ≤ p → p < n → k ≤ xs.getD p 0) := Lib.hid (fun p hp hpn => by
          rcases Nat.lt_or_ge m p with h1 | h1
          · have h2 := List.pairwise_iff_getElem.1 HS.out m p (by rw [HN.out]; omega) (by rw [HN.out]; omega) h1
            rw [List.getD_eq_getElem?_getD, List.getElem?_eq_getElem (by rw [HN.out]; omega)]
            have h3 := (List.getElem?_eq_some_iff.1 HY.out).2
            rw [h3] at h2
            simp only [Option.getD_some]
            omega
          · obtain rfl : p = m := by omega
            rw [HG.out]; omega)
        rw [d]
        clear hyk d e0
        go_wp2_with fail
        go_roundw
        case rel => exact ⟨i, m, rfl, rfl, by omega, by omega, HA, HB2, HU⟩
        case measure => simp [intOf]; omega
    · obtain rfl : i = j := by omega
      by_cases hin : i < n
      · obtain ⟨g, cg, cur, e1, _⟩ := own_form HO.out (by omega)
        injection e1 with e1 _ e1'
        subst e1 e1'
        obtain ⟨y, hy⟩ : ∃ y, xs[i]? = some y := ⟨_, List.getElem?_eq_getElem (by rw [HN.out]; omega)⟩
        have OW := Lib.hid (own_upd0 HO.out HU.out)
        have e0 : wr.cell? ⟨g, i, none⟩ = some (.int .i64 y) := by
          have := own_cell OW.out _ _ ((flat_get (E := encK) hy (j := 0) (by decide)).trans rfl)
          rwa [show i * encK.s + 0 = i by simp [encI]] at this
        have q1 : (0 : Int) ≤ (i : Int) := by omega
        have q2 : (i : Int) < (n : Int) := by omega
        clear hy
        by_cases hyk : y = k
        · have d : (y == k) = true := by simpa using hyk
          clear hyk
          go_wp2_with fail
          go_ret2
          unfold BinPost
          exact ⟨i, _, rfl, by rw [HN.out]; exact hjn, HA.out, by rw [HN.out]; exact HB.out, HU.out⟩
        · have d : (y == k) = false := by simpa using hyk
          clear hyk
          go_wp2_with fail
          refine (isNaN_int y _).mono ?_; rintro e w' ⟨rfl, rfl⟩
          go_wp2_with fail
          go_ret2
          unfold BinPost
          exact ⟨i, _, rfl, by rw [HN.out]; exact hjn, HA.out, by rw [HN.out]; exact HB.out, HU.out⟩
      · have q2 : ¬ (i : Int) < (n : Int) := by omega
        go_wp2_with fail
        go_ret2
        unfold BinPost
        exact ⟨i, _, rfl, by rw [HN.out]; exact hjn, HA.out, by rw [HN.out]; exact HB.out, HU.out⟩
end Go.Proofs.YtfbeaklplefojaaGreatDoor

namespace Go.Proofs.YtfbeaklplefojaaGreatDoor
open Go.RowKit Assoc MP
attribute [local go_sem] litStep_value

def encPr : Enc (Int × Int) := encII .i64 .i64
theorem elem_pair : Elem Tryz.prog 52 56 2 16 := .mk' (z := ((Tryz.prog.info? 56).bind (·.zero)).getD undef) Tryz.underlying52 (by kernel_rfl) (by kernel_rfl) (by omega)
/-- The error of whoever asks for an order. -/
def oErr (s : MS) (c : Int) : Int := if isC s c then (if s.K.getD c.toNat 0 = 3 then 0 else 17) else 3
def keysC (s : MS) (c : Int) : List Int := (coll s c.toNat).map (·.1)
def OrdPost (s : MS) (c : Int) (w : World) (e : Ending) (w' : World) : Prop := ∃ v u, e = .returned (.tuple #[v, u]) ∧ Upd [] w w' ∧
  ((oErr s c = 0 ∧ isC s c = true ∧ u = .nilIface ∧ Ow encK 3 w' w.heap.size v (keysC s c)) ∨ (oErr s c = 17 ∧ isC s c = true ∧ v = .slice none 0 0 ∧ u = .iface 63 (.int .i64 17)) ∨
   (oErr s c = 3 ∧ isC s c = false ∧ v = .slice none 0 0 ∧ ∃ g, u = .iface 96 (.pointer (some ⟨g, 0, none⟩)) ∧ Blk w' g 98 #[.int .i64 c, .int .i64 3]))
theorem good_kwf {s : MS} (h : MP.Good s) {i : Nat} (hi : i < s.L.length) : kwf (coll s i) := fun p hp => WalkArith.wf_i64 (h.kb _ (coll_mem hi) p hp)
set_option maxRecDepth 100000 in
set_option maxHeartbeats 4000000 in
theorem m_ordered (B sb : Nat) (F : List Nat) (s : MS) (c : Int) (w : World) (h : Mdl B sb F w s) :
    Calls Tryz.prog 76 #[.pointer (some ⟨sb, 0, none⟩), .int .i64 c] w fun e w' => OrdPost s c w e w' := by
  have H := Lib.hid h
  obtain ⟨g, vk, gc, cc, ms, hF, h⟩ := h
  have HF := Lib.hid hF
  have HS := Lib.hid h
  have HG := Lib.hid g
  have K8 := Lib.hid (show s.L.length ≤ 8 by have := g.k8; rw [g.kl] at this; exact this)
  clear g hF h
  go_enter Tryz.func76, Tryz.ntmps76
  go_wp2_with fail
  refine (m_coll B sb vk gc cc ms s c w HS.out K8.out).mono ?_
  rintro e w1 (⟨hc, rfl, i, m, rfl, hi, hm, rfl⟩ | ⟨hc, u1, gf, rfl, bf⟩)
  · obtain ⟨m', hm', him⟩ := HS.out.at_ hi
    obtain rfl : m' = m := by rw [hm] at hm'; exact (Option.some.inj hm').symm
    have HI := Lib.hid hc
    have HIM := Lib.hid him
    have HII := Lib.hid hi
    obtain ⟨Ak, ck, rfl, hnk, _⟩ := own_slice HS.out.k
    obtain ⟨NK, hNK⟩ : ∃ NK, s.K.length = NK := ⟨_, rfl⟩
    have hik : i < NK := by rw [← hNK, HG.out.kl]; exact hi
    have OK : Hid (w.ownsRow B 3 1 (.slice Ak NK ck) NK (flat encK s.K)) := Lib.hid (by have := HS.out.k; unfold Ow at this; rw [hNK] at this; exact this)
    obtain ⟨gk, cg, cur, e1, _⟩ := own_form OK.out (by omega)
    injection e1 with e1 _ e1'
    subst e1 e1'
    obtain ⟨y, hy⟩ : ∃ y, s.K[i]? = some y := ⟨_, List.getElem?_eq_getElem (by rw [hNK]; exact hik)⟩
    have e0 : w.cell? ⟨gk, i, none⟩ = some (.int .i64 y) := by
      have := own_cell OK.out _ _ ((flat_get (E := encK) hy (j := 0) (by decide)).trans rfl)
      rwa [show i * encK.s + 0 = i by simp [encI]] at this
    have c0 : w.cell? ⟨sb, 0, none⟩ = some (.slice (some ⟨gk, 0, none⟩) NK ck) := by rw [← hNK]; exact HS.out.box.cell 0
    have q1 : (0 : Int) ≤ (i : Int) := by omega
    have q2 : (i : Int) < (NK : Int) := by omega
    have HE : Hid (oErr s i = if y = 3 then 0 else 17) := Lib.hid (by unfold oErr; rw [hc, Int.toNat_natCast, List.getD_eq_getElem?_getD, hy]; rfl)
    clear hm hm' hi hc him hNK hy
    by_cases h3 : y = 3
    · have d : (y != 3) = false := by simpa using h3
      have HE0 : Hid (oErr s i = 0) := Lib.hid (by rw [HE.out, if_pos h3])
      clear h3
      go_wp2_with fail
      refine (keysM (some m') w).mono ?_; rintro e w1 ⟨rfl, rfl⟩
      have U1 : Hid (Upd [] w (w.alloc (.cells #[.map (some m')] 77))) := Lib.hid ((Upd.refl [] w).alloc _)
      have Y1 : Hid (Blk (w.alloc (.cells #[.map (some m')] 77)) w.heap.size 77 #[.map (some m')]) := Lib.hid (Blk.new w _ _)
      clear c0 e0
      go_wp2_with fail
      generalize (w.alloc (.cells #[.map (some m')] 77)) = w2 at *
      refine (sortedKeys w.heap.size m' (coll s i) w2 Y1.out (HIM.out.upd U1.out (by simp)) (HG.out.srt _ (coll_mem HII.out)) (good_kwf HG.out HII.out) (HG.out.len _ (coll_mem HII.out))).mono ?_
      rintro e w3 ⟨v, rfl, o3, u3⟩
      have O3 := Lib.hid (own_base o3 U1.out.size)
      have U3 := Lib.hid (U1.out.trans u3)
      clear o3 u3
      go_wp2_with fail
      go_ret2
      unfold OrdPost
      exact ⟨_, _, rfl, U3.out, .inl ⟨HE0.out, HI.out, rfl, O3.out⟩⟩
    · have d : (y != 3) = true := by simpa using h3
      have HE0 : Hid (oErr s i = 17) := Lib.hid (by rw [HE.out, if_neg h3])
      clear h3
      go_wp2_with fail
      go_ret2
      unfold OrdPost
      exact ⟨_, _, rfl, .refl _ _, .inr (.inl ⟨HE0.out, HI.out, rfl, rfl⟩)⟩
  · have U1 := Lib.hid u1
    have BF := Lib.hid bf
    have HI := Lib.hid hc
    clear u1 bf hc
    go_wp2_with fail
    go_ret2
    unfold OrdPost
    exact ⟨_, _, rfl, U1.out, .inr (.inr ⟨by unfold oErr; rw [HI.out]; rfl, HI.out, rfl, gf, rfl, BF.out⟩)⟩
theorem oErr_err {s : MS} {c : Int} {w : World} {u v : Value} (h : (oErr s c = 17 ∧ isC s c = true ∧ v = .slice none 0 0 ∧ u = .iface 63 (.int .i64 17)) ∨
   (oErr s c = 3 ∧ isC s c = false ∧ v = .slice none 0 0 ∧ ∃ g, u = .iface 96 (.pointer (some ⟨g, 0, none⟩)) ∧ Blk w g 98 #[.int .i64 c, .int .i64 3])) : ErrV w u (oErr s c) (if isC s c then 0 else c) := by
  rcases h with ⟨h1, h2, _, rfl⟩ | ⟨h1, h2, _, g, rfl, hb⟩
  · rw [h1, h2]; exact ErrV.errno _ 17 (by omega) (by omega)
  · rw [h1, h2]; exact ErrV.fault (no := 3) (at_ := c) hb (by omega) (by omega)
theorem ceil_at {l : AL} {k : Int} {i : Nat} (h1 : ∀ j, j < i → (l.map (·.1)).getD j 0 < k) (h2 : ∀ j, i ≤ j → j < (l.map (·.1)).length → k ≤ (l.map (·.1)).getD j 0) : ceilL l k = (l.map (·.1))[i]? := by
  unfold ceilL
  rw [List.getElem?_map]
  congr 1
  rw [List.length_map] at h2
  rcases Nat.lt_or_ge i l.length with hi | hi
  · rw [List.getElem?_eq_getElem hi, List.find?_eq_some_iff_getElem]
    have h3 := h2 i (Nat.le_refl _) hi
    rw [List.getD_eq_getElem?_getD, List.getElem?_map, List.getElem?_eq_getElem hi] at h3
    refine ⟨by simpa using h3, i, hi, rfl, fun j hj => ?_⟩
    have h4 := h1 j hj
    rw [List.getD_eq_getElem?_getD, List.getElem?_map, List.getElem?_eq_getElem (by omega)] at h4
    simp at h4 ⊢
    exact h4
  · rw [List.getElem?_eq_none hi, List.find?_eq_none]
    intro p hp
    obtain ⟨j, hj, rfl⟩ := List.getElem_of_mem hp
    have h4 := h1 j (by omega)
    rw [List.getD_eq_getElem?_getD, List.getElem?_map, List.getElem?_eq_getElem hj] at h4
    simp at h4 ⊢
    exact h4
/-- What Ceil tells. -/
def ceilC (s : MS) (c k : Int) : Option Int := if oErr s c = 0 then ceilL (coll s c.toNat) k else none
def CeilPost (s : MS) (c k : Int) (w : World) (e : Ending) (w' : World) : Prop := ∃ u, e = .returned (.tuple #[.int .i64 ((ceilC s c k).getD 0), .bool (ceilC s c k).isSome, u]) ∧ ErrV w' u (oErr s c) (if isC s c then 0 else c) ∧ Upd [] w w'
theorem keys_len {s : MS} {c : Int} (h : MP.Good s) (hc : isC s c = true) : (keysC s c).length ≤ 100 ∧ (keysC s c).Pairwise (· < ·) := by
  obtain ⟨i, rfl, hi⟩ := isC_form hc
  unfold keysC
  rw [Int.toNat_natCast, List.length_map]
  exact ⟨h.len _ (coll_mem hi), srt_keys (h.srt _ (coll_mem hi))⟩
set_option maxRecDepth 100000 in
set_option maxHeartbeats 4000000 in
theorem m_ceil (B sb : Nat) (F : List Nat) (s : MS) (c k : Int) (w : World) (h : Mdl B sb F w s) :
    Calls Tryz.prog 55 #[.pointer (some ⟨sb, 0, none⟩), .int .i64 c, .int .i64 k] w fun e w' => CeilPost s c k w e w' := by
  have H := Lib.hid h
  clear h
  go_enter Tryz.func55, Tryz.ntmps55
  go_wp2_with fail
  refine (m_ordered B sb F s c w H.out).mono ?_
  rintro e w1 ⟨v, u, rfl, u1, hor⟩
  have U1 := Lib.hid u1
  clear u1
  rcases hor with ⟨h1, h2, rfl, ho⟩ | hor
  · have HE := Lib.hid h1
    have HC := Lib.hid h2
    have KL := Lib.hid (keys_len H.out.1 h2)
    obtain ⟨A, ca, rfl, hnc, _⟩ := own_slice ho
    obtain ⟨n, hn⟩ : ∃ n, (keysC s c).length = n := ⟨_, rfl⟩
    have HN := Lib.hid hn
    have HO := Lib.hid ho
    rw [hn] at hnc HO ⊢
    clear ho hn h1 h2
    go_wp2_with fail
    refine (bin_ok _ (keysC s c) (.slice A n ca) k w1 HO.out KL.out.2 (by have := KL.out.1; omega)).mono ?_
    rintro e w2 ⟨i, b, rfl, hi, ha, hb, u2⟩
    have HCE : Hid (ceilC s c k = (keysC s c)[i]?) := Lib.hid (by unfold ceilC; rw [HE.out, if_pos rfl]; exact ceil_at ha hb)
    have U2 := Lib.hid (U1.out.trans u2)
    rw [HN.out] at hi
    have O2 := Lib.hid (HO.out.upd0 u2)
    clear ha hb u2
    by_cases hin : i = n
    · have d : ((i : Int) == (n : Int)) = true := by simp [hin]
      have HX : Hid (ceilC s c k = none) := Lib.hid (by rw [HCE.out, List.getElem?_eq_none (by rw [HN.out]; omega)])
      clear hin
      go_wp2_with fail
      go_ret3
      unfold CeilPost
      rw [HX.out, HE.out, HC.out]
      exact ⟨_, rfl, ErrV.nil _, U2.out⟩
    · have d : ((i : Int) == (n : Int)) = false := by simp; omega
      obtain ⟨y, hy⟩ : ∃ y, (keysC s c)[i]? = some y := ⟨_, List.getElem?_eq_getElem (by rw [HN.out]; omega)⟩
      have HX : Hid (ceilC s c k = some y) := Lib.hid (by rw [HCE.out, hy])
      have ON : Hid (w2.ownsRow w.heap.size 3 1 (.slice A n ca) n (flat encK (keysC s c))) := Lib.hid (by have := O2.out; unfold Ow at this; rw [HN.out] at this; exact this)
      obtain ⟨g, cg, cur, e1, _⟩ := own_form ON.out (by omega)
      injection e1 with e1 _ e1'
      subst e1 e1'
      have e0 : w2.cell? ⟨g, i, none⟩ = some (.int .i64 y) := by
        have := own_cell ON.out _ _ ((flat_get (E := encK) hy (j := 0) (by decide)).trans rfl)
        rwa [show i * encK.s + 0 = i by simp [encI]] at this
      have q1 : (0 : Int) ≤ (i : Int) := by omega
      have q2 : (i : Int) < (n : Int) := by omega
      clear hy hin
      go_wp2_with fail
      go_ret3
      unfold CeilPost
      rw [HX.out, HE.out, HC.out]
      exact ⟨_, rfl, ErrV.nil _, U2.out⟩
  · have EV := Lib.hid (oErr_err hor)
    have HNE : Hid (ceilC s c k = none) := Lib.hid (by unfold ceilC; rw [if_neg (by rcases hor with ⟨h, _⟩ | ⟨h, _⟩ <;> omega)])
    have HU : (∃ x, u = .iface 63 x) ∨ ∃ g, u = .iface 96 (.pointer (some ⟨g, 0, none⟩)) := by
      rcases hor with ⟨_, _, _, h⟩ | ⟨_, _, _, g, h, _⟩
      · exact .inl ⟨_, h⟩
      · exact .inr ⟨g, h⟩
    clear hor
    rcases HU with ⟨x, rfl⟩ | ⟨g, rfl⟩
    · go_wp2_with fail
      go_ret3
      unfold CeilPost
      rw [HNE.out]
      exact ⟨_, rfl, EV.out, U1.out⟩
    · go_wp2_with fail
      go_ret3
      unfold CeilPost
      rw [HNE.out]
      exact ⟨_, rfl, EV.out, U1.out⟩
end Go.Proofs.YtfbeaklplefojaaGreatDoor

namespace Go.Proofs.YtfbeaklplefojaaGreatDoor
open Go.RowKit Assoc MP
attribute [local go_sem] litStep_value

def rangeK (xs : List Int) (a b : Int) : Nat := (xs.filter (fun x => decide (a ≤ x) && decide (x ≤ b))).length
theorem rangeK_snoc (xs : List Int) (a b x : Int) : rangeK (xs ++ [x]) a b = rangeK xs a b + if a ≤ x ∧ x ≤ b then 1 else 0 := by
  unfold rangeK
  rw [List.filter_append, List.length_append]
  by_cases h : a ≤ x ∧ x ≤ b
  · simp [h]
  · have : (decide (a ≤ x) && decide (x ≤ b)) = false := by simpa using h
    simp [this, h]
theorem rangeL_eq (l : AL) (a b : Int) : rangeL l a b = rangeK (l.map (·.1)) a b := by
  unfold rangeL rangeK
  rw [List.filter_map, List.length_map]
  rfl
theorem take_snoc_ {α : Type} {L : List α} {k : Nat} {x : α} (h : L[k]? = some x) : L.take (k + 1) = L.take k ++ [x] := by
  obtain ⟨hk, rfl⟩ := List.getElem?_eq_some_iff.1 h
  exact List.take_succ_eq_append_getElem hk
def rangeC (s : MS) (c a b : Int) : Nat := if oErr s c = 0 then rangeL (coll s c.toNat) a b else 0
def MRangePost (s : MS) (c a b : Int) (w : World) (e : Ending) (w' : World) : Prop := ∃ u, e = .returned (.tuple #[.int .i64 (rangeC s c a b : Nat), u]) ∧ ErrV w' u (oErr s c) (if isC s c then 0 else c) ∧ Upd [] w w'
set_option maxRecDepth 100000 in
set_option maxHeartbeats 4000000 in
theorem m_range (B sb : Nat) (F : List Nat) (s : MS) (c a b : Int) (w : World) (h : Mdl B sb F w s) :
    Calls Tryz.prog 57 #[.pointer (some ⟨sb, 0, none⟩), .int .i64 c, .int .i64 a, .int .i64 b] w fun e w' => MRangePost s c a b w e w' := by
  have H := Lib.hid h
  clear h
  go_enter Tryz.func57, Tryz.ntmps57
  go_wp2_with fail
  refine (m_ordered B sb F s c w H.out).mono ?_
  rintro e w1 ⟨v, u, rfl, u1, hor⟩
  have U1 := Lib.hid u1
  clear u1
  rcases hor with ⟨h1, h2, rfl, ho⟩ | hor
  · have HE := Lib.hid h1
    have HC := Lib.hid h2
    have KL := Lib.hid (keys_len H.out.1 h2)
    obtain ⟨A, ca, rfl, hnc, _⟩ := own_slice ho
    obtain ⟨n, hn⟩ : ∃ n, (keysC s c).length = n := ⟨_, rfl⟩
    have HN := Lib.hid hn
    have HO := Lib.hid ho
    have ON : Hid (w1.ownsRow w.heap.size 3 1 (.slice A n ca) n (flat encK (keysC s c))) := Lib.hid (by have := ho; unfold Ow at this; rw [hn] at this; exact this)
    have hn1 : n ≤ 100 := hn ▸ KL.out.1
    rw [hn] at hnc ⊢
    clear ho hn h1 h2
    go_wp2_with fail
    go_loopw [12, 26] (fun vm vk wr => ∃ k : Nat, vk = .int .i64 k ∧ vm = .int .i64 (rangeK ((keysC s c).take k) a b : Nat) ∧ k ≤ n ∧ Hid (rangeK ((keysC s c).take k) a b ≤ k) ∧ Hid (Upd [] w1 wr)) (fun _ v _ => n - (intOf v).toNat)
    case atStart => exact ⟨0, rfl, rfl, by omega, Lib.hid (by simp [rangeK]), Lib.hid (.refl _ _)⟩
    case round =>
      obtain ⟨k, rfl, rfl, hk, HR, HU⟩ := hrel
      obtain ⟨r, hr⟩ : ∃ r, rangeK ((keysC s c).take k) a b = r := ⟨_, rfl⟩
      have HRR := Lib.hid hr
      have hrk : r ≤ k := hr ▸ HR.out
      rw [hr]
      clear hr
      by_cases hkn : k < n
      · obtain ⟨y, hy⟩ : ∃ y, (keysC s c)[k]? = some y := ⟨_, List.getElem?_eq_getElem (by rw [HN.out]; exact hkn)⟩
        obtain ⟨g, cg, cur, e1, _⟩ := own_form ON.out (by omega)
        injection e1 with e1 _ e1'
        subst e1 e1'
        have e0 : wr.cell? ⟨g, k, none⟩ = some (.int .i64 y) := by
          have := own_cell (own_upd0 ON.out HU.out) _ _ ((flat_get (E := encK) hy (j := 0) (by decide)).trans rfl)
          rwa [show k * encK.s + 0 = k by simp [encI]] at this
        have HT := Lib.hid (take_snoc_ hy)
        have q1 : (0 : Int) ≤ (k : Int) := by omega
        have q2 : (k : Int) < (n : Int) := by omega
        clear hy
        by_cases h1 : a ≤ y
        · have d1 : decide (a ≤ y) = true := by simpa using h1
          by_cases h2 : y ≤ b
          · have d2 : decide (y ≤ b) = true := by simpa using h2
            have HZ : Hid (rangeK ((keysC s c).take (k + 1)) a b = r + 1) := Lib.hid (by rw [HT.out, rangeK_snoc, HRR.out, if_pos ⟨h1, h2⟩])
            go_wp2_with fail
            go_roundw
            case rel => exact ⟨k + 1, by go_num, by rw [HZ.out]; go_num, by omega, Lib.hid (by rw [HZ.out]; omega), HU⟩
            case measure => simp [intOf]; omega
          · have d2 : decide (y ≤ b) = false := by simpa using h2
            have HZ : Hid (rangeK ((keysC s c).take (k + 1)) a b = r + 0) := Lib.hid (by rw [HT.out, rangeK_snoc, HRR.out, if_neg (fun h => h2 h.2)])
            go_wp2_with fail
            go_roundw
            case rel => exact ⟨k + 1, by go_num, by rw [HZ.out]; go_num, by omega, Lib.hid (by rw [HZ.out]; omega), HU⟩
            case measure => simp [intOf]; omega
        · have d1 : decide (a ≤ y) = false := by simpa using h1
          have HZ : Hid (rangeK ((keysC s c).take (k + 1)) a b = r + 0) := Lib.hid (by rw [HT.out, rangeK_snoc, HRR.out, if_neg (fun h => h1 h.1)])
          go_wp2_with fail
          go_roundw
          case rel => exact ⟨k + 1, by go_num, by rw [HZ.out]; go_num, by omega, Lib.hid (by rw [HZ.out]; omega), HU⟩
          case measure => simp [intOf]; omega
      · obtain rfl : k = n := by omega
        go_wp2_with fail
        go_ret2
        unfold MRangePost
        have HX : rangeC s c a b = r := by
          unfold rangeC
          rw [HE.out, if_pos rfl, rangeL_eq, ← HRR.out, List.take_of_length_le (by rw [HN.out]; exact Nat.le_refl _)]
          rfl
        rw [HX, HE.out, HC.out]
        exact ⟨_, rfl, ErrV.nil _, U1.out.trans HU.out⟩
  · have EV := Lib.hid (oErr_err hor)
    have HNE : Hid (rangeC s c a b = 0) := Lib.hid (by unfold rangeC; rw [if_neg (by rcases hor with ⟨h, _⟩ | ⟨h, _⟩ <;> omega)])
    have HU : (∃ x, u = .iface 63 x) ∨ ∃ g, u = .iface 96 (.pointer (some ⟨g, 0, none⟩)) := by
      rcases hor with ⟨_, _, _, h⟩ | ⟨_, _, _, g, h, _⟩
      · exact .inl ⟨_, h⟩
      · exact .inr ⟨g, h⟩
    clear hor
    rcases HU with ⟨x, rfl⟩ | ⟨g, rfl⟩
    · go_wp2_with fail
      go_ret2
      unfold MRangePost
      rw [HNE.out]
      exact ⟨_, rfl, EV.out, U1.out⟩
    · go_wp2_with fail
      go_ret2
      unfold MRangePost
      rw [HNE.out]
      exact ⟨_, rfl, EV.out, U1.out⟩
/-- What a collection lists. -/
def listC (s : MS) (c : Int) : AL := if isC s c then coll s c.toNat else []
def ListPost (s : MS) (c : Int) (w : World) (e : Ending) (w' : World) : Prop := ∃ v u, e = .returned (.tuple #[v, u]) ∧ ErrV w' u (if isC s c then 0 else 3) (if isC s c then 0 else c) ∧ Ow encPr 56 w' w.heap.size v (listC s c) ∧ Upd [] w w'
def slLen_ : Value → Nat
  | .slice _ n _ => n
  | _ => 0
set_option maxRecDepth 100000 in
set_option maxHeartbeats 4000000 in
theorem m_list (B sb : Nat) (F : List Nat) (s : MS) (c : Int) (w : World) (h : Mdl B sb F w s) :
    Calls Tryz.prog 17 #[.pointer (some ⟨sb, 0, none⟩), .int .i64 c] w fun e w' => ListPost s c w e w' := by
  have H := Lib.hid h
  obtain ⟨g, vk, gc, cc, ms, hF, h⟩ := h
  have HF := Lib.hid hF
  have HS := Lib.hid h
  have HG := Lib.hid g
  have K8 := Lib.hid (show s.L.length ≤ 8 by have := g.k8; rw [g.kl] at this; exact this)
  clear g hF h
  go_enter Tryz.func17, Tryz.ntmps17
  go_wp2_with fail
  refine (m_coll B sb vk gc cc ms s c w HS.out K8.out).mono ?_
  rintro e w1 (⟨hc, rfl, i, m, rfl, hi, hm, rfl⟩ | ⟨hc, u1, gf, rfl, bf⟩)
  · obtain ⟨m', hm', him⟩ := HS.out.at_ hi
    obtain rfl : m' = m := by rw [hm] at hm'; exact (Option.some.inj hm').symm
    have HI := Lib.hid hc
    have HIM := Lib.hid him
    have HII := Lib.hid hi
    obtain ⟨l, hl⟩ : ∃ l, coll s i = l := ⟨_, rfl⟩
    have HL : Hid (listC s i = l) := Lib.hid (by unfold listC; rw [hc, Int.toNat_natCast]; exact hl)
    have SR : Hid (Srt l ∧ kwf l ∧ l.length ≤ 100) := Lib.hid ⟨hl ▸ HG.out.srt _ (coll_mem hi), hl ▸ good_kwf HG.out hi, hl ▸ HG.out.len _ (coll_mem hi)⟩
    rw [hl] at HIM
    clear hm hm' hi hc him hl
    go_wp2_with fail
    refine (keysM (some m') w).mono ?_; rintro e w1 ⟨rfl, rfl⟩
    have U1 : Hid (Upd [] w (w.alloc (.cells #[.map (some m')] 77))) := Lib.hid ((Upd.refl [] w).alloc _)
    have Y1 : Hid (Blk (w.alloc (.cells #[.map (some m')] 77)) w.heap.size 77 #[.map (some m')]) := Lib.hid (Blk.new w _ _)
    go_wp2_with fail
    generalize (w.alloc (.cells #[.map (some m')] 77)) = w2 at *
    refine (sortedKeys w.heap.size m' l w2 Y1.out (HIM.out.upd U1.out (by simp)) SR.out.1 SR.out.2.1 SR.out.2.2).mono ?_
    rintro e w3 ⟨v, rfl, o3, u3⟩
    have U3 := Lib.hid (U1.out.trans u3)
    obtain ⟨A, ca, rfl, hnc, _⟩ := own_slice o3
    rw [List.length_map] at hnc ⊢
    obtain ⟨n, hn⟩ : ∃ n, l.length = n := ⟨_, rfl⟩
    have HN := Lib.hid hn
    have ON : Hid (w3.ownsRow w2.heap.size 3 1 (.slice A n ca) n (flat encK (l.map (·.1)))) := Lib.hid (by have := o3; unfold Ow at this; rw [List.length_map, hn] at this; exact this)
    have hn1 : n ≤ 100 := hn ▸ SR.out.2.2
    rw [hn] at hnc ⊢
    clear o3 u3 hn Y1 U1
    go_wp2_with fail
    go_loopw [8, 24] (fun vl vk wr => ∃ k : Nat, vk = .int .i64 k ∧ k ≤ n ∧ Hid (Ow encPr 56 wr w3.heap.size vl (l.take k) ∧ Upd [] w3 wr)) (fun _ v _ => n - (intOf v).toNat)
    case atStart => exact ⟨0, rfl, by omega, Lib.hid ⟨Ow.nil _ _ _ _, .refl _ _⟩⟩
    case round =>
      obtain ⟨k, rfl, hk, HK⟩ := hrel
      obtain ⟨ho, hu⟩ := HK.out
      rename World => wi
      obtain ⟨Al, cl, rfl, _, _⟩ := own_slice ho
      obtain ⟨q, hq⟩ : ∃ q, (l.take k).length = q := ⟨_, rfl⟩
      have hqk : q = k := by rw [← hq, List.length_take, HN.out]; omega
      subst hqk
      have O1 : Hid (wi.ownsRow w3.heap.size 56 2 (.slice Al q cl) q (flat encPr (l.take q))) := Lib.hid (by have := ho; unfold Ow at this; rw [hq] at this; exact this)
      have HUI := Lib.hid hu
      rw [hq]
      clear HK ho hu hq
      by_cases hkn : q < n
      · obtain ⟨⟨xk, xv⟩, hx⟩ : ∃ x, l[q]? = some x := ⟨_, List.getElem?_eq_getElem (by rw [HN.out]; exact hkn)⟩
        obtain ⟨g, cg, cur, e1, _⟩ := own_form ON.out (by omega)
        injection e1 with e1 _ e1'
        subst e1 e1'
        have e0 : wi.cell? ⟨g, q, none⟩ = some (.int .i64 xk) := by
          have := own_cell (own_upd0 ON.out HUI.out) _ _ ((flat_get (E := encK) (L := l.map (·.1)) (a := xk) (by rw [List.getElem?_map, hx]; rfl) (j := 0) (by decide)).trans rfl)
          rwa [show q * encK.s + 0 = q by simp [encI]] at this
        have l0 : (Instr.lookup 77 (.map (some m')) (.int .i64 xk) false).run Tryz.prog wi = .ok (.int .i64 xv) wi := by
          have hr := run_lookup_int' (P := Tryz.prog) (z := .int .i64 0) (mt := 77) Tryz.underlying77 Tryz.underlying3 (w := wi) (by kernel_rfl) (HIM.out.upd (U3.out.trans HUI.out) (by simp)) xk
          rw [hr]
          unfold mapI
          rw [get_mem SR.out.1 (List.mem_of_getElem? hx)]
          rfl
        have HT := Lib.hid (take_snoc_ hx)
        have q1 : (0 : Int) ≤ (q : Int) := by omega
        have q2 : (q : Int) < (n : Int) := by omega
        clear hx
        go_wp2_with (at_builtin; refine stopped ?_)
        refine Lib.hid ?_
        refine wpList_app _ (by rfl) (.tmp 28) (.tmp 34) _ (by rfl) elem_pair (.slice Al q cl) _ (by rfl) (by rfl) (own_upd0 O1.out ((Upd.refl [] wi).alloc _)) (.of_blk (Blk.new _ _ _) (m := 1) 1 rfl) (by intro u hu; simp at hu; rcases hu with rfl | rfl <;> rfl) (by simp only [maxLen]; omega) (by omega) (Nat.le_trans HUI.out.size (by simp)) ?_
        intro v5 w5 o5 u5 b5
        obtain ⟨A5, c5, rfl, _, _⟩ := own_slice o5
        have U5' : Hid (Upd [] w3 w5) := Lib.hid (HUI.out.trans' (((Upd.refl _ wi).alloc _).trans u5) (fun k hk => .inr (own_lt O1.out (by simpa using hk)).1))
        have O5 : Hid (Ow encPr 56 w5 w3.heap.size (.slice A5 (q + 1) c5) (l.take (q + 1))) := Lib.hid (by
          rw [HT.out]
          have e1 : flat encPr (l.take q) ++ #[Value.int .i64 xk, Value.int .i64 xv].toList = flat encPr (l.take q ++ [(xk, xv)]) := by rw [flat_append]; rfl
          rw [e1] at o5
          unfold Ow
          rw [List.length_append, List.length_take, HN.out, Nat.min_eq_left (by omega)]
          exact o5)
        clear o5 u5 b5
        go_wp2_with fail
        go_roundw
        case rel => exact ⟨q + 1, by go_num, by omega, Lib.hid ⟨O5.out, U5'.out⟩⟩
        case measure => simp [intOf]; omega
      · obtain rfl : q = n := by omega
        go_wp2_with fail
        go_ret2
        unfold ListPost
        rw [HI.out, HL.out]
        refine ⟨_, _, rfl, ErrV.nil _, ?_, U3.out.trans HUI.out⟩
        have := own_base O1.out U3.out.size
        rw [List.take_of_length_le (by rw [HN.out]; exact Nat.le_refl _)] at this
        unfold Ow
        rw [HN.out]
        exact this
  · have U1 := Lib.hid u1
    have BF := Lib.hid bf
    have HI := Lib.hid hc
    clear u1 bf hc
    go_wp2_with fail
    go_ret2
    unfold ListPost listC
    rw [HI.out]
    exact ⟨_, _, rfl, ErrV.fault (no := 3) (at_ := c) BF.out (by omega) (by omega), Ow.nil _ _ _ _, U1.out⟩
end Go.Proofs.YtfbeaklplefojaaGreatDoor

namespace Go.Proofs.YtfbeaklplefojaaGreatDoor
open Assoc
/-- The place of a cell that is written. -/
def posW (W : AL) (c : Int) : Int := match W.findIdx? (fun p => p.1 == c) with | some k => (k : Int) | none => -1
theorem idx_at {L : List (Int × Int)} {c : Int} {k : Nat} {x : Int × Int} (h : ∀ j, j < k → (L.getD j default).1 ≠ c) (hx : L[k]? = some x) (e : x.1 = c) : L.findIdx? (fun p => p.1 == c) = some k := by
  obtain ⟨hk, rfl⟩ := List.getElem?_eq_some_iff.1 hx
  rw [List.findIdx?_eq_some_iff_getElem]
  refine ⟨hk, by simpa using e, fun j hj => ?_⟩
  have := h j hj
  rw [List.getD_eq_getElem?_getD, List.getElem?_eq_getElem (by omega)] at this
  simpa using this
theorem idx_no {L : List (Int × Int)} {c : Int} (h : ∀ j, j < L.length → (L.getD j default).1 ≠ c) : L.findIdx? (fun p => p.1 == c) = none := by
  rw [List.findIdx?_eq_none_iff]
  intro x hx
  obtain ⟨j, hj, rfl⟩ := List.getElem_of_mem hx
  have := h j hj
  rw [List.getD_eq_getElem?_getD, List.getElem?_eq_getElem hj] at this
  simpa using this
theorem posW_none {W : AL} {c : Int} (h : get W c = none) : posW W c = -1 := by
  unfold posW
  rw [get_none] at h
  have : W.findIdx? (fun p => p.1 == c) = none := by
    rw [List.findIdx?_eq_none_iff]
    intro p hp
    simpa using h p hp
  rw [this]
theorem posW_some {W : AL} {c v : Int} (h : get W c = some v) : ∃ k : Nat, posW W c = k ∧ W[k]? = some (c, v) := by
  unfold posW
  cases hf : W.findIdx? (fun p => p.1 == c) with
  | none =>
    rw [List.findIdx?_eq_none_iff] at hf
    have : get W c = none := get_none.2 fun p hp => by simpa using hf p hp
    rw [this] at h
    cases h
  | some k =>
    refine ⟨k, rfl, ?_⟩
    rw [List.findIdx?_eq_some_iff_getElem] at hf
    obtain ⟨hk, h1, h2⟩ := hf
    rw [List.getElem?_eq_getElem hk]
    have h1 : W[k].1 = c := by simpa using h1
    have : get W c = some W[k].2 := by
      unfold Assoc.get
      have : W.find? (fun p => p.1 == c) = some W[k] := by
        rw [List.find?_eq_some_iff_getElem]
        exact ⟨by simpa using h1, k, hk, rfl, fun j hj => by simpa using h2 j hj⟩
      rw [this]
      rfl
    rw [this] at h
    injection h with h
    rw [← h1, ← h]

end Go.Proofs.YtfbeaklplefojaaGreatDoor

namespace Go.Proofs.YtfbeaklplefojaaGreatDoor
open Go.RowKit Assoc MP
attribute [local go_sem] litStep_value

/-- The document's state in block rb. -/
structure RMSt (B rb : Nat) (vk vl : Value) (ms : List Value) (w : World) (s : MS) : Prop where
  box : Blk w rb 83 #[vk, vl]
  k : Ow encK 3 w B vk s.K
  l : w.ownsRow B 52 1 vl s.L.length ms
  each : ∀ (i : Nat) (v : Value) (l : AL), ms[i]? = some v → s.L[i]? = some l → Ow encPr 56 w B v l
  b : B ≤ rb
def ownsOf (ms : List Value) : List Nat := ms.flatMap (fun v => v.ownBlock.toList)
theorem mem_owns {ms : List Value} {b : Nat} : b ∈ ownsOf ms ↔ ∃ v ∈ ms, v.ownBlock = some b := by
  unfold ownsOf
  simp [List.mem_flatMap]
def fpRM (rb : Nat) (vk vl : Value) (ms : List Value) : List Nat := rb :: (vk.ownBlock.toList ++ vl.ownBlock.toList ++ ownsOf ms)
def RMdl (B rb : Nat) (F : List Nat) (w : World) (s : MS) : Prop := MP.Good s ∧ ∃ vk vl ms, F = fpRM rb vk vl ms ∧ RMSt B rb vk vl ms w s
section
variable {B rb : Nat} {vk vl : Value} {ms : List Value} {w w' : World} {s : MS} {F T : List Nat}
theorem RMSt.mlen (h : RMSt B rb vk vl ms w s) : ms.length = s.L.length := by have := own_len h.l; omega
theorem RMSt.mem (h : RMSt B rb vk vl ms w s) {v : Value} (hv : v ∈ ms) : ∃ l, l ∈ s.L ∧ Ow encPr 56 w B v l := by
  obtain ⟨i, hi, rfl⟩ := List.getElem_of_mem hv
  have hi' : i < s.L.length := by rw [← h.mlen]; exact hi
  exact ⟨s.L[i], List.getElem_mem _, h.each i _ _ (List.getElem?_eq_getElem hi) (List.getElem?_eq_getElem hi')⟩
theorem RMSt.upd (h : RMSt B rb vk vl ms w s) (hu : Upd T w w') (hT : ∀ k ∈ fpRM rb vk vl ms, k ∉ T) : RMSt B rb vk vl ms w' s := by
  unfold fpRM at hT
  simp only [List.mem_cons, List.mem_append, Option.mem_toList] at hT
  refine ⟨h.box.upd hu (hT _ (.inl rfl)), h.k.upd hu fun b hb => hT b (.inr (.inl (.inl hb))), own_upd h.l hu fun b hb => hT b (.inr (.inl (.inr hb))), fun i v l hv hl => (h.each i v l hv hl).upd hu fun b hb => hT b (.inr (.inr (mem_owns.2 ⟨v, List.mem_of_getElem? hv, hb⟩))), h.b⟩
theorem RMdl.upd (h : RMdl B rb F w s) (hu : Upd T w w') (hT : Disj F T) : RMdl B rb F w' s := by
  obtain ⟨g, vk, vl, ms, rfl, h⟩ := h
  exact ⟨g, vk, vl, ms, rfl, h.upd hu hT⟩
theorem RMdl.upd0 (h : RMdl B rb F w s) (hu : Upd [] w w') : RMdl B rb F w' s := h.upd hu (fun k _ => by simp)
theorem RMSt.lt (h : RMSt B rb vk vl ms w s) : ∀ k ∈ fpRM rb vk vl ms, B ≤ k ∧ k < w.heap.size := by
  intro k hk
  unfold fpRM at hk
  simp only [List.mem_cons, List.mem_append, Option.mem_toList] at hk
  rcases hk with rfl | (hk | hk) | hk
  · exact ⟨h.b, h.box.lt⟩
  · exact own_lt h.k hk
  · exact own_lt h.l hk
  · obtain ⟨v, hv, hb⟩ := mem_owns.1 hk
    obtain ⟨l, _, ho⟩ := h.mem hv
    exact own_lt ho hb
theorem RMdl.lt (h : RMdl B rb F w s) : ∀ k ∈ F, B ≤ k ∧ k < w.heap.size := by
  obtain ⟨g, vk, vl, ms, rfl, h⟩ := h
  exact h.lt
/-- A collection's cells. -/
theorem RMSt.at_ (h : RMSt B rb vk vl ms w s) {i : Nat} (hi : i < s.L.length) : ∃ gl cl Ai ci, vl = .slice (some ⟨gl, 0, none⟩) s.L.length cl ∧ w.cell? ⟨gl, i, none⟩ = some (.slice Ai (coll s i).length ci) ∧ Ow encPr 56 w B (.slice Ai (coll s i).length ci) (coll s i) ∧ ms[i]? = some (.slice Ai (coll s i).length ci) := by
  obtain ⟨gl, cl, cur, rfl, _⟩ := own_form h.l (by omega)
  have hm : i < ms.length := by rw [h.mlen]; exact hi
  have ho := h.each i _ _ (List.getElem?_eq_getElem hm) (coll_get hi)
  obtain ⟨Ai, ci, e, _⟩ := own_slice ho
  have hc := own_cell h.l i _ (List.getElem?_eq_getElem hm)
  rw [e] at ho hc
  exact ⟨gl, cl, Ai, ci, rfl, hc, ho, by rw [List.getElem?_eq_getElem hm, e]⟩
end
set_option maxRecDepth 100000 in
theorem rm_there (B rb : Nat) (F : List Nat) (s : MS) (c : Int) (w : World) (h : RMdl B rb F w s) :
    Calls Tryz.prog 35 #[.pointer (some ⟨rb, 0, none⟩), .int .i64 c] w fun e w' => e = .returned (.bool (isC s c)) ∧ w = w' := by
  obtain ⟨g, vk, vl, ms, hF, h⟩ := h
  obtain ⟨Al, cl, rfl, _, _⟩ := own_slice h.l
  obtain ⟨n, hn⟩ : ∃ n, s.L.length = n := ⟨_, rfl⟩
  have c1 : w.cell? ⟨rb, 1, none⟩ = some (.slice Al n cl) := by rw [← hn]; exact h.box.cell 1
  have hn8 : n ≤ 8 := by rw [← hn, ← g.kl]; exact g.k8
  obtain ⟨r, hr⟩ : ∃ r, isC s c = r := ⟨_, rfl⟩
  have HR : Hid (r = decide (0 ≤ c ∧ c < (n : Int))) := Lib.hid (by rw [← hr]; unfold isC; rw [hn])
  rw [hr]
  clear h g hF hn hr
  go_enter Tryz.func35, Tryz.ntmps35
  by_cases h0 : 0 ≤ c
  · have d0 : decide (0 ≤ c) = true := by simpa using h0
    by_cases h1 : c < (n : Int)
    · have d1 : decide (c < (n : Int)) = true := by simpa using h1
      have HZ : Hid (r = true) := Lib.hid (by rw [HR.out, decide_eq_true_iff]; exact ⟨h0, h1⟩)
      clear h0 h1
      go_wp2_with fail
      go_ret
      exact ⟨by rw [HZ.out]; rfl, rfl⟩
    · have d1 : decide (c < (n : Int)) = false := by simpa using h1
      have HZ : Hid (r = false) := Lib.hid (by rw [HR.out, decide_eq_false_iff_not]; exact fun h => h1 h.2)
      clear h0 h1
      go_wp2_with fail
      go_ret
      exact ⟨by rw [HZ.out]; rfl, rfl⟩
  · have d0 : decide (0 ≤ c) = false := by simpa using h0
    have HZ : Hid (r = false) := Lib.hid (by rw [HR.out, decide_eq_false_iff_not]; exact fun h => h0 h.1)
    clear h0
    go_wp2_with fail
    go_ret
    exact ⟨by rw [HZ.out]; rfl, rfl⟩
set_option maxRecDepth 100000 in
set_option maxHeartbeats 2000000 in
theorem rm_find (B rb : Nat) (F : List Nat) (s : MS) (i : Nat) (k : Int) (w : World) (h : RMdl B rb F w s) (hi : i < s.L.length) :
    Calls Tryz.prog 36 #[.pointer (some ⟨rb, 0, none⟩), .int .i64 i, .int .i64 k] w fun e w' => e = .returned (.int .i64 (posW (coll s i) k)) ∧ w = w' := by
  obtain ⟨hgd, vk, vl, ms, hF, hst⟩ := h
  obtain ⟨gl, cl, Ai, ci, rfl, hcell, hoi, _⟩ := hst.at_ hi
  obtain ⟨N, hN⟩ : ∃ N, s.L.length = N := ⟨_, rfl⟩
  obtain ⟨n, hn⟩ : ∃ n, (coll s i).length = n := ⟨_, rfl⟩
  have hn1 : n ≤ 100 := hn ▸ hgd.len _ (coll_mem hi)
  have hi2 : i < N := hN ▸ hi
  have c1 : w.cell? ⟨rb, 1, none⟩ = some (.slice (some ⟨gl, 0, none⟩) N cl) := by rw [← hN]; exact hst.box.cell 1
  have e0 : w.cell? ⟨gl, i, none⟩ = some (.slice Ai n ci) := by rw [← hn]; exact hcell
  have ON : Hid (w.ownsRow B 56 2 (.slice Ai n ci) n (flat encPr (coll s i))) := Lib.hid (by have := hoi; unfold Ow at this; rw [hn] at this; exact this)
  have HN := Lib.hid hn
  have OI : Hid (Ow encPr 56 w B (.slice Ai n ci) (coll s i)) := Lib.hid (by rw [← hn]; exact hoi)
  have q1 : (0 : Int) ≤ (i : Int) := by omega
  have q2 : (i : Int) < (N : Int) := by omega
  clear hcell hoi hN hn
  obtain ⟨r, hr⟩ : ∃ r, posW (coll s i) k = r := ⟨_, rfl⟩
  have HR := Lib.hid hr
  rw [hr]
  clear hgd hst hF hi hr
  go_enter Tryz.func36, Tryz.ntmps36
  go_wp2_with fail
  go_loop [7] (fun v => ∃ j : Nat, v = .int .i64 j ∧ j ≤ n ∧ Hid (∀ p, p < j → ((coll s i).getD p default).1 ≠ k)) (fun v => n - (intOf v).toNat)
  case atStart => exact ⟨0, rfl, by omega, Lib.hid (fun j hj => by omega)⟩
  case round =>
    obtain ⟨j, rfl, hj, HA⟩ := hrel
    by_cases hjn : j < n
    · obtain ⟨⟨xc, xv⟩, hx⟩ : ∃ x, (coll s i)[j]? = some x := ⟨_, List.getElem?_eq_getElem (by rw [HN.out]; omega)⟩
      obtain ⟨gw, cg, cur, e1, _⟩ := own_form ON.out (by omega)
      injection e1 with e1 _ e1'
      subst e1 e1'
      have f0 : w.cell? ⟨gw, j * 2, none⟩ = some (.int .i64 xc) := OI.out.at_ hx 0 _ rfl
      have HX := Lib.hid hx
      have q3 : (0 : Int) ≤ (j : Int) := by omega
      have q4 : (j : Int) < (n : Int) := by omega
      clear hx
      by_cases hid : xc = k
      · have d1 : (xc == k) = true := by simpa using hid
        have HZ : Hid (r = j) := Lib.hid (by rw [← HR.out]; unfold posW; rw [idx_at HA.out HX.out hid])
        clear hid
        go_wp2_with fail
        go_ret
        exact ⟨by rw [HZ.out]; rfl, rfl⟩
      · have d1 : (xc == k) = false := by simpa using hid
        have HZ : Hid (∀ p, p < j + 1 → ((coll s i).getD p default).1 ≠ k) := Lib.hid (fun p hp => by
          by_cases e : p = j
          · rw [e, List.getD_eq_getElem?_getD, HX.out]; exact hid
          · exact HA.out p (by omega))
        clear hid
        go_wp2_with fail
        go_round
        case rel => exact ⟨j + 1, by go_num, by omega, HZ⟩
        case measure => simp [intOf]; omega
    · have : j = n := by omega
      subst this
      have HZ : Hid (r = -1) := Lib.hid (by rw [← HR.out]; unfold posW; rw [idx_no (by rw [HN.out]; exact HA.out)])
      go_wp2_with fail
      go_ret
      exact ⟨by rw [HZ.out]; rfl, rfl⟩
end Go.Proofs.YtfbeaklplefojaaGreatDoor

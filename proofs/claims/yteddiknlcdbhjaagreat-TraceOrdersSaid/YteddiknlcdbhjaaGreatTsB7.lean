/-
  cmp.Compare and cmp.Or at int: by contracts.
  The world behind a call that only makes blocks: some draws and some blocks on. No program in sight.
  trace.order of two edges: the world behind it is some draws and some blocks on.
  What the library's sort leaves of a row that the call owns. No program in sight.
  slices.SortFunc of edges by trace.order.
  slices.Collect, slices.SortedFunc of edges; tracer.all.
  tracer.all.
  A region that draws its order, each of whose operations does what it does in whatever order: one obligation an operation, none for an order. No program in sight.
  A region that draws its order, each of whose operations does what it does in whatever order: the theorem. No program in sight.
-/
import Derived.Test.YteddiknlcdbhjaaGreatTsB0
import Derived.Test.YteddiknlcdbhjaaGreatProg
import Derived.Sort.Grow
import Derived.Test.YteddiknlcdbhjaaGreatTsB4
import Derived.Test.YteddiknlcdbhjaaGreatTsB1
import Derived.Shelf.SlSortCmp.NoneTotal
import Derived.Test.YteddiknlcdbhjaaGreatLayE
import Derived.Test.YteddiknlcdbhjaaGreatTsB5
import Derived.Test.YteddiknlcdbhjaaGreatTsB3
set_option linter.unusedVariables false
namespace Go.Proofs.YteddiknlcdbhjaaGreat
open Go.RowKit

/-- What cmp.Compare says of two ints. -/
def cmpI (a b : Int) : Int := if a < b then -1 else if b < a then 1 else 0

theorem isNaN_ok (a : Int) (w : World) : Calls Tryz.prog 76 #[.int .i64 a] w fun e w' => e = .returned (.bool false) ∧ w = w' := by
  have h : (a != a) = false := by simp
  go_enter Tryz.func76, Tryz.ntmps76
  go_wp2_with fail
  go_ret
  exact ⟨rfl, rfl⟩

theorem compare_ok (a b : Int) (w : World) : Calls Tryz.prog 60 #[.int .i64 a, .int .i64 b] w fun e w' => e = .returned (.int .i64 (cmpI a b)) ∧ w = w' := by
  have hc : ∀ v, v = cmpI a b → Calls Tryz.prog 60 #[.int .i64 a, .int .i64 b] w (fun e w' => e = .returned (.int .i64 v) ∧ w = w') → Calls Tryz.prog 60 #[.int .i64 a, .int .i64 b] w fun e w' => e = .returned (.int .i64 (cmpI a b)) ∧ w = w' := by
    rintro v rfl h; exact h
  rcases Int.lt_trichotomy a b with h | h | h
  · refine hc (-1) (by unfold cmpI; rw [if_pos h]) ?_
    go_enter Tryz.func60, Tryz.ntmps60
    go_wp2_with ((go_at_call 76); (refine (isNaN_ok _ _).mono ?_); (rintro e w' ⟨rfl, rfl⟩))
    go_ret
    exact ⟨rfl, rfl⟩
  · have h1 : ¬ a < b := by omega
    have h2 : ¬ b < a := by omega
    refine hc 0 (by unfold cmpI; rw [if_neg h1, if_neg h2]) ?_
    clear h
    go_enter Tryz.func60, Tryz.ntmps60
    go_wp2_with ((go_at_call 76); (refine (isNaN_ok _ _).mono ?_); (rintro e w' ⟨rfl, rfl⟩))
    go_ret
    exact ⟨rfl, rfl⟩
  · have h1 : ¬ a < b := by omega
    refine hc 1 (by unfold cmpI; rw [if_neg h1, if_pos h]) ?_
    go_enter Tryz.func60, Tryz.ntmps60
    go_wp2_with ((go_at_call 76); (refine (isNaN_ok _ _).mono ?_); (rintro e w' ⟨rfl, rfl⟩))
    go_ret
    exact ⟨rfl, rfl⟩

/-- What cmp.Or says of some ints: the first that is not 0. -/
def orL : List Int → Int
  | [] => 0
  | a :: l => if a = 0 then orL l else a
theorem orL_drop (xs : List Int) (k : Nat) (x : Int) (h : xs[k]? = some x) : orL (xs.drop k) = if x = 0 then orL (xs.drop (k + 1)) else x := by
  obtain ⟨hk, rfl⟩ := List.getElem?_eq_some_iff.1 h
  rw [List.drop_eq_getElem_cons hk]
  rfl

set_option maxHeartbeats 400000 in
theorem or_ok (g c : Nat) (xs : List Int) (w : World) (hb : Blk w g 3 (xs.map (Value.int .i64)).toArray) (hn : xs.length ≤ 1000) :
    Calls Tryz.prog 59 #[.slice (some ⟨g, 0, none⟩) xs.length c] w fun e w' => e = .returned (.int .i64 (orL xs)) ∧ w = w' := by
  generalize hX : orL xs = X
  have HX := Lib.hid hX
  clear hX
  obtain ⟨n, HN⟩ : ∃ n, Hid (xs.length = n) := ⟨_, rfl⟩
  rw [HN.out]
  rw [HN.out] at hn
  go_enter Tryz.func59, Tryz.ntmps59
  go_wp2_with fail
  go_loop [8] (fun v => ∃ k : Nat, k ≤ n ∧ v = .int .i64 k ∧ Hid (orL (xs.drop k) = X)) (fun v => n - (intOf v).toNat)
  case atStart => exact ⟨0, by omega, rfl, Lib.hid (by simpa using HX.out)⟩
  case round =>
    obtain ⟨k, hk, rfl, hX⟩ := hrel
    by_cases hlt : k < n
    · obtain ⟨x, hx⟩ : ∃ x, xs[k]? = some x := ⟨_, List.getElem?_eq_getElem (by have := HN.out; omega)⟩
      have f1 : w.cell? ⟨g, k, none⟩ = some (.int .i64 x) := by rw [hb.cell]; simp [hx]
      have hd := orL_drop xs k x hx
      rw [hX.out] at hd
      have HD := Lib.hid hd
      clear hd hx
      by_cases h0 : x = 0
      · subst h0
        go_wp2_with fail
        go_round
        case rel => exact ⟨k + 1, by omega, by go_num, Lib.hid (by rw [HD.out]; rfl)⟩
        case measure => simp [intOf]; omega
      · have h1 : (x != 0) = true := by simpa using h0
        have H0 := Lib.hid h0
        clear h0
        go_wp2_with fail
        go_ret
        exact ⟨by rw [HD.out, if_neg H0.out]; rfl, rfl⟩
    · have : k = n := by omega
      subst this
      have hz : X = 0 := by rw [← hX.out, List.drop_eq_nil_of_le (by have := HN.out; omega)]; rfl
      have HZ := Lib.hid hz
      clear hz
      go_wp2_with fail
      go_ret
      exact ⟨by rw [HZ.out]; rfl, rfl⟩
end Go.Proofs.YteddiknlcdbhjaaGreat

namespace Go.Proofs.YteddiknlcdbhjaaGreat
open Go.RowKit Go.Sort

def Grown (w w' : World) : Prop := ∃ q os, w' = grow (w.drewN q) os
theorem Grown.refl (w : World) : Grown w w := ⟨0, #[], by rw [grow_empty]; rfl⟩
theorem Grown.drew {w w' : World} (h : Grown w w') : Grown w w'.drew := by
  obtain ⟨q, os, rfl⟩ := h
  exact ⟨q + 1, os, rfl⟩
theorem Grown.alloc {w w' : World} (h : Grown w w') (o : Obj) : Grown w (w'.alloc o) := by
  obtain ⟨q, os, rfl⟩ := h
  exact ⟨q, os ++ #[o], by rw [alloc_eq_grow, grow_grow]⟩

end Go.Proofs.YteddiknlcdbhjaaGreat

namespace Go.Proofs.YteddiknlcdbhjaaGreat
open Go Go.RowKit Go.Sort TrP

def cfE (a b : Ed) : Int := orL [cmpI a.1 b.1, cmpI a.2.1 b.2.1, cmpI a.2.2 b.2.2]

set_option maxRecDepth 100000 in
set_option maxHeartbeats 2000000 in
theorem order_grown (a b : Ed) (w : World) : Calls Tryz.prog 48 #[.agg #[.int .i64 a.1, .int .i64 a.2.1, .int .i64 a.2.2], .agg #[.int .i64 b.1, .int .i64 b.2.1, .int .i64 b.2.2]] w fun e w' => e = .returned (.int .i64 (cfE a b)) ∧ Grown w w' := by
  unfold cfE
  obtain ⟨a1, a2, a3⟩ := a
  obtain ⟨b1, b2, b3⟩ := b
  go_enter Tryz.func48, Tryz.ntmps48
  go_wp2_with fail
  have B0 : Hid (Blk ((w.alloc (.cells #[.int .i64 a1, .int .i64 a2, .int .i64 a3] 49)).alloc (.cells #[.int .i64 b1, .int .i64 b2, .int .i64 b3] 49)) w.heap.size 49 #[.int .i64 a1, .int .i64 a2, .int .i64 a3]) := Lib.hid ((Blk.new w _ _).alloc _)
  have B1 : Hid (Blk ((w.alloc (.cells #[.int .i64 a1, .int .i64 a2, .int .i64 a3] 49)).alloc (.cells #[.int .i64 b1, .int .i64 b2, .int .i64 b3] 49)) (w.heap.size + 1) 49 #[.int .i64 b1, .int .i64 b2, .int .i64 b3]) := Lib.hid (Blk.newAt _ _ (by simp))
  have U0 : Hid (Grown w ((w.alloc (.cells #[.int .i64 a1, .int .i64 a2, .int .i64 a3] 49)).alloc (.cells #[.int .i64 b1, .int .i64 b2, .int .i64 b3] 49))) := Lib.hid (((Grown.refl w).alloc _).alloc _)
  generalize ((w.alloc (.cells #[.int .i64 a1, .int .i64 a2, .int .i64 a3] 49)).alloc (.cells #[.int .i64 b1, .int .i64 b2, .int .i64 b3] 49)) = w1 at *
  have KP : Hid (∀ W, Upd [] w1 W → W.cell? ⟨w.heap.size, 0, none⟩ = some (.int .i64 a1) ∧ W.cell? ⟨w.heap.size, 1, none⟩ = some (.int .i64 a2) ∧ W.cell? ⟨w.heap.size, 2, none⟩ = some (.int .i64 a3) ∧ W.cell? ⟨w.heap.size + 1, 0, none⟩ = some (.int .i64 b1) ∧ W.cell? ⟨w.heap.size + 1, 1, none⟩ = some (.int .i64 b2) ∧ W.cell? ⟨w.heap.size + 1, 2, none⟩ = some (.int .i64 b3)) := Lib.hid (fun W hW => ⟨(B0.out.upd hW (by simp)).cell 0, (B0.out.upd hW (by simp)).cell 1, (B0.out.upd hW (by simp)).cell 2, (B1.out.upd hW (by simp)).cell 0, (B1.out.upd hW (by simp)).cell 1, (B1.out.upd hW (by simp)).cell 2⟩)
  have v0 : Upd [] w1 w1.drew := (Upd.refl [] _).drew
  go_region_held3 (fun W => W.cell? ⟨w.heap.size, 0, none⟩ = some (.int .i64 a1) ∧ W.cell? ⟨w.heap.size, 1, none⟩ = some (.int .i64 a2) ∧ W.cell? ⟨w.heap.size, 2, none⟩ = some (.int .i64 a3) ∧ W.cell? ⟨w.heap.size + 1, 0, none⟩ = some (.int .i64 b1) ∧ W.cell? ⟨w.heap.size + 1, 1, none⟩ = some (.int .i64 b2) ∧ W.cell? ⟨w.heap.size + 1, 2, none⟩ = some (.int .i64 b3)) (first | exact KP.out _ (v0.alloc _) | exact KP.out _ v0)
    (first | (go_at_call 60; refine (compare_ok _ _ _).mono ?_; rintro e w' ⟨rfl, rfl⟩) | (go_at_call 59; refine (or_ok w1.heap.size 3 [cmpI a1 b1, cmpI a2 b2, cmpI a3 b3] _ ((Blk.new w1 _ _).drew) (by simp)).mono ?_; rintro e w' ⟨rfl, rfl⟩))
  go_wp2_with fail
  go_ret
  exact ⟨rfl, (U0.out.alloc _).drew⟩
end Go.Proofs.YteddiknlcdbhjaaGreat

namespace Go.Proofs.YteddiknlcdbhjaaGreat
open Go.RowKit Go.Sort

theorem flatK_list {α : Type} [Inhabited α] (E : Enc α) (d : Array α) : (flatK E.c E.s d).toList = flat E d.toList := by
  apply List.ext_getElem?
  intro t
  by_cases ht : t < d.size * E.s
  · have hk : t / E.s < d.size := Nat.div_lt_of_lt_mul (by rw [Nat.mul_comm]; exact ht)
    have hr : t % E.s < E.s := Nat.mod_lt _ E.pos
    have hd : d.toList[t / E.s]? = some d[t / E.s]! := by
      rw [Array.getElem?_toList, Array.getElem?_eq_getElem hk, getElem!_pos d _ hk]
    have hg := flat_get (E := E) hd hr
    have he : t / E.s * E.s + t % E.s = t := by rw [Nat.mul_comm]; exact Nat.div_add_mod t E.s
    rw [he] at hg
    rw [hg, Array.getElem?_toList, Array.getElem?_eq_getElem (by rw [size_flatK]; exact ht)]
    have hf := get_flatK E.c E.s d t ht
    rw [getElem!_pos (flatK E.c E.s d) t (by rw [size_flatK]; exact ht)] at hf
    rw [hf]
    have hl : t % E.s < (E.c d[t / E.s]!).length := by rw [E.len]; exact hr
    rw [List.getElem?_eq_getElem hl, getElem!_pos (E.c d[t / E.s]!) (t % E.s) hl]
  · rw [List.getElem?_eq_none (by simp; omega), List.getElem?_eq_none (by rw [flat_len]; simp; omega)]

theorem holdsK_own {α : Type} [Inhabited α] {E : Enc α} {e : TypeId} {w : World} {B g n c : Nat} {L : List α} (h : Ow E e w B (.slice (some ⟨g, 0, none⟩) n c) L) : HoldsK E.c E.s w g 0 L.toArray := by
  have hn : n = L.length := by
    obtain ⟨A, c', he, _⟩ := own_slice h
    injection he
  subst hn
  intro j hj
  have hf := flatK_list E L.toArray
  have hg : (flat E L)[j]? = some (flatK E.c E.s L.toArray)[j]! := by
    rw [show L = L.toArray.toList by simp, ← hf, Array.getElem?_toList, Array.getElem?_eq_getElem hj, getElem!_pos (flatK E.c E.s L.toArray) j hj]
  exact ⟨by rw [Nat.zero_add]; exact own_cell h j _ hg, by rw [Nat.zero_add]; exact own_frozen h j⟩
theorem heap_mapBlock (w : World) (b : Nat) (f : Array Value → Array Value) (k : Nat) : (mapBlock w b f).heap[k]? = if k = b then (w.heap[k]?).map (fun o => match o with | .cells c e fr => .cells (f c) e fr | o => o) else w.heap[k]? := by
  unfold mapBlock
  by_cases h : k = b
  · subst h
    rw [if_pos rfl]
    simp only [Array.getElem?_modify, if_true]
    cases w.heap[k]? with
    | none => rfl
    | some o => cases o <;> rfl
  · rw [if_neg h]
    simp [Array.getElem?_modify]
    intro e
    exact absurd e.symm h
theorem putCells_list {F cur : Array Value} (h : F.size ≤ cur.size) : (putCells id 0 F cur).toList.take F.size = F.toList ∧ (putCells id 0 F cur).size = cur.size := by
  refine ⟨?_, by simp [putCells]⟩
  apply List.ext_getElem?
  intro k
  rw [List.getElem?_take]
  by_cases hk : k < F.size
  · rw [if_pos hk, Array.getElem?_toList, Array.getElem?_toList]
    unfold putCells
    rw [Array.getElem?_mapIdx, Array.getElem?_eq_getElem (by omega : k < cur.size), Option.map_some, if_pos ⟨Nat.zero_le _, by omega⟩, Array.getElem?_eq_getElem hk]
    simp [getElem!_pos F k hk]
  · rw [if_neg hk, Array.getElem?_toList, Array.getElem?_eq_none (by omega)]
/-- Sorted: the row has other things, in another order; nothing else has turned. -/
theorem own_sorted {α : Type} [Inhabited α] {E : Enc α} {e : TypeId} {w : World} {B g n c m : Nat} {L : List α} {d : Array α} {os : Array Obj} (h : Ow E e w B (.slice (some ⟨g, 0, none⟩) n c) L) (hd : d.size = L.length) :
    Ow E e (sortWorldK E.c E.s w g 0 m d os) B (.slice (some ⟨g, 0, none⟩) n c) d.toList ∧ Upd [g] w (sortWorldK E.c E.s w g 0 m d os) := by
  have hn : n = L.length := by
    obtain ⟨A, c', he, _⟩ := own_slice h
    injection he
  subst hn
  have h0 := h
  obtain ⟨cur, h2, h3, h4, h5, h6, h7⟩ := own_open h
  have hlt := h3.lt
  have hfs : (flatK E.c E.s d).size ≤ cur.size := by rw [size_flatK, hd, h6]; exact Nat.mul_le_mul_right _ h4
  obtain ⟨p1, p2⟩ := putCells_list hfs
  have hblk : (sortWorldK E.c E.s w g 0 m d os).heap[g]? = some (.cells (putCells id 0 (flatK E.c E.s d) cur) e (0, 0)) := by
    unfold sortWorldK putRowK putRow
    rw [heap_grow_old _ _ (by rw [show (mapBlock (Go.Sort.ahead w m) g (putCells id 0 (flatK E.c E.s d))).heap.size = w.heap.size by simp [mapBlock]]; exact hlt), heap_mapBlock, if_pos rfl]
    show Option.map _ (w.heap[g]?) = _
    rw [show w.heap[g]? = _ from h3]
    rfl
  refine ⟨⟨flat_len, .inr ⟨g, c, _, by rw [show d.toList.length = L.length by simpa using hd], h2, hblk, by simpa [hd] using h4, h5, by rw [p2, h6], ?_⟩⟩, ⟨rfl, rfl, rfl, ?_, fun k hk hkn => ?_⟩⟩
  · have hs : d.toList.length * E.s = (flatK E.c E.s d).size := by rw [size_flatK]; simp
    rw [hs, p1, flatK_list]
  · unfold sortWorldK putRowK
    simp
  · unfold sortWorldK putRowK putRow
    rw [heap_grow_old _ _ (by rw [show (mapBlock (Go.Sort.ahead w m) g (putCells id 0 (flatK E.c E.s d))).heap.size = w.heap.size by simp [mapBlock]]; exact hk), heap_mapBlock, if_neg (by simpa using hkn)]
    rfl
end Go.Proofs.YteddiknlcdbhjaaGreat

namespace Go.Proofs.YteddiknlcdbhjaaGreat
open Go Go.RowKit Go.Sort Go.Shelf TrP

theorem ltOf_E (a b : Ed) : ltOf cfE a b = ltE a b := by
  have h : (ltOf cfE a b = true) ↔ (ltE a b = true) := by
    rw [ltE_iff]
    rw [show ltOf cfE a b = decide (cfE a b < 0) from rfl, decide_eq_true_iff]
    unfold cfE
    simp only [orL, cmpI]
    (repeat' split) <;> omega
  cases h1 : ltOf cfE a b <;> cases h2 : ltE a b <;> simp_all


theorem swoE : SWO (ltOf cfE) where
  irrefl x := by rw [ltOf_E]; exact ltE_irr x
  trans x y z h1 h2 := by rw [ltOf_E] at *; exact ltE_trans h1 h2
  ntrans x y z h1 h2 := by
    rw [ltOf_E] at *
    cases h : ltE x z with
    | false => rfl
    | true =>
      rw [ltE_iff] at h
      have n1 : ¬ (ltE x y = true) := by rw [h1]; simp
      have n2 : ¬ (ltE y z = true) := by rw [h2]; simp
      rw [ltE_iff] at n1 n2
      omega
def sortEd (L : List Ed) : List Ed := L.mergeSort (fun x y => !ltE y x)
theorem sortEd_perm (L : List Ed) : (sortEd L).Perm L := List.mergeSort_perm L _
theorem ltE_asym (a b : Ed) (h : ltE a b = true) : ltE b a = false := by
  cases k : ltE b a with
  | false => rfl
  | true => have := ltE_trans h k; rw [ltE_irr] at this; cases this
theorem sortEd_rise {L : List Ed} (h : L.Nodup) : RiseE (sortEd L) := by
  have h1 : (sortEd L).Pairwise (fun a b => (!ltE b a) = true) := List.pairwise_mergeSort (fun a b c h1 h2 => by
    simp only [Bool.not_eq_true'] at h1 h2 ⊢
    have := swoE.ntrans c b a (by rw [ltOf_E]; exact h2) (by rw [ltOf_E]; exact h1)
    rwa [ltOf_E] at this) (fun a b => by
    cases hb : ltE b a with
    | false => rfl
    | true => rw [ltE_asym b a hb]; rfl) L
  have h2 : (sortEd L).Pairwise (· ≠ ·) := (sortEd_perm L).nodup_iff.2 h
  refine (h1.and h2).imp ?_
  rintro a b ⟨k1, k2⟩
  rcases ltE_tri a b k2 with e | e
  · exact e
  · rw [e] at k1; cases k1

theorem sortFuncE (B g n c : Nat) (L : List Ed) (w : World) (h : Ow encE 49 w B (.slice (some ⟨g, 0, none⟩) n c) L) (hn : L.length = n) (hl : n ≤ 1000) :
    Calls Tryz.prog 57 #[.slice (some ⟨g, 0, none⟩) n c, .func (.func 48) #[] #[]] w fun e w' => e = .returned (.tuple #[]) ∧ Ow encE 49 w' B (.slice (some ⟨g, 0, none⟩) n c) (sortEd L) ∧ Upd [g] w w' := by
  subst hn
  have hg : g < w.heap.size := by
    obtain ⟨cur, _, hb, _⟩ := own_open h
    exact hb.lt
  have hc := AnyQ.slices_SortFunc_total sortE_lay 3 (fun w => by kernel_rfl) (fun w => by kernel_rfl) encE.c encE.len encE.one cfE swoE 48 #[] g 0 c L.toArray w (enters_of Tryz.func48 (by kernel_rfl) rfl)
    (fun m os dk _ x y => (order_grown x y _).mono fun e w' ⟨he, hw⟩ => ⟨he, hw⟩) (holdsK_own h) hg (by simp; omega) (fun x y h1 h2 => by
      rw [ltOf_E] at h1 h2
      rcases Decidable.em (x = y) with e | e
      · exact e
      · rcases ltE_tri x y e with k | k
        · rw [k] at h1; cases h1
        · rw [k] at h2; cases h2)
  refine (show Calls Tryz.prog 57 #[.slice (some ⟨g, 0, none⟩) L.length c, .func (.func 48) #[] #[]] w _ from hc).mono ?_
  rintro e w' ⟨rfl, m, os, rfl⟩
  have hd : (L.toArray.toList.mergeSort fun x y => !(ltOf cfE) y x) = sortEd L := by
    unfold sortEd
    simp only [ltOf_E]
  have hk := own_sorted (m := m) (os := os) (d := (sortEd L).toArray) h (by simpa using (sortEd_perm L).length_eq)
  have hd2 : (L.toArray.toList.mergeSort fun x y => !(ltOf cfE) y x).toArray = (sortEd L).toArray := by rw [hd]
  rw [hd2]
  refine ⟨rfl, ?_, hk.2⟩
  have h1 := hk.1
  rwa [show (sortEd L).toArray.toList = sortEd L by simp] at h1
theorem sortFuncE_none (p : Option Addr) (c : Nat) (w : World) :
    Calls Tryz.prog 57 #[.slice p 0 c, .func (.func 48) #[] #[]] w fun e w' => e = .returned (.tuple #[]) ∧ w = w' :=
  (show Calls Tryz.prog 57 #[.slice p 0 c, .func (.func 48) #[] #[]] w _ from AnyF.slices_SortFunc_none sortE_lay p c _ w).mono fun _ _ ⟨h1, h2⟩ => ⟨h1, h2.symm⟩
end Go.Proofs.YteddiknlcdbhjaaGreat

namespace Go.Proofs.YteddiknlcdbhjaaGreat
open Go Go.RowKit Go.Shelf TrP

def CollPost (f : Ed → Option Value) (N : Nat) (w : World) (e : Ending) (w' : World) : Prop := ∃ v L, e = .returned v ∧ EachOnce f N L ∧ Ow encE 49 w' w.heap.size v L ∧ Upd [] w w'
theorem collectE (Bm m N : Nat) (f : Ed → Option Value) (hlen : N ≤ 1000) (w : World) (hBm : Bm < w.heap.size) (hc : w.cell? ⟨Bm, 0, none⟩ = some (.map (some m))) (hM : KMap w kE m f N) :
    Calls Tryz.prog 56 #[.func (.func 58) #[] #[.pointer (some ⟨Bm, 0, none⟩)]] w fun e w' => CollPost f N w e w' := by
  have hs := keysE_stops Fence.wide 5 trivial rfl (by omega) Bm m N f w hBm hc hM
  have ha := Lib.hid ((callsIn_wide (n := 6)).1 (appendSeqE_in Fence.wide 6 trivial trivial rfl (by omega) Bm N f hlen w hs))
  clear hs hM hc hBm
  go_enter Tryz.func56, Tryz.ntmps56
  go_wp2_with fail
  refine ha.out.mono ?_; rintro e w1 ⟨v, L, rfl, hE, o1, b1⟩
  have O1 : Hid (Ow encE 49 w1 w.heap.size v L) := Lib.hid o1
  have HE := Lib.hid hE
  have U1 := Lib.hid (Upd.of_below (S := []) b1 (Nat.le_refl _))
  clear o1 b1 hE
  go_wp2_with fail
  go_ret
  unfold CollPost
  exact ⟨_, L, rfl, HE.out, O1.out, U1.out⟩
def SrtPost (f : Ed → Option Value) (N : Nat) (w : World) (e : Ending) (w' : World) : Prop := ∃ v L, e = .returned v ∧ EachOnce f N L ∧ Ow encE 49 w' w.heap.size v (sortEd L) ∧ Upd [] w w'
set_option maxRecDepth 100000 in
theorem sortedE (Bm m N : Nat) (f : Ed → Option Value) (hlen : N ≤ 1000) (w : World) (hBm : Bm < w.heap.size) (hc : w.cell? ⟨Bm, 0, none⟩ = some (.map (some m))) (hM : KMap w kE m f N) :
    Calls Tryz.prog 46 #[.func (.func 58) #[] #[.pointer (some ⟨Bm, 0, none⟩)], .func (.func 48) #[] #[]] w fun e w' => SrtPost f N w e w' := by
  have hcol := Lib.hid (collectE Bm m N f hlen w hBm hc hM)
  clear hM hc hBm
  go_enter Tryz.func46, Tryz.ntmps46
  go_wp2_with fail
  refine hcol.out.mono ?_; rintro e w1 ⟨v, L, rfl, hE, o1, u1⟩
  have HLN : Hid (L.length = N) := Lib.hid hE.2.1
  have HE := Lib.hid hE
  have O1 := Lib.hid o1
  have U1 := Lib.hid u1
  obtain ⟨A, c, e0, _, _⟩ := own_slice o1
  rw [HLN.out] at e0
  subst e0
  clear hE u1
  rcases o1.2 with ⟨h1, hz⟩ | ⟨g, cap, cur, h1, hBg, _⟩
  · injection h1 with h1 h2 h3
    subst h1 h2 h3
    have hL : L = [] := List.eq_nil_of_length_eq_zero HLN.out
    have HL := Lib.hid hL
    clear o1 hz hL
    go_wp2_with fail
    refine (sortFuncE_none none 0 w1).mono ?_; rintro e w2 ⟨rfl, rfl⟩
    go_wp2_with fail
    go_ret
    unfold SrtPost
    exact ⟨_, L, rfl, HE.out, by rw [HL.out, show sortEd [] = [] by simp [sortEd]]; exact Ow.nil _ _ _ _, U1.out⟩
  · injection h1 with h1 h2 h3
    subst h1 h3
    have HB := Lib.hid hBg
    clear o1 hBg h2
    go_wp2_with fail
    refine (sortFuncE w.heap.size g N _ L w1 O1.out HLN.out hlen).mono ?_; rintro e w2 ⟨rfl, o2, u2⟩
    have O2 := Lib.hid o2
    have U2 : Hid (Upd [] w w2) := Lib.hid (U1.out.trans' u2 (by intro x hx; simp at hx; subst hx; exact .inr HB.out))
    clear o2 u2
    go_wp2_with fail
    go_ret
    unfold SrtPost
    exact ⟨_, L, rfl, HE.out, O2.out, U2.out⟩
end Go.Proofs.YteddiknlcdbhjaaGreat

namespace Go.Proofs.YteddiknlcdbhjaaGreat
open Go Go.RowKit Go.Shelf TrP

def AllPost (S : List Ed) (w : World) (e : Ending) (w' : World) : Prop := ∃ v G, e = .returned v ∧ RiseE G ∧ (∀ x, x ∈ G ↔ x ∈ S) ∧ Ow encE 49 w' w.heap.size v G ∧ Upd [] w w'
theorem edM_len {w : World} {m n : Nat} {f : Ed → Option Value} (h : KMap w kE m f n) : ∃ L, EachOnce f n L := by
  obtain ⟨L, c, hr, hf, hn⟩ := h
  exact ⟨L.map (·.1), hr.keys, by rw [List.length_map]; exact hn, fun x => by rw [hf, findK_isSome]⟩
theorem t_all (ρ : Rho) (B tb : Nat) (b : TB) (fv sv : Value) (T : TC) (w : World) (h : TrSt w ρ B tb b fv sv T) (hl : ∀ L : List Ed, L.Nodup → (∀ x, x ∈ L ↔ x ∈ T.S) → L.length ≤ 1000) :
    Calls Tryz.prog 32 #[.pointer (some ⟨tb, 0, none⟩)] w fun e w' => AllPost T.S w e w' := by
  obtain ⟨_, N, hM⟩ := h.ed
  have hsome : ∀ x, ((fun e => if e ∈ T.S then some (Value.int .i64 1) else none) x).isSome = true ↔ x ∈ T.S := fun x => by
    by_cases e : x ∈ T.S <;> simp [e]
  have hN : N ≤ 1000 := by
    obtain ⟨L, h1, h2, h3⟩ := edM_len hM
    rw [← h2]
    exact hl L h1 (fun x => (h3 x).trans (hsome x))
  have HS := Lib.hid hsome
  have c3 : w.cell? ⟨tb, 3, none⟩ = some (.map (some b.be)) := h.tr.cell 3
  have HM := Lib.hid hM
  clear h hM hsome hl
  go_enter Tryz.func32, Tryz.ntmps32
  go_wp2_with fail
  refine (keysE_ok (some b.be) w).mono ?_; rintro e w1 ⟨rfl, rfl⟩
  have U1 : Hid (Upd [] w (w.alloc (.cells #[.map (some b.be)] 62))) := Lib.hid ((Upd.refl [] w).alloc _)
  have Y1 : Hid (Blk (w.alloc (.cells #[.map (some b.be)] 62)) w.heap.size 62 #[.map (some b.be)]) := Lib.hid (Blk.new w _ _)
  clear c3
  go_wp2_with fail
  generalize (w.alloc (.cells #[.map (some b.be)] 62)) = w1 at *
  refine (sortedE w.heap.size b.be N _ hN w1 Y1.out.lt (Y1.out.cell 0) (HM.out.upd U1.out (by simp))).mono ?_
  rintro e w3 ⟨v, L, rfl, hE, o3, u3⟩
  have O3 := Lib.hid (show Ow encE 49 w3 w.heap.size v (sortEd L) from own_base o3 U1.out.size)
  have U3 := Lib.hid (U1.out.trans u3)
  have HE := Lib.hid hE
  clear o3 u3 hE
  go_wp2_with fail
  go_ret
  unfold AllPost
  exact ⟨_, sortEd L, rfl, sortEd_rise HE.out.1, fun x => (sortEd_perm L).mem_iff.trans ((HE.out.2.2 x).trans (HS.out x)), O3.out, U3.out⟩
end Go.Proofs.YteddiknlcdbhjaaGreat

namespace Go.Proofs.YteddiknlcdbhjaaGreat.Vk
open Go Go.RowKit

/-- What is asked of a region: the blocks that its chain of calls may turn, the world ahead of it, what holds behind so many links of the chain, what is said of the value of each operation that makes or calls something, which values it may have at all, which blocks that value owns, what an operation uses up, which operations are links; how many may float, and those behind all of them. -/
structure Inv where
  S : List Nat
  w0 : World
  K : (Nat → Value) → Nat → World → Prop
  kd : Nat → List Nat
  R : Nat → Value → World → Prop
  adm : Nat → Value → Prop
  fp : Nat → Value → List Nat
  con : Nat → List Nat
  ch : Nat → Bool
  nb : Nat
  tl : List Oper

section
variable (ops : Array Oper)
def maskOf (o : Oper) (M : List Nat) : Nat := o.after.toList.foldl (fun m e => if Region.binds .any e then m ||| ((1 <<< e.on) ||| M.getD e.on 0) else m) 0
def masksL : List Oper → List Nat → List Nat
  | [], M => M
  | o :: l, M => masksL l (M ++ [maskOf o M])
def ancB (j h : Nat) : Bool := ((masksL ops.toList []).getD j 0).testBit h
def availB (con : Nat → List Nat) (j h : Nat) : Bool := ancB ops j h && (List.range ops.size).all fun y => !(con y).contains h || y == j || ancB ops y j
def floatAt (j : Nat) : Bool := ((ops[j]?).map isFloat).getD false
def tailB (nb : Nat) : Bool := floatsOk ops (floats ops) (Array.replicate ops.size false) && (List.range ops.size).all fun j => decide (j < nb) || (!floatAt ops j && (List.range j).all fun x => floatAt ops x || ancB ops j x)
def endB (con : Nat → List Nat) (h : Nat) : Bool := (List.range ops.size).all fun y => !(con y).contains h
def invB (con : Nat → List Nat) (ch : Nat → Bool) : Bool :=
  Region.noSelect ops && (List.range ops.size).all (fun j => depsBack ops j && (List.range j).all (fun x => pairOk ops x j) && (!(lightAt ops j) || ((con j).isEmpty && !ch j)) &&
    (List.range j).all (fun x => !(ch x && ch j) || ancB ops j x) && (con j).all (fun h => decide (h < ops.size) && !lightAt ops h && ancB ops j h) && (List.range ops.size).all (fun y => y == j || (con j).all fun h => !(con y).contains h))
end

def look : List (Nat × Value) → Nat → Value
  | [], _ => undef
  | p :: G, h => if p.1 = h then p.2 else look G h
theorem look_snoc : ∀ {G : List (Nat × Value)} {j : Nat} {v : Value}, (∀ p ∈ G, p.1 ≠ j) → look (G ++ [(j, v)]) j = v
  | [], j, v, _ => by simp [look]
  | p :: G, j, v, h => by
    show (if p.1 = j then _ else _) = _
    rw [if_neg (h p (List.mem_cons_self ..))]
    exact look_snoc (fun q hq => h q (List.mem_cons_of_mem _ hq))
theorem look_left : ∀ {G : List (Nat × Value)} {j h : Nat} {v : Value}, h ≠ j → look (G ++ [(j, v)]) h = look G h
  | [], j, h, v, hne => by
    show (if j = h then v else undef) = undef
    rw [if_neg (fun e => hne e.symm)]
  | p :: G, j, h, v, hne => by
    show (if p.1 = h then _ else _) = (if p.1 = h then _ else _)
    split
    · rfl
    · exact look_left hne
/-- What K may look at. -/
def kdB (ops : Array Oper) (nb : Nat) (ch : Nat → Bool) (kd : Nat → List Nat) : Bool := (List.range nb).all fun j => !ch j || (kd j).all fun h => (h == j || ancB ops j h) && !lightAt ops h && decide (h ≤ j)
def factsV (I : Inv) (ok : Nat → Bool) : List (Nat × Value) → World → Prop
  | [], _ => True
  | p :: G, w => (ok p.1 = true → I.R p.1 p.2 w) ∧ factsV I ok G w
/-- What is left over is apart. -/
def apartV (I : Inv) (ok : Nat → Bool) (G : List (Nat × Value)) : Prop := ∀ p ∈ G, ∀ q ∈ G, p.1 ≠ q.1 → ok p.1 = true → ok q.1 = true → ∀ b ∈ I.fp p.1 p.2, b ∉ I.fp q.1 q.2
/-- The blocks that an operation uses up. -/
def usedV (I : Inv) (j : Nat) : List (Nat × Value) → List Nat
  | [] => []
  | p :: G => (if (I.con j).contains p.1 then I.fp p.1 p.2 else []) ++ usedV I j G
theorem usedV_none {I : Inv} {j : Nat} (h : I.con j = []) (G : List (Nat × Value)) : usedV I j G = [] := by
  induction G with
  | nil => rfl
  | cons p G ih => unfold usedV; rw [h, ih]; rfl
/-- What an operation that makes or calls something leaves behind. -/
def outV (I : Inv) (j s : Nat) (G : List (Nat × Value)) (w : World) (v : Value) (w' : World) : Prop :=
  I.R j v w' ∧ (∀ b ∈ I.fp j v, b ∈ usedV I j G ∨ (w.heap.size ≤ b ∧ b < w'.heap.size)) ∧ Upd (if I.ch j then I.S ++ usedV I j G else usedV I j G) w w' ∧ (I.ch j = true → I.K (look (G ++ [(j, v)])) (s + 1) w')
def obL (P : Program) (ops : Array Oper) (I : Inv) (o : Oper) (j : Nat) (A : Act) (G : List (Nat × Value)) (v : Value) : Prop :=
  ∀ w, Upd I.S I.w0 w → factsV I (availB ops I.con j) G w → if Region.wanted o (yielded ops A.tmps) then litStep ((execOp A.eval o).run P w) w (· = v) else v = undef
def obH (P : Program) (ops : Array Oper) (I : Inv) (Q : Exit → Act → World → Prop) (o : Oper) (j s : Nat) (A : Act) (G : List (Nat × Value)) : Prop :=
  ∀ w, Upd I.S I.w0 w → (I.ch j = true → I.K (look G) s w) → factsV I (availB ops I.con j) G w →
    if Region.wanted o (yielded ops A.tmps) then o.wp P A w (fun A' w' => ∃ v, A' = A.put o.dst v ∧ outV I j s G w v w') Q else outV I j s G w undef w
/-- What stands behind all others, one behind the other. -/
def wpT (P : Program) (ops : Array Oper) (Q : Exit → Act → World → Prop) : List Oper → Act → World → Prop
  | [], a, w => Q .normal a w
  | o :: l, a, w => if Region.wanted o (yielded ops a.tmps) then o.wp P a w (wpT P ops Q l) Q else wpT P ops Q l (a.put o.dst undef) w
def obE (P : Program) (ops : Array Oper) (I : Inv) (Q : Exit → Act → World → Prop) (s : Nat) (A : Act) (G : List (Nat × Value)) : Prop :=
  ∀ w, Upd I.S I.w0 w → I.K (look G) s w → factsV I (endB ops I.con) G w → apartV I (endB ops I.con) G → wpT P ops Q I.tl A w
/-- The operations, one behind the other in the text, each in every world in which it may come. -/
def wpV (P : Program) (ops : Array Oper) (I : Inv) (Q : Exit → Act → World → Prop) : List Oper → Nat → Nat → Act → List (Nat × Value) → Prop
  | [], _, s, A, G => obE P ops I Q s A G
  | o :: l, j, s, A, G =>
    if lightOp o.op then ∃ v, obL P ops I o j A G v ∧ wpV P ops I Q l (j + 1) s (A.put o.dst v) G
    else obH P ops I Q o j s A G ∧ ∀ v, I.adm j v → wpV P ops I Q l (j + 1) (if I.ch j then s + 1 else s) (A.put o.dst v) (G ++ [(j, v)])

section
theorem mask_spec (o : Oper) (M : List Nat) (h : Nat) : (maskOf o M).testBit h = o.after.any (fun e => Region.binds .any e && (e.on == h || (M.getD e.on 0).testBit h)) := by
  unfold maskOf
  rw [← Array.any_toList]
  have key : ∀ (l : List Edge) (m : Nat), (l.foldl (fun m e => if Region.binds .any e then m ||| ((1 <<< e.on) ||| M.getD e.on 0) else m) m).testBit h = (m.testBit h || l.any (fun e => Region.binds .any e && (e.on == h || (M.getD e.on 0).testBit h))) := by
    intro l
    induction l with
    | nil => intro m; simp
    | cons e l ih =>
      intro m
      rw [List.foldl_cons, ih, List.any_cons]
      cases hb : Region.binds .any e with
      | false => simp
      | true =>
        simp only [if_true, Bool.true_and, Nat.testBit_or, Nat.one_shiftLeft, Nat.testBit_two_pow]
        rw [Bool.or_assoc]
        congr 2
  rw [key]
  simp
theorem masks_pre : ∀ (l : List Oper) (M : List Nat) (i : Nat), i < M.length → (masksL l M).getD i 0 = M.getD i 0
  | [], _, _, _ => rfl
  | o :: l, M, i, h => by
    unfold masksL
    rw [masks_pre l _ i (by simp; omega)]
    simp [List.getD_eq_getElem?_getD, List.getElem?_append_left h]
theorem masks_at : ∀ (l : List Oper) (M : List Nat) (k : Nat) (o : Oper), l[k]? = some o → ∃ M', M'.length = M.length + k ∧ (masksL l M).getD (M.length + k) 0 = maskOf o M' ∧ ∀ i, i < M'.length → M'.getD i 0 = (masksL l M).getD i 0
  | [], _, _, _, h => by simp at h
  | o :: l, M, 0, o', h => by
    simp at h
    subst h
    refine ⟨M, rfl, ?_, fun i hi => (masks_pre _ M i hi).symm⟩
    unfold masksL
    rw [masks_pre l _ _ (by simp)]
    simp [List.getD_eq_getElem?_getD]
  | o :: l, M, k + 1, o', h => by
    obtain ⟨M', h1, h2, h3⟩ := masks_at l (M ++ [maskOf o M]) k o' (by simpa using h)
    unfold masksL
    refine ⟨M', by simp at h1; omega, ?_, h3⟩
    rw [← h2]
    congr 1
    simp; omega
variable {P : Program} {ops : Array Oper}
theorem anc_iff {j h : Nat} (hj : j < ops.size) (hb : depsBack ops j = true) : ancB ops j h = true ↔ ∃ x, depB ops j x = true ∧ (x = h ∨ ancB ops x h = true) := by
  obtain ⟨M', h1, h2, h3⟩ := masks_at ops.toList [] j ops[j] (by simp [hj])
  unfold ancB depB
  simp only [List.length_nil, Nat.zero_add] at h1 h2
  rw [h2, mask_spec, Array.getElem?_eq_getElem hj]
  unfold depsBack at hb
  rw [Array.getElem?_eq_getElem hj] at hb
  simp only [Array.all_eq_true, Array.any_eq_true, Bool.or_eq_true, Bool.and_eq_true, decide_eq_true_eq, Bool.not_eq_true', beq_iff_eq] at hb ⊢
  constructor
  · rintro ⟨i, hi, he, hh⟩
    refine ⟨_, ⟨i, hi, he, rfl⟩, hh.imp id fun h4 => ?_⟩
    rw [← h3 _ (by rw [h1]; exact (hb i hi).resolve_left (by rw [he]; simp))]
    exact h4
  · rintro ⟨x, ⟨i, hi, he, rfl⟩, hh⟩
    refine ⟨i, hi, he, hh.imp id fun h4 => ?_⟩
    rw [h3 _ (by rw [h1]; exact (hb i hi).resolve_left (by rw [he]; simp))]
    exact h4

structure InvOk (ops : Array Oper) (I : Inv) : Prop where
  sel : ∀ (j : Nat) (o : Oper) (cs : Array SelectCase) (b : Bool), ops[j]? = some o → o.op ≠ .select cs b
  back : ∀ j, j < ops.size → depsBack ops j = true
  pair : ∀ j, j < ops.size → ∀ x, x < j → pairOk ops x j = true
  light : ∀ j, j < ops.size → lightAt ops j = true → I.con j = [] ∧ I.ch j = false
  chain : ∀ j, j < ops.size → ∀ x, x < j → I.ch x = true → I.ch j = true → ancB ops j x = true
  con : ∀ j, j < ops.size → ∀ h ∈ I.con j, h < ops.size ∧ lightAt ops h = false ∧ ancB ops j h = true
  once : ∀ j, j < ops.size → ∀ y, y < ops.size → y ≠ j → ∀ h ∈ I.con j, h ∉ I.con y
theorem invOk_of {I : Inv} (h : invB ops I.con I.ch = true) : InvOk ops I := by
  unfold invB at h
  rw [Bool.and_eq_true, List.all_eq_true] at h
  obtain ⟨h0, h1⟩ := h
  have h2 : ∀ j, j < ops.size → _ := fun j hj => h1 j (List.mem_range.2 hj)
  simp only [Bool.and_eq_true, List.all_eq_true, List.mem_range, Bool.or_eq_true, Bool.not_eq_true', List.isEmpty_iff, decide_eq_true_eq, beq_iff_eq, Bool.and_eq_false_iff] at h2
  refine ⟨Region.noSelect_spec h0, fun j hj => (h2 j hj).1.1.1.1.1, fun j hj x hx => (h2 j hj).1.1.1.1.2 x hx, fun j hj hl => ?_, fun j hj x hx hx1 hj1 => ?_, fun j hj h hh => ?_, fun j hj y hy hne h hh hm => ?_⟩
  · rcases (h2 j hj).1.1.1.2 with h3 | h3
    · rw [hl] at h3; cases h3
    · exact h3
  · rcases (h2 j hj).1.1.2 x hx with h3 | h3
    · rw [hx1, hj1] at h3; rcases h3 with h3 | h3 <;> cases h3
    · exact h3
  · have := (h2 j hj).1.2 h hh
    exact ⟨this.1.1, this.1.2, this.2⟩
  · rcases (h2 j hj).2 y hy with h3 | h3
    · exact hne h3
    · have := h3 h hh
      simp at this
      exact this hm
theorem wp_transfer {o : Oper} {a b : Act} {w : World} {K' : Act → World → Prop} {Z : Value → World → Prop} {Q : Exit → Act → World → Prop} (he : execOp a.eval o = execOp b.eval o)
    (hK : ∀ v w', Z v w' → K' (b.put o.dst v) w') (hinj : ∀ v v' : Value, a.put o.dst v = a.put o.dst v' → b.put o.dst v = b.put o.dst v')
    (h : o.wp P a w (fun A' w' => ∃ v, A' = a.put o.dst v ∧ Z v w') (NoPanic Q)) : o.wp P b w K' (NoPanic Q) := by
  have key : ∀ v w', (∃ v', a.put o.dst v = a.put o.dst v' ∧ Z v' w') → K' (b.put o.dst v) w' := fun v w' ⟨v', e, hz⟩ => hinj v v' e ▸ hK v' w' hz
  unfold Oper.wp at h ⊢
  rw [← he]
  generalize (execOp a.eval o).run P w = r at h
  cases r with
  | ok n w' =>
    cases n with
    | value v => exact key v w' h
    | skip => exact key _ w' h
    | defer d =>
      obtain ⟨v', e, _⟩ := h
      exfalso
      have := congrArg Act.defers e
      cases hd : o.dst <;> rw [hd] at this <;> simp [Act.put] at this
    | enter f args =>
      refine Calls.mono h fun e w'' he => ?_
      cases e with
      | returned v => exact key v w'' he
      | panicked c => exact he
      | outgrown => exact he
    | row r args => exact Rows.mono h fun v w'' he => key v w'' he
    | _ => exact h
  | halt x w' => cases x <;> exact h
end
end Go.Proofs.YteddiknlcdbhjaaGreat.Vk

namespace Go.Proofs.YteddiknlcdbhjaaGreat.Vk
open Go Go.RowKit

section
variable {P : Program} {ops : Array Oper} {I : Inv} {Q : Exit → Act → World → Prop} {a : Act}

def Aat (ops : Array Oper) (a : Act) (V : Nat → Value) (j : Nat) : Act := putX ops V (fun x => decide (x < j)) (List.range ops.size) a
def Gat (ops : Array Oper) (V : Nat → Value) (j : Nat) : List (Nat × Value) := ((List.range j).filter (fun h => !lightAt ops h)).map (fun h => (h, V h))
def sat (I : Inv) (j : Nat) : Nat := ((List.range j).filter I.ch).length
def Ob (P : Program) (ops : Array Oper) (I : Inv) (Q : Exit → Act → World → Prop) (a : Act) (V : Nat → Value) (j : Nat) : Prop :=
  ∀ o, ops[j]? = some o → if lightOp o.op then obL P ops I o j (Aat ops a V j) (Gat ops V j) (V j) else obH P ops I Q o j (sat I j) (Aat ops a V j) (Gat ops V j)
def Flat (P : Program) (ops : Array Oper) (I : Inv) (Q : Exit → Act → World → Prop) (a : Act) (V : Nat → Value) : Prop :=
  (∀ j, j < I.nb → Ob P ops I Q a V j) ∧ obE P ops I Q (sat I I.nb) (Aat ops a V I.nb) (Gat ops V I.nb)

theorem putX_congr' {V V' : Nat → Value} {X Y : Nat → Bool} : ∀ (l : List Nat) (a : Act), (∀ x ∈ l, X x = Y x) → (∀ x ∈ l, X x = true → V x = V' x) → putX ops V X l a = putX ops V' Y l a
  | [], _, _, _ => rfl
  | i :: l, a, hx, hv => by
    unfold putX
    rw [hx i (List.mem_cons_self ..)]
    cases hY : Y i with
    | true =>
      simp only [if_true]
      rw [hv i (List.mem_cons_self ..) (by rw [hx i (List.mem_cons_self ..), hY])]
      exact putX_congr' l _ (fun x hm => hx x (List.mem_cons_of_mem _ hm)) (fun x hm => hv x (List.mem_cons_of_mem _ hm))
    | false =>
      simp only [Bool.false_eq_true, if_false]
      exact putX_congr' l _ (fun x hm => hx x (List.mem_cons_of_mem _ hm)) (fun x hm => hv x (List.mem_cons_of_mem _ hm))
theorem InvOk.distinct (ok : InvOk ops I) {j x : Nat} (hj : j < ops.size) (hx : x < ops.size) (hne : x ≠ j) (t : Tmp) (h : dstOf ops j = some t) : dstOf ops x ≠ some t := by
  intro h'
  rcases Nat.lt_or_gt_of_ne hne with h1 | h1
  · have hp := ok.pair j hj x h1
    unfold pairOk at hp
    rw [h, h'] at hp
    simp at hp
  · have hp := ok.pair x hx j h1
    unfold pairOk at hp
    rw [h, h'] at hp
    simp at hp
theorem Aat_congr {V V' : Nat → Value} {j : Nat} (h : ∀ x, x < j → V x = V' x) : Aat ops a V j = Aat ops a V' j :=
  putX_congr' _ _ (fun _ _ => rfl) (fun x _ hx => h x (by simpa using hx))
theorem Gat_congr {V V' : Nat → Value} {j : Nat} (h : ∀ x, x < j → V x = V' x) : Gat ops V j = Gat ops V' j := by
  unfold Gat
  apply List.map_congr_left
  intro x hx
  rw [h x (List.mem_range.1 (List.mem_filter.1 hx).1)]
theorem Aat_succ (ok : InvOk ops I) {j : Nat} (hj : j < ops.size) (V : Nat → Value) : Aat ops a V (j + 1) = (Aat ops a V j).put (dstOf ops j) (V j) := by
  unfold Aat
  rw [← putX_add (by simp) _ _ (List.mem_range.2 hj) List.nodup_range (fun x hx hne t ht => ok.distinct hj (List.mem_range.1 hx) hne t ht)]
  refine putX_congr _ _ (fun x _ => ?_) (fun _ _ => rfl)
  rw [Bool.eq_iff_iff]
  simp
  omega
theorem Gat_succ (V : Nat → Value) (j : Nat) : Gat ops V (j + 1) = if lightAt ops j then Gat ops V j else Gat ops V j ++ [(j, V j)] := by
  unfold Gat
  rw [List.range_succ, List.filter_append, List.map_append]
  cases h : lightAt ops j <;> simp [h]
theorem sat_succ (j : Nat) : sat I (j + 1) = if I.ch j then sat I j + 1 else sat I j := by
  unfold sat
  rw [List.range_succ, List.filter_append]
  cases h : I.ch j <;> simp [h]
theorem lightAt_some {j : Nat} {o : Oper} (h : ops[j]? = some o) : lightAt ops j = lightOp o.op := by unfold lightAt; rw [h]

theorem flat_of (ok : InvOk ops I) (hnb : I.nb ≤ ops.size) : ∀ (l : List Oper) (j : Nat) (V0 : Nat → Value), (∀ k o, l[k]? = some o → ops[j + k]? = some o) → j + l.length = I.nb →
    wpV P ops I Q l j (sat I j) (Aat ops a V0 j) (Gat ops V0 j) → ∀ e : Nat → Value, (∀ h, I.adm h (e h)) → ∃ V, (∀ x, x < j → V x = V0 x) ∧ (∀ h, j ≤ h → h < I.nb → lightAt ops h = false → V h = e h) ∧
      (∀ i, j ≤ i → i < I.nb → Ob P ops I Q a V i) ∧ obE P ops I Q (sat I I.nb) (Aat ops a V I.nb) (Gat ops V I.nb)
  | [], j, V0, _, hn, h, e, _ => by
    simp at hn
    subst hn
    exact ⟨V0, fun _ _ => rfl, fun h h1 h2 => by omega, fun i h1 h2 => by omega, h⟩
  | o :: l, j, V0, hl, hn, h, e, hadm => by
    have ho : ops[j]? = some o := by simpa using hl 0 o rfl
    have hj : j < ops.size := (Array.getElem?_eq_some_iff.1 ho).1
    have hla := lightAt_some ho
    have hd : dstOf ops j = o.dst := by simp [dstOf, ho]
    have hl' : ∀ k o', l[k]? = some o' → ops[j + 1 + k]? = some o' := fun k o' hk => by
      have := hl (k + 1) o' (by simpa using hk)
      rwa [show j + (k + 1) = j + 1 + k by omega] at this
    have hn' : j + 1 + l.length = I.nb := by simp at hn; omega
    unfold wpV at h
    -- the rest, from the value of this one
    have key : ∀ v, (lightAt ops j = false → v = e j) → wpV P ops I Q l (j + 1) (sat I (j + 1)) ((Aat ops a V0 j).put o.dst v) (Gat ops (fun x => if x = j then v else V0 x) (j + 1)) → Ob P ops I Q a (fun x => if x = j then v else V0 x) j →
        ∃ V, (∀ x, x < j → V x = V0 x) ∧ (∀ h, j ≤ h → h < I.nb → lightAt ops h = false → V h = e h) ∧ (∀ i, j ≤ i → i < I.nb → Ob P ops I Q a V i) ∧ obE P ops I Q (sat I I.nb) (Aat ops a V I.nb) (Gat ops V I.nb) := by
      intro v hv hw hob
      have hA : (Aat ops a V0 j).put o.dst v = Aat ops a (fun x => if x = j then v else V0 x) (j + 1) := by
        rw [Aat_succ ok hj, hd]
        simp only [if_true]
        rw [Aat_congr (V' := V0) (fun x hx => if_neg (by omega))]
      rw [hA] at hw
      obtain ⟨V, h1, h2, h3, h4⟩ := flat_of ok hnb l (j + 1) _ hl' hn' hw e hadm
      refine ⟨V, fun x hx => by rw [h1 x (by omega), if_neg (by omega)], fun x hx hxn hxl => ?_, fun i hi hin => ?_, h4⟩
      · rcases Nat.lt_or_eq_of_le hx with h5 | h5
        · exact h2 x h5 hxn hxl
        · subst h5
          rw [h1 j (by omega), if_pos rfl]
          exact hv hxl
      · rcases Nat.lt_or_eq_of_le hi with h5 | h5
        · exact h3 i h5 hin
        · subst h5
          intro o' ho'
          have := hob o' ho'
          have h6 : (fun x => if x = j then v else V0 x) j = V j := (h1 j (by omega)).symm
          rw [Aat_congr (V' := V) (fun x hx => (h1 x (by omega)).symm), Gat_congr (V' := V) (fun x hx => (h1 x (by omega)).symm), h6] at this
          exact this
    have e1 : ∀ v, Aat ops a (fun x => if x = j then v else V0 x) j = Aat ops a V0 j := fun v => Aat_congr fun x hx => if_neg (by omega)
    have e2 : ∀ v, Gat ops (fun x => if x = j then v else V0 x) j = Gat ops V0 j := fun v => Gat_congr fun x hx => if_neg (by omega)
    cases hlo : lightOp o.op with
    | true =>
      rw [hlo] at h hla
      simp only [if_true] at h
      obtain ⟨v, hob, hr⟩ := h
      refine key v (fun hc => by rw [hla] at hc; cases hc) ?_ ?_
      · rw [Gat_succ, hla, sat_succ, (ok.light j hj hla).2, e2]
        exact hr
      · intro o' ho'
        rw [ho] at ho'
        cases ho'
        rw [hlo, e1, e2]
        simpa using hob
    | false =>
      rw [hlo] at h hla
      simp only [Bool.false_eq_true, if_false] at h
      obtain ⟨hob, hr⟩ := h
      refine key (e j) (fun _ => rfl) ?_ ?_
      · rw [Gat_succ, hla, sat_succ, e2]
        simpa using hr (e j) (hadm j)
      · intro o' ho'
        rw [ho] at ho'
        cases ho'
        rw [hlo, e1, e2]
        simpa using hob

def Live (ops : Array Oper) (I : Inv) (L : Array Bool) (h : Nat) : Prop := h < I.nb ∧ lightAt ops h = false ∧ L.getD h false = true ∧ ∀ y, y < I.nb → L.getD y false = true → h ∉ I.con y
structure StI (P : Program) (ops : Array Oper) (I : Inv) (Q : Exit → Act → World → Prop) (a : Act) (L : Array Bool) (u : Nat → Value) (w : World) : Prop where
  sz : L.size = ops.size
  cl : ∀ y x, y < ops.size → L.getD y false = true → depB ops y x = true → L.getD x false = true
  i1 : Upd I.S I.w0 w
  i2 : I.K u ((List.range I.nb).filter (fun x => I.ch x && L.getD x false)).length w
  i3 : ∀ h, Live ops I L h → I.R h (u h) w
  i4 : ∀ h, Live ops I L h → ∀ b ∈ I.fp h (u h), I.w0.heap.size ≤ b ∧ b < w.heap.size
  i5 : ∀ h h', Live ops I L h → Live ops I L h' → h ≠ h' → ∀ b ∈ I.fp h (u h), b ∉ I.fp h' (u h')
  i7 : ∀ h, lightAt ops h = false → I.adm h (u h)
  tl : ∀ j, I.nb ≤ j → L.getD j false = false
  fl : ∀ j, floatAt ops j = true → L.getD j false = true
  i6 : ∀ j, j < I.nb → lightAt ops j = true → L.getD j false = true → ∀ V, Flat P ops I Q a V → (∀ h, h < I.nb → lightAt ops h = false → ancB ops j h = true → V h = u h) → V j = u j

theorem facts_of {ok : Nat → Bool} {w : World} : ∀ (G : List (Nat × Value)), (∀ p ∈ G, ok p.1 = true → I.R p.1 p.2 w) → factsV I ok G w
  | [], _ => trivial
  | p :: G, h => ⟨h p (List.mem_cons_self ..), facts_of G fun q hq => h q (List.mem_cons_of_mem _ hq)⟩
theorem look_mem : ∀ {G : List (Nat × Value)} {V : Nat → Value} {h : Nat}, (∀ p ∈ G, p.2 = V p.1) → (∃ p ∈ G, p.1 = h) → look G h = V h
  | [], _, _, _, ⟨_, h, _⟩ => by simp at h
  | p :: G, V, h, hV, hm => by
    unfold look
    split
    · rename_i e; rw [hV p (List.mem_cons_self ..), e]
    · rename_i e
      obtain ⟨q, hq, he⟩ := hm
      rcases List.mem_cons.1 hq with rfl | hq
      · exact absurd he e
      · exact look_mem (fun p hp => hV p (List.mem_cons_of_mem _ hp)) ⟨q, hq, he⟩
theorem look_Gat {V : Nat → Value} {j h : Nat} (hj : h < j) (hl : lightAt ops h = false) : look (Gat ops V j) h = V h := by
  refine look_mem (fun p hp => ?_) ⟨(h, V h), ?_, rfl⟩
  · unfold Gat at hp
    obtain ⟨x, _, rfl⟩ := List.mem_map.1 hp
    rfl
  · unfold Gat
    exact List.mem_map.2 ⟨h, List.mem_filter.2 ⟨List.mem_range.2 hj, by simpa using hl⟩, rfl⟩
theorem sat_mono {i j : Nat} (h : i ≤ j) : sat I i ≤ sat I j := by
  unfold sat
  have e : List.range j = List.range i ++ (List.range (j - i)).map (i + ·) := by
    rw [← List.range_add]; congr 1; omega
  rw [e, List.filter_append, List.length_append]
  omega
/-- What K looks at is made by then. -/
structure KdOk (ops : Array Oper) (I : Inv) : Prop where
  anc : ∀ j, j < I.nb → I.ch j = true → ∀ h ∈ I.kd j, h = j ∨ ancB ops j h = true
  heavy : ∀ j, j < I.nb → I.ch j = true → ∀ h ∈ I.kd j, lightAt ops h = false
  le : ∀ j, j < I.nb → I.ch j = true → ∀ h ∈ I.kd j, h ≤ j
theorem kdOk_of (h : kdB ops I.nb I.ch I.kd = true) : KdOk ops I := by
  have key : ∀ j, j < I.nb → I.ch j = true → ∀ h ∈ I.kd j, (h = j ∨ ancB ops j h = true) ∧ lightAt ops h = false ∧ h ≤ j := by
    intro j hj hc x hx
    unfold kdB at h
    have h1 := List.all_eq_true.1 h j (List.mem_range.2 hj)
    rw [hc] at h1
    simp only [Bool.not_true, Bool.false_or] at h1
    have h2 := List.all_eq_true.1 h1 x hx
    simpa [and_assoc] using h2
  exact ⟨fun j a b h c => (key j a b h c).1, fun j a b h c => (key j a b h c).2.1, fun j a b h c => (key j a b h c).2.2⟩
theorem mem_Gat {V : Nat → Value} {j : Nat} {p : Nat × Value} (h : p ∈ Gat ops V j) : p.1 < j ∧ lightAt ops p.1 = false ∧ p.2 = V p.1 := by
  unfold Gat at h
  obtain ⟨x, hx, rfl⟩ := List.mem_map.1 h
  have := List.mem_filter.1 hx
  exact ⟨List.mem_range.1 this.1, by simpa using this.2, rfl⟩
theorem mem_used {j b : Nat} : ∀ {G : List (Nat × Value)}, b ∈ usedV I j G → ∃ p ∈ G, p.1 ∈ I.con j ∧ b ∈ I.fp p.1 p.2
  | [], h => by simp [usedV] at h
  | p :: G, h => by
    unfold usedV at h
    rcases List.mem_append.1 h with h1 | h1
    · split at h1
      · rename_i hc
        exact ⟨p, List.mem_cons_self .., by simpa using hc, h1⟩
      · simp at h1
    · obtain ⟨q, h2, h3⟩ := mem_used h1
      exact ⟨q, List.mem_cons_of_mem _ h2, h3⟩
end
end Go.Proofs.YteddiknlcdbhjaaGreat.Vk

/-
  slices.Values, AppendSeq, Collect of timers.
-/
import Derived.Test.YtainiojlhdbhgaaDoorQueue3
import Derived.RangeFuncNested
import Derived.RangeFuncBound
import Derived.RangeFuncCalls
import Derived.RangeFuncLeaves
import Derived.RangeFuncBox
import Derived.Shelf.Abstract
import Derived.Shelf.RegionOpen
import Derived.OwnWalkIn
import Derived.TacticsInMore
import Derived.LoopNIn
import Derived.LoopIn
import Derived.Maps.AppendAt
set_option linter.unusedVariables false
namespace Go.Proofs.YtainiojlhdbhgaaDoor
open Go.RowKit Go.Shelf HeapPlain
attribute [local go_sem] Oper.semAt_some

set_option maxRecDepth 100000 in
set_option maxHeartbeats 2000000 in
theorem valT_in (F : Fence) (n : Nat) (h7 : F.fn 45) (hro : F.round = none) (hn : 1 ≤ n) (l Bs n₀ g c : Nat) (L : List Tm) (hlen : L.length ≤ 1000) (hb : g < n₀) (J Jx : List Tm → World → Prop)
    (hJ : ∀ pre W o, J pre W → J pre (W.alloc o))
    (hY : ∀ pre x W, J pre W → pre.length < L.length → YieldAt F (n - 1) Tryd.prog l #[vT x] W fun e W' =>
      (e = .returned (.bool true) ∧ J (pre ++ [x]) W' ∧ Below n₀ W W') ∨ (e = .returned (.bool false) ∧ Jx (pre ++ [x]) W'))
    (W : World) (hBs : W.cell? ⟨Bs, 0, none⟩ = some (.slice (some ⟨g, 0, none⟩) L.length c)) (hn0 : n₀ ≤ W.heap.size)
    (hc : ∀ j u, (flatT L)[j]? = some u → W.cell? ⟨g, j, none⟩ = some u) (h0 : J [] W) :
    CallsIn F n Tryd.prog 45 #[.func (.yield l) #[] #[], .pointer (some ⟨Bs, 0, none⟩)] W fun e W' => (∃ v, e = .returned v) ∧
      ((∃ ys, ys = L ∧ J ys W') ∨ (∃ pre, pre <+: L ∧ Jx pre W')) := by
  obtain ⟨len, hl⟩ : ∃ len, L.length = len := ⟨_, rfl⟩
  rw [hl] at hlen hBs
  have HL := Lib.hid hl
  have HC := Lib.hid hc
  have HJ := Lib.hid hJ
  have HY := Lib.hid hY
  clear hl hc hJ hY
  refine callsIn_of_wp Tryd.func45 rfl h7 ?_ hro
  simp only [Tryd.ntmps45, List.size_toArray, List.length_cons, List.length_nil, Nat.reduceAdd, Nat.reduceSub, Array.replicate_succ, Array.replicate_zero, List.push_toArray, List.append_toArray, List.nil_append, List.cons_append]
  gi_wp2
  gi_loopw [7] (fun i wr => ∃ k : Nat, k ≤ len ∧ i = .int .i64 k ∧ Hid (J (L.take k) wr) ∧ Hid (Below n₀ W wr))
    (fun i _ => len - (intOf i).toNat)
  case atStart => exact ⟨0, Nat.zero_le _, rfl, Lib.hid h0, Lib.hid (Below.refl _ _)⟩
  case round =>
    obtain ⟨k, hk, rfl, hJs, hnx⟩ := hrel
    by_cases hlt : k < len
    · obtain ⟨x, hx⟩ : ∃ x, L[k]? = some x := ⟨_, List.getElem?_eq_getElem (by rw [HL.out]; exact hlt)⟩
      have e0 : wr.cell? ⟨g, k * 2, none⟩ = some (.int .i64 x.wn) := (hnx.out.cell (p := ⟨g, k * 2, none⟩) hb).trans (HC.out _ _ (flatT_get L k x hx).1)
      have e1 : wr.cell? ⟨g, k * 2 + 1, none⟩ = some (.int .i64 x.id) := (hnx.out.cell (p := ⟨g, k * 2 + 1, none⟩) hb).trans (HC.out _ _ (flatT_get L k x hx).2)
      have HT : Hid (L.take (k + 1) = L.take k ++ [x]) := Lib.hid (by rw [List.take_add_one, hx]; rfl)
      obtain ⟨fn, tmps, assign, body, hy, hR⟩ := HY.out (L.take k) x (wr.alloc (.cells #[.int .i64 x.wn, .int .i64 x.id] 29)) (HJ.out _ _ _ hJs.out) (by rw [List.length_take, HL.out]; omega)
      unfold vT at hy
      have q1 : (0 : Int) ≤ (k : Int) := by omega
      have q2 : (k : Int) < (len : Int) := by omega
      have HXX := Lib.hid hx
      clear hx
      gi_wp2
      refine hR.mono ?_
      rintro e W3 (⟨rfl, hJ3, hk3⟩ | ⟨rfl, hJx3⟩)
      · have HJ3 : Hid (J (L.take (k + 1)) W3) := Lib.hid (by rw [HT.out]; exact hJ3)
        have HK3 : Hid (Below n₀ W W3) := Lib.hid ((hnx.out.alloc (Nat.le_trans hn0 hnx.out.size) _).trans hk3)
        clear hJ3 hk3 e0 e1 hy
        gi_wp2
        go_roundw
        case rel => exact ⟨k + 1, by omega, by simp, HJ3, HK3⟩
        case measure => simp [intOf]; omega
      · clear hy
        gi_wp2
        refine bodyPost_ret (results_none rfl _ _ _) rfl ?_
        exact ⟨⟨_, rfl⟩, .inr ⟨_, List.take_prefix (k + 1) L, by rw [HT.out]; exact hJx3⟩⟩
    · obtain rfl : k = len := by omega
      gi_wp2
      go_end0
      exact ⟨⟨_, rfl⟩, .inl ⟨_, rfl, by have := hJs.out; rwa [List.take_of_length_le (by rw [HL.out]; exact Nat.le_refl _)] at this⟩⟩

set_option maxRecDepth 100000 in
set_option maxHeartbeats 1000000 in
theorem valT_nil_in (F : Fence) (n : Nat) (h7 : F.fn 45) (hro : F.round = none) (l Bs : Nat) (J : List Tm → World → Prop) (W : World) (hBs : W.cell? ⟨Bs, 0, none⟩ = some (.slice none 0 0)) (h0 : J [] W) :
    CallsIn F n Tryd.prog 45 #[.func (.yield l) #[] #[], .pointer (some ⟨Bs, 0, none⟩)] W fun e W' => (∃ v, e = .returned v) ∧ J [] W' := by
  refine callsIn_of_wp Tryd.func45 rfl h7 ?_ hro
  simp only [Tryd.ntmps45, List.size_toArray, List.length_cons, List.length_nil, Nat.reduceAdd, Nat.reduceSub, Array.replicate_succ, Array.replicate_zero, List.push_toArray, List.append_toArray, List.nil_append, List.cons_append]
  gi_wp2
  gi_loopw [7] (fun i wr => i = .int .i64 0 ∧ J [] wr) (fun _ _ => 0)
  case atStart => exact ⟨rfl, h0⟩
  case round =>
    obtain ⟨rfl, hJs⟩ := hrel
    gi_wp2
    go_end0
    exact ⟨⟨_, rfl⟩, hJs⟩

theorem valT_stops (F : Fence) (n : Nat) (h7 : F.fn 45) (hro : F.round = none) (hn : 1 ≤ n) (Bs n₀ B : Nat) (sv : Value) (L : List Tm) (hlen : L.length ≤ 1000) (w : World) (hBs : Bs < w.heap.size) (hn₀ : n₀ ≤ w.heap.size)
    (hc : w.cell? ⟨Bs, 0, none⟩ = some sv) (hI : w.ownsRow B 29 2 sv L.length (flatT L)) (hlt : ∀ b, sv.ownBlock = some b → b < n₀) :
    SeqStopsK F n Tryd.prog 45 #[.pointer (some ⟨Bs, 0, none⟩)] (fun x : Tm => #[vT x]) (Below n₀) (fun ys => ys = L) (fun pre => pre <+: L) L.length w := fun l J Jx W hW hJ _ hY h0 => by
  have hc' := (hW.cell (p := ⟨Bs, 0, none⟩) hBs).trans hc
  have hI' := own_upd0 hI (Upd.of_below hW (Nat.le_refl _))
  rcases hI'.2 with ⟨rfl, hz⟩ | ⟨g, cap, cur, rfl, hb, hg, _⟩
  · have hL : L = [] := List.eq_nil_of_length_eq_zero hz
    subst hL
    exact (valT_nil_in F n h7 hro l Bs J W hc' h0).mono fun e W' ⟨he, hj⟩ => ⟨he, .inl ⟨_, rfl, hj⟩⟩
  · exact valT_in F n h7 hro hn l Bs n₀ g cap L hlen (hlt g rfl) J Jx (fun pre W1 o h1 => hJ pre W1 _ none h1 (World.grownBy_alloc W1 o none) (fun r e => by cases e)) hY W hc' (Nat.le_trans hn₀ hW.size) (fun j u hj => own_cell hI' j u hj) h0

theorem elemT_info : ∃ i0 z, Tryd.prog.info? 29 = some i0 ∧ i0.zero = some z ∧ i0.size = 2 ∧ i0.bytes = 16 ∧ z.cells.size = 2 := by
  obtain ⟨i, z, h1, h2, h3, h4, h5⟩ := tim_elem.info
  exact ⟨i, z, h1, h2, h3, h4, h5⟩

set_option maxRecDepth 100000 in
set_option maxHeartbeats 4000000 in
theorem appendSeqT_in (F : Fence) (n : Nat) (h54 : F.fn 54) (h45 : F.fn 45) (hro : F.round = none) (hn : 3 ≤ n) (Bs : Nat) (L : List Tm) (hlen : L.length ≤ 1000) (w : World)
    (hseq : SeqStopsK F (n - 1) Tryd.prog 45 #[.pointer (some ⟨Bs, 0, none⟩)] (fun x : Tm => #[vT x]) (Below w.heap.size) (fun ys => ys = L) (fun pre => pre <+: L) L.length w) :
    CallsIn F n Tryd.prog 54 #[.slice none 0 0, .func (.func 45) #[] #[.pointer (some ⟨Bs, 0, none⟩)]] w fun e w' => ∃ v, e = .returned v ∧ w'.ownsRow w.heap.size 29 2 v L.length (flatT L) ∧ Below w.heap.size w w' := by
  have h1 : 1 ≤ n := by omega
  obtain ⟨i0, z0, hi, hz0, hz1, hz2, hz3⟩ := elemT_info
  refine callsIn_of_wp_marks Tryd.func54 rfl h54 ?_ hro
  simp only [Tryd.ntmps54, List.size_toArray, List.length_cons, List.length_nil, Nat.reduceAdd, Nat.reduceSub, Array.replicate_succ, Array.replicate_zero, List.push_toArray, List.append_toArray, List.nil_append, List.cons_append]
  gi_wp2
  obtain ⟨W0, hW0⟩ : ∃ W0, w.alloc (.cells #[.slice none 0 0] 36) = W0 := ⟨_, rfl⟩
  have hs0 : W0.heap.size = w.heap.size + 1 := by rw [← hW0]; simp
  have hv0 : Boxed W0 w.heap.size 36 (.slice none 0 0) := by rw [← hW0]; exact Boxed.new w _ _
  have hb0 : Below w.heap.size w W0 := by rw [← hW0]; exact (Below.refl _ w).alloc (Nat.le_refl _) _
  rw [hW0]
  refine wpIn_rangeFunc_ownH (w := W0) hro h1 (gf := 45) (lb := #[.pointer (some ⟨Bs, 0, none⟩)]) rfl h45 (enters_of Tryd.func45 (by kernel_rfl) rfl)
    hseq belowK_t (belowK_b (by omega)) hb0 (fun _ => rfl)
    (fun pre W => (∃ v, Boxed W w.heap.size 36 v ∧ W.ownsRow w.heap.size 29 2 v pre.length (flatT pre) ∧ True) ∧ Below w.heap.size w W)
    (fun _ _ _ => False)
    (OwnFrom.and (Own.from (holdsRow_own w.heap.size w.heap.size _ _ 2 (fun pre : List Tm => pre.length) (fun pre => flatT pre) (fun _ _ => True)) _) (ownFrom_below (Nat.le_refl _) (by omega)))
    (fun _ _ _ _ _ hs _ _ => hs)
    ⟨⟨_, hv0, own_nil _ _ _ _, trivial⟩, hb0⟩
    (fun x a' W => ∃ Bx, w.heap.size < Bx ∧ Blk W Bx 29 #[.int .i64 x.wn, .int .i64 x.id] ∧ a' = { tmps := #[.slice none 0 0, .func (.func 45) #[] #[.pointer (some ⟨Bs, 0, none⟩)], .pointer (some ⟨w.heap.size, 0, none⟩), undef, .slice none 0 0, .pointer (some ⟨Bx, 0, none⟩), .func (.func 45) #[] #[.pointer (some ⟨Bs, 0, none⟩)], vT x, undef, undef, undef, undef, undef], defers := [] })
    (fun x a' => by
      rintro s X Y row ⟨Bx, h1, h2, h3⟩ hg hrow
      refine ⟨Bx, h1, (hg.block Bx (Blk.lt h2) (fun e => ?_)).trans h2, h3⟩
      obtain ⟨_, o, ho, hc⟩ := hrow Bx e.symm
      rw [show X.heap[Bx]? = _ from h2] at ho
      cases ho
      cases hc)
    ?assign ?body ?done ?stop
  case assign =>
    rintro l pre x W K ⟨⟨v, hv, hrow, _⟩, hB⟩ hK
    unfold vT at hK ⊢
    have hvl := hv.lt
    gi_wp2
    exact hK _ _ ((KeepsOthers.alloc _ _).from _) ((Below.refl _ W).alloc hB.size _) ⟨⟨v, hv.alloc _, hrow.alloc _, trivial⟩, hB.alloc hB.size _⟩ ⟨W.heap.size, hvl, Blk.new W _ _, rfl⟩
  case body =>
    rintro l pre x a' W hl _ ⟨⟨v, hv, hrow, _⟩, hB⟩ ⟨Bx, hBx, bX, rfl⟩ hlt
    have hc0 := hv.cell
    have e0 : W.cell? ⟨Bx, 0, none⟩ = some (.int .i64 x.wn) := bX.cell 0
    have e1 : W.cell? ⟨Bx, 1, none⟩ = some (.int .i64 x.id) := bX.cell 1
    have hne : (36 : TypeId) ≠ 29 := by decide
    gi_wp2_with (gi_at_builtin; refine wpListIn_append_own _ rfl _ _ 36 rfl w.heap.size 29 i0 z0 2 16 Tryd.underlying36 hi hz0 hz1 hz2 hz3 (by decide) _ _ _ rfl (hrow.alloc _) ⟨W.heap.size, 0, none⟩ 1 1 [.int .i64 x.wn, .int .i64 x.id] rfl rfl (news_of_blk (cs := #[.int .i64 x.wn, .int .i64 x.id]) (Blk.new W _ _)) (by intro u hu; simp at hu; rcases hu with rfl | rfl <;> rfl) (by simp only [maxLen]; omega) (by omega) (by have := hB.size; simp; omega) ?_; intro v' w1 hown' hgrow _; obtain ⟨g', cap', rfl⟩ := ownsRow_succ hown'; obtain ⟨hv1, hv2, hr2, hk2, hb2⟩ := hv.appended hne hrow hB.size (Nat.le_refl _) hown' hgrow; have hc1 := hv1.cell; have hf1 := hv1.frozen; have hl1 := hv1.lt)
    refine ⟨hk2.from _, hb2, ⟨_, hv2, ?_, trivial⟩, hB.trans hb2⟩
    rw [List.length_append, flatT_append]
    exact hr2
  case done =>
    rintro D ys W hD rfl ⟨⟨v, hv, hrow, _⟩, hB⟩ hK
    have hc0 := hv.cell
    gi_wp2
    refine ⟨by simp, .inl ⟨_, _, rfl, run_takeDeferred hK, ?_⟩⟩
    exact ⟨_, results_tmp rfl _ _ _, v, rfl, ownsRow_putObj hrow _ hK rfl, hB.trans (belowK_b (w := w) (Nat.le_refl _) W D _ _ (by omega) hK rfl rfl)⟩
  case stop =>
    rintro D c pre W _ _ h _
    exact h.elim
end Go.Proofs.YtainiojlhdbhgaaDoor

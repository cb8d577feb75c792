/-
  snap.Invert: turns gone over from the last one on.
-/
import Derived.Test.YthdjbflbhgbckaaDoorDiff
import Derived.RangeFuncNested
import Derived.RangeFuncBound
import Derived.RangeFuncCalls
import Derived.RangeFuncLeaves
import Derived.RangeFuncBox
import Derived.Shelf.Abstract
import Derived.Shelf.RegionOpen
import Derived.OwnWalkIn
import Derived.TacticsInMore
import Derived.LoopNIn
import Derived.LoopIn
import Derived.Maps.AppendAt
set_option linter.unusedVariables false
namespace Go.Proofs.YthdjbflbhgbckaaDoor
open Go.RowKit Go.Shelf Stab Snap
attribute [local go_sem] Oper.semAt_some

/-- The way back of a turn, of turns. -/
def invT (t : Tn) : Tn := (if t.1 = 1 then 2 else if t.1 = 2 then 1 else t.1, t.2.1, t.2.2.2, t.2.2.1)
def invL (L : List Tn) : List Tn := (L.map invT).reverse
def vTn (t : Tn) : Value := .agg #[.int .i64 t.1, .int .i64 t.2.1, .int .i64 t.2.2.1, .int .i64 t.2.2.2]
/-- The places, from the last one on. -/
def placesB (n : Nat) : List Nat := (List.range n).reverse
theorem placesB_len (n : Nat) : (placesB n).length = n := by unfold placesB; simp
theorem placesB_at {n k : Nat} (h : k < n) : (placesB n)[k]? = some (n - 1 - k) := by
  unfold placesB
  rw [List.getElem?_reverse (by simpa using h), List.length_range, List.getElem?_range (by omega)]
theorem placesB_inv (L : List Tn) : (placesB L.length).map (fun k => invT (L.getD k default)) = invL L := by
  unfold placesB invL
  rw [List.map_reverse]
  congr 1
  apply List.ext_getElem (by simp)
  intro i h1 h2
  simp at h1
  simp [h1]
/-- Blocks below a bound stay, but one. -/
structure BelowBut (n₀ ob : Nat) (W W' : World) : Prop where
  size : W.heap.size ≤ W'.heap.size
  keep : ∀ k, k < n₀ → k ≠ ob → W'.heap[k]? = W.heap[k]?
theorem BelowBut.refl (n₀ ob : Nat) (W : World) : BelowBut n₀ ob W W := ⟨Nat.le_refl _, fun _ _ _ => rfl⟩
theorem BelowBut.trans {n₀ ob : Nat} {A B C : World} (h : BelowBut n₀ ob A B) (k : BelowBut n₀ ob B C) : BelowBut n₀ ob A C :=
  ⟨Nat.le_trans h.size k.size, fun i h1 h2 => (k.keep i h1 h2).trans (h.keep i h1 h2)⟩
theorem BelowBut.of_upd {n₀ ob : Nat} {S : List Nat} {W W' : World} (h : Upd S W W') (hn : n₀ ≤ W.heap.size) (hS : ∀ x ∈ S, x = ob ∨ n₀ ≤ x) : BelowBut n₀ ob W W' :=
  ⟨h.size, fun k h1 h2 => h.keep k (Nat.lt_of_lt_of_le h1 hn) (fun hm => by rcases hS k hm with e | e; exact h2 e; omega)⟩
set_option maxRecDepth 100000 in
set_option maxHeartbeats 2000000 in
theorem backw_in (F : Fence) (n : Nat) (h7 : F.fn 54) (hro : F.round = none) (hn : 1 ≤ n) (l Bs c : Nat) (A : Option Addr) (L : List Tn) (hlen : L.length ≤ 1000) (n₀ ob : Nat) (J Jx : List Nat → World → Prop)
    (hY : ∀ pre k W, J pre W → pre.length < L.length → YieldAt F (n - 1) Tryd.prog l #[.int .i64 (k : Nat), vTn (L.getD k default)] W fun e W' =>
      (e = .returned (.bool true) ∧ J (pre ++ [k]) W' ∧ BelowBut n₀ ob W W') ∨ (e = .returned (.bool false) ∧ Jx (pre ++ [k]) W'))
    (W : World) 
    (hc : ∀ W', BelowBut n₀ ob W W' → W'.cell? ⟨Bs, 0, none⟩ = some (.slice A L.length c) ∧ Rd encTn W' (.slice A L.length c) L) (h0 : J [] W) :
    CallsIn F n Tryd.prog 54 #[.func (.yield l) #[] #[], .pointer (some ⟨Bs, 0, none⟩)] W fun e W' => (∃ v, e = .returned v) ∧
      ((∃ ys, ys = placesB L.length ∧ J ys W') ∨ (∃ pre, pre <+: placesB L.length ∧ Jx pre W')) := by
  obtain ⟨len, hl⟩ : ∃ len, L.length = len := ⟨_, rfl⟩
  rw [hl] at hlen hc ⊢
  have HL := Lib.hid hl
  have HC := Lib.hid hc
  have HY := Lib.hid hY
  have c0 := (hc W (BelowBut.refl _ _ _)).1
  clear hl hc hY
  have w1 : IntKind.i64.wrap ((len : Int) - 1) = (len : Int) - 1 := by rw [IntKind.wrap_i64]; omega
  refine callsIn_of_wp Tryd.func54 rfl h7 ?_ hro
  simp only [Tryd.ntmps54, List.size_toArray, List.length_cons, List.length_nil, Nat.reduceAdd, Nat.reduceSub, Array.replicate_succ, Array.replicate_zero, List.push_toArray, List.append_toArray, List.nil_append, List.cons_append]
  gi_wp2
  gi_loopw [3] (fun i wr => ∃ (k : Nat) (j : Int), k ≤ len ∧ i = .int .i64 j ∧ j + (k : Int) + 1 = len ∧ Hid (J ((placesB len).take k) wr) ∧ Hid (BelowBut n₀ ob W wr))
    (fun i _ => (intOf i + 1).toNat)
  case atStart => exact ⟨0, (len : Int) - 1, Nat.zero_le _, rfl, by omega, Lib.hid h0, Lib.hid (BelowBut.refl _ _ _)⟩
  case round =>
    obtain ⟨k, j, hk, rfl, hjk, hJs, hnx⟩ := hrel
    by_cases hlt : k < len
    · obtain ⟨m, rfl⟩ : ∃ m : Nat, j = (m : Int) := ⟨len - 1 - k, by omega⟩
      obtain ⟨x, hx⟩ : ∃ x, L[m]? = some x := ⟨_, List.getElem?_eq_getElem (by rw [HL.out]; omega)⟩
      obtain ⟨e0, hrd⟩ := HC.out wr hnx.out
      have hrd' : Rd encTn wr (.slice A L.length c) L := by rw [HL.out]; exact hrd
      obtain ⟨ad, rfl, -, hcl⟩ := hrd.at_ hx
      have f0 : wr.cell? (ad.add (m * 4)) = some (.int .i64 x.1) := hcl 0 _ rfl
      have f1 : wr.cell? ⟨(ad.add (m * 4)).block, (ad.add (m * 4)).off + 1, none⟩ = some (.int .i64 x.2.1) := by have := hcl 1 _ rfl; rwa [show m * (encTn).s + 1 = m * 4 + (0 + 1) from rfl, add_more] at this
      have f2 : wr.cell? ⟨(ad.add (m * 4)).block, (ad.add (m * 4)).off + 2, none⟩ = some (.int .i64 x.2.2.1) := by have := hcl 2 _ rfl; rwa [show m * (encTn).s + 2 = m * 4 + (1 + 1) from rfl, add_more] at this
      have f3 : wr.cell? ⟨(ad.add (m * 4)).block, (ad.add (m * 4)).off + 3, none⟩ = some (.int .i64 x.2.2.2) := by have := hcl 3 _ rfl; rwa [show m * (encTn).s + 3 = m * 4 + (2 + 1) from rfl, add_more] at this
      have HT : Hid ((placesB len).take (k + 1) = (placesB len).take k ++ [m]) := Lib.hid (by rw [List.take_add_one, placesB_at hlt, show len - 1 - k = m by omega]; rfl)
      have hxd : L.getD m default = x := by rw [List.getD_eq_getElem?_getD, hx]; rfl
      obtain ⟨fn, tmps, assign, body, hy, hR⟩ := HY.out ((placesB len).take k) m wr hJs.out (by rw [List.length_take, placesB_len, HL.out]; omega)
      rw [hxd] at hy
      unfold vTn at hy
      have q1 : (0 : Int) ≤ (m : Int) := by omega
      have q2 : (m : Int) < (len : Int) := by omega
      have q3 : decide ((0 : Int) ≤ (m : Int)) = true := by simp
      clear hx hxd hrd hrd' hcl
      gi_wp2
      refine hR.mono ?_
      rintro e W3 (⟨rfl, hJ3, hk3⟩ | ⟨rfl, hJx3⟩)
      · have HJ3 : Hid (J ((placesB len).take (k + 1)) W3) := Lib.hid (by rw [HT.out]; exact hJ3)
        have HK3 : Hid (BelowBut n₀ ob W W3) := Lib.hid (hnx.out.trans hk3)
        have w2 : IntKind.i64.wrap ((m : Int) - 1) = (m : Int) - 1 := by rw [IntKind.wrap_i64]; omega
        clear hJ3 hk3 e0 f0 f1 f2 f3 hy
        gi_wp2
        go_roundw
        case rel => exact ⟨k + 1, (m : Int) - 1, by omega, by simp, by omega, HJ3, HK3⟩
        case measure => simp [intOf] <;> omega
      · clear hy
        gi_wp2
        refine bodyPost_ret (results_none rfl _ _ _) rfl ?_
        exact ⟨⟨_, rfl⟩, .inr ⟨_, List.take_prefix (k + 1) _, by rw [HT.out]; exact hJx3⟩⟩
    · obtain rfl : k = len := by omega
      have q3 : decide ((0 : Int) ≤ j) = false := by simp; omega
      gi_wp2
      go_end0
      exact ⟨⟨_, rfl⟩, .inl ⟨_, rfl, by have := hJs.out; rwa [List.take_of_length_le (by rw [placesB_len]; exact Nat.le_refl _)] at this⟩⟩
theorem backw_ok (A : Option Addr) (n c : Nat) (w : World) : Calls Tryd.prog 37 #[.slice A n c] w fun e w' => e = .returned (.func (.func 54) #[] #[.pointer (some ⟨w.heap.size, 0, none⟩)]) ∧ w.alloc (.cells #[.slice A n c] 41) = w' := by
  go_enter Tryd.func37, Tryd.ntmps37
  go_wp2_with fail
  go_ret
  exact ⟨rfl, rfl⟩
theorem invT_1 {t : Tn} (h : t.1 = 1) : invT t = (2, t.2.1, t.2.2.2, t.2.2.1) := by unfold invT; rw [if_pos h]
theorem invT_2 {t : Tn} (h : t.1 = 2) : invT t = (1, t.2.1, t.2.2.2, t.2.2.1) := by unfold invT; rw [if_neg (by rw [h]; decide), if_pos h]
theorem invT_3 {t : Tn} (h : ¬ t.1 = 1) (h2 : ¬ t.1 = 2) : invT t = (t.1, t.2.1, t.2.2.2, t.2.2.1) := by unfold invT; rw [if_neg h, if_neg h2]
theorem own_blk' {w : World} {B n s : Nat} {e : TypeId} {v : Value} {xs : List Value} (h : w.ownsRow B e s v n xs) {b : Nat} (hb : b ∈ v.ownBlock.toList) : B ≤ b ∧ ∃ cs, Blk w b e cs := by
  have hb' : v.ownBlock = some b := by simpa using hb
  rcases h.2 with ⟨e, _⟩ | ⟨g, cap, cur, e, hB, hg, _⟩
  · rw [e] at hb'; simp [Value.ownBlock] at hb'
  · rw [e] at hb'
    simp only [Value.ownBlock, Option.some.injEq] at hb'
    subst hb'
    exact ⟨hB, _, hg⟩
theorem boxed_inj {W : World} {b : Nat} {t : TypeId} {v v' : Value} (h : Boxed W b t v) (h' : Boxed W b t v') : v = v' := by
  unfold Boxed at h h'
  rw [h] at h'
  injection h' with h'
  injection h' with h'
  simpa using h'
theorem elemTn_info : ∃ i0 z, Tryd.prog.info? 51 = some i0 ∧ i0.zero = some z ∧ i0.size = 4 ∧ i0.bytes = 32 ∧ z.cells.size = 4 := by
  obtain ⟨i, z, h1, h2, h3, h4, h5⟩ := elem_tn.info
  exact ⟨i, z, h1, h2, h3, h4, h5⟩
theorem backw_stops (Bs c ob : Nat) (A : Option Addr) (L : List Tn) (hlen : L.length ≤ 1000) (n₀ : Nat) (w : World) (hBs : Bs < n₀) (hBo : Bs ≠ ob) (hn₀ : n₀ ≤ w.heap.size)
    (hb : w.cell? ⟨Bs, 0, none⟩ = some (.slice A L.length c)) (hr : Rd encTn w (.slice A L.length c) L) (hA : ∀ a, A = some a → L ≠ [] → a.block < n₀ ∧ a.block ≠ ob) :
    SeqStopsK Fence.wide 5 Tryd.prog 54 #[.pointer (some ⟨Bs, 0, none⟩)] (fun k : Nat => #[.int .i64 (k : Nat), vTn (L.getD k default)]) (BelowBut n₀ ob) (fun ys => ys = placesB L.length) (fun pre => pre <+: placesB L.length) L.length w := fun l J Jx W hW hJ _ hY h0 => by
  have hk : ∀ W', BelowBut n₀ ob W W' → W'.cell? ⟨Bs, 0, none⟩ = some (.slice A L.length c) ∧ Rd encTn W' (.slice A L.length c) L := fun W' hW' => by
    have hb2 : ∀ p : Addr, p.block < n₀ → p.block ≠ ob → W'.cell? p = w.cell? p := fun p h1 h2 =>
      (World.cell?_of_block (hW'.keep p.block h1 h2)).trans ((hW.mono hn₀).cell h1)
    have hsz : w.heap.size ≤ W'.heap.size := Nat.le_trans hW.size hW'.size
    refine ⟨(hb2 ⟨Bs, 0, none⟩ hBs hBo).trans hb, ?_⟩
    obtain ⟨hl, A', c', e, hc⟩ := hr
    injection e with e _ e'
    subst e e'
    exact ⟨hl, _, _, rfl, fun j u hj => by
      obtain ⟨ad, rfl, hlt, h⟩ := hc j u hj
      have hne : L ≠ [] := fun e => by rw [e] at hj; simp [flat] at hj
      refine ⟨ad, rfl, Nat.lt_of_lt_of_le hlt hsz, (hb2 (ad.add j) (by rw [block_add]; exact (hA _ rfl hne).1) (by rw [block_add]; exact (hA _ rfl hne).2)).trans h⟩⟩
  exact backw_in Fence.wide 5 trivial rfl (by omega) l Bs c A L hlen n₀ ob J Jx hY W hk h0
set_option maxRecDepth 100000 in
set_option maxHeartbeats 8000000 in
theorem invert_in (A : Option Addr) (c : Nat) (L : List Tn) (hlen : L.length ≤ 1000) (w : World) (hr : Rd encTn w (.slice A L.length c) L) (hA : ∀ a, A = some a → L ≠ [] → a.block < w.heap.size) :
    CallsIn Fence.wide 6 Tryd.prog 20 #[.slice A L.length c] w fun e w' => ∃ v, e = .returned v ∧ Ow encTn 51 w' w.heap.size v (invL L) ∧ Below w.heap.size w w' := by
  obtain ⟨i0, z0, hi, hz0, hz1, hz2, hz3⟩ := elemTn_info
  refine callsIn_of_wp_marks Tryd.func20 rfl trivial ?_ rfl
  simp only [Tryd.ntmps20, List.size_toArray, List.length_cons, List.length_nil, Nat.reduceAdd, Nat.reduceSub, Array.replicate_succ, Array.replicate_zero, List.push_toArray, List.append_toArray, List.nil_append, List.cons_append]
  gi_wp2
  refine ⟨trivial, callsIn_wide.2 ((backw_ok A L.length c _).mono ?_)⟩
  rintro e w' ⟨rfl, rfl⟩
  obtain ⟨ob, hob⟩ : ∃ ob, w.heap.size = ob := ⟨_, rfl⟩
  obtain ⟨Bs, hBs⟩ : ∃ Bs, (w.alloc (.cells #[.slice none 0 0] 41)).heap.size = Bs := ⟨_, rfl⟩
  have hBo : Bs = ob + 1 := by rw [← hBs]; simp [hob]
  obtain ⟨W2, hW2⟩ : ∃ W2, (w.alloc (.cells #[.slice none 0 0] 41)).alloc (.cells #[.slice A L.length c] 41) = W2 := ⟨_, rfl⟩
  have U2 : Upd [] w W2 := by rw [← hW2]; exact ((Upd.refl [] w).alloc _).alloc _
  have OB2 : Blk W2 ob 41 #[.slice none 0 0] := by
    rw [← hW2, ← hob]
    exact (Blk.new w _ _).upd ((Upd.refl [] _).alloc _) (by simp)
  have BB2 : Blk W2 Bs 41 #[.slice A L.length c] := by
    rw [← hW2, ← hBs]
    exact Blk.new _ _ _
  have S2 : W2.heap.size = ob + 2 := by rw [← hW2]; simp [hob]
  have hseq := backw_stops Bs c ob A L hlen (ob + 2) W2 (by omega) (by omega) (by omega) (BB2.cell 0) (hr.upd0 U2) (fun a ha hl => by have := hA a ha hl; omega)
  clear hBo
  rw [hob, hBs]
  gi_wp2
  try rw [hW2]
  refine wpIn_rangeFunc_ownH (w := W2) rfl (by omega) (gf := 54) (lb := #[.pointer (some ⟨Bs, 0, none⟩)]) rfl trivial (enters_of Tryd.func54 (by kernel_rfl) rfl)
    hseq (fun h k => h.trans k) (fun W l o o' hl _ _ _ => ⟨by simp [World.putObj], fun k hk _ => World.putObj_heap_other (by omega)⟩) (Below.refl _ _) (fun _ => rfl)
    (fun pre W => ((∃ v, Boxed W ob 41 v ∧ W.ownsRow (ob + 2) 51 4 v pre.length (flat encTn (pre.map (fun k => invT (L.getD k default)))) ∧ True) ∧ Below ob w W) ∧ ob + 2 ≤ W.heap.size)
    (fun _ _ _ => False)
    (OwnFrom.and (OwnFrom.and (Own.from (holdsRow_own (ob + 2) ob _ _ 4 (fun pre : List Nat => pre.length) (fun pre => flat encTn (pre.map (fun k => invT (L.getD k default)))) (fun _ _ => True)) _) (ownFrom_below (by omega) (by omega))) (fun _ _ _ _ h hg _ => Nat.le_trans h hg.size))
    (fun _ _ _ _ _ hs _ _ => hs)
    ⟨⟨⟨_, OB2, own_nil _ _ _ _, trivial⟩, U2.below (by omega) (by simp)⟩, by omega⟩
    (fun x a' W => ∃ Bx v0, ob + 2 ≤ Bx ∧ Boxed W ob 41 v0 ∧ v0.ownBlock ≠ some Bx ∧ Blk W Bx 51 #[.int .i64 (L.getD x default).1, .int .i64 (L.getD x default).2.1, .int .i64 (L.getD x default).2.2.1, .int .i64 (L.getD x default).2.2.2] ∧ a' = { tmps := #[.slice A L.length c, undef, .slice none 0 0, .pointer (some ⟨ob, 0, none⟩), undef, .pointer (some ⟨Bx, 0, none⟩), .slice A L.length c, .func (.func 54) #[] #[.pointer (some ⟨Bs, 0, none⟩)], .int .i64 (x : Nat), vTn (L.getD x default), undef, undef, undef, undef, undef, undef, undef, undef, undef, undef, undef, undef, undef, undef, undef, undef, undef, undef, undef], defers := [] })
    (fun x a' => by
      rintro s X Y row ⟨Bx, v0, h1, h4, h5, h2, h3⟩ hg hrow
      refine ⟨Bx, v0, h1, h4.kept hg (fun e => ?_), h5, (hg.block Bx (Blk.lt h2) (fun e => ?_)).trans h2, h3⟩
      · obtain ⟨_, o, ho, hc⟩ := hrow ob e.symm
        rw [show X.heap[ob]? = _ from h4] at ho
        cases ho
        cases hc
      · obtain ⟨_, o, ho, hc⟩ := hrow Bx e.symm
        rw [show X.heap[Bx]? = _ from h2] at ho
        cases ho
        cases hc)
    ?assign ?body ?done ?stop
  case assign =>
    rintro l pre x W K ⟨⟨⟨v, hv, hrow, _⟩, hB⟩, hsz⟩ hK
    unfold vTn at hK ⊢
    gi_wp2
    exact hK _ _ ((KeepsOthers.alloc _ _).from _) (.of_upd ((Upd.refl [] W).alloc _) hsz (by simp)) ⟨⟨⟨v, hv.alloc _, hrow.alloc _, trivial⟩, hB.alloc (by have := hB.size; omega) _⟩, by simp; omega⟩ ⟨W.heap.size, v, hsz, hv.alloc _, (fun e => by have := (own_lt hrow e).2; omega), Blk.new W _ _, rfl⟩
  case body =>
    rintro l pre x a' W hl _ ⟨⟨⟨v, hv, hrow, _⟩, hB⟩, hsz⟩ ⟨Bx, v0, hBx, hv0, hvb, bX, rfl⟩ hlt
    obtain rfl := boxed_inj hv hv0
    clear hv0
    obtain ⟨t, ht⟩ : ∃ t, L.getD x default = t := ⟨_, rfl⟩
    have HT := Lib.hid ht
    rw [ht] at bX ⊢
    unfold vTn
    clear ht
    have hne : (41 : TypeId) ≠ 51 := by decide
    have e0 : W.cell? ⟨Bx, 0, none⟩ = some (.int .i64 t.1) := bX.cell 0
    have e1 : W.cell? ⟨Bx, 1, none⟩ = some (.int .i64 t.2.1) := bX.cell 1
    have e2 : W.cell? ⟨Bx, 2, none⟩ = some (.int .i64 t.2.2.1) := bX.cell 2
    have e3 : W.cell? ⟨Bx, 3, none⟩ = some (.int .i64 t.2.2.2) := bX.cell 3
    have ez : ∀ k, W.frozen? ⟨Bx, k, none⟩ = false := fun k => bX.frozen k
    have el : Bx < W.heap.size := bX.lt
    by_cases k1 : t.1 = 1
    · skip
      have UF : Upd [Bx] W (((W.setCell ⟨Bx, 2, none⟩ (.int .i64 t.2.2.2)).setCell ⟨Bx, 3, none⟩ (.int .i64 t.2.2.1)).setCell ⟨Bx, 0, none⟩ (.int .i64 2)) := ((((Upd.refl [Bx] W).setCell (.inl (by simp)) _).setCell (.inl (by simp)) _).setCell (.inl (by simp)) _)
      have BF : Blk (((W.setCell ⟨Bx, 2, none⟩ (.int .i64 t.2.2.2)).setCell ⟨Bx, 3, none⟩ (.int .i64 t.2.2.1)).setCell ⟨Bx, 0, none⟩ (.int .i64 2)) Bx 51 #[.int .i64 2, .int .i64 t.2.1, .int .i64 t.2.2.2, .int .i64 t.2.2.1] := (((bX.set_eq rfl).set_eq rfl).set_eq rfl)
      have hvF : Boxed (((W.setCell ⟨Bx, 2, none⟩ (.int .i64 t.2.2.2)).setCell ⟨Bx, 3, none⟩ (.int .i64 t.2.2.1)).setCell ⟨Bx, 0, none⟩ (.int .i64 2)) ob 41 v := Blk.upd hv UF (by simp; omega)
      have hrF : ((((W.setCell ⟨Bx, 2, none⟩ (.int .i64 t.2.2.2)).setCell ⟨Bx, 3, none⟩ (.int .i64 t.2.2.1)).setCell ⟨Bx, 0, none⟩ (.int .i64 2))).ownsRow (ob + 2) 51 4 v pre.length (flat encTn (pre.map (fun k => invT (L.getD k default)))) := own_upd hrow UF (fun y hy hm => hvb (by rw [hy]; simpa using hm))
      have KF : KeepsOthers W (((W.setCell ⟨Bx, 2, none⟩ (.int .i64 t.2.2.2)).setCell ⟨Bx, 3, none⟩ (.int .i64 t.2.2.1)).setCell ⟨Bx, 0, none⟩ (.int .i64 2)) := (((KeepsOthers.setCell _ _ _).trans (KeepsOthers.setCell _ _ _)).trans (KeepsOthers.setCell _ _ _))
      have hszF : ob + 2 ≤ ((((W.setCell ⟨Bx, 2, none⟩ (.int .i64 t.2.2.2)).setCell ⟨Bx, 3, none⟩ (.int .i64 t.2.2.1)).setCell ⟨Bx, 0, none⟩ (.int .i64 2))).heap.size := Nat.le_trans hsz UF.size
      have SZ : ((((W.setCell ⟨Bx, 2, none⟩ (.int .i64 t.2.2.2)).setCell ⟨Bx, 3, none⟩ (.int .i64 t.2.2.1)).setCell ⟨Bx, 0, none⟩ (.int .i64 2))).heap.size = W.heap.size := by simp
      have BN : Blk (((((W.setCell ⟨Bx, 2, none⟩ (.int .i64 t.2.2.2)).setCell ⟨Bx, 3, none⟩ (.int .i64 t.2.2.1)).setCell ⟨Bx, 0, none⟩ (.int .i64 2))).alloc (.cells #[.int .i64 2, .int .i64 t.2.1, .int .i64 t.2.2.2, .int .i64 t.2.2.1] 51)) W.heap.size 51 #[.int .i64 2, .int .i64 t.2.1, .int .i64 t.2.2.2, .int .i64 t.2.2.1] := by rw [← SZ]; exact Blk.new _ _ _
      have c0 := hvF.cell
      have g0 : ((((W.setCell ⟨Bx, 2, none⟩ (.int .i64 t.2.2.2)).setCell ⟨Bx, 3, none⟩ (.int .i64 t.2.2.1)).setCell ⟨Bx, 0, none⟩ (.int .i64 2))).cell? ⟨Bx, 0, none⟩ = some (.int .i64 2) := BF.cell 0
      have g1 : ((((W.setCell ⟨Bx, 2, none⟩ (.int .i64 t.2.2.2)).setCell ⟨Bx, 3, none⟩ (.int .i64 t.2.2.1)).setCell ⟨Bx, 0, none⟩ (.int .i64 2))).cell? ⟨Bx, 1, none⟩ = some (.int .i64 t.2.1) := BF.cell 1
      have g2 : ((((W.setCell ⟨Bx, 2, none⟩ (.int .i64 t.2.2.2)).setCell ⟨Bx, 3, none⟩ (.int .i64 t.2.2.1)).setCell ⟨Bx, 0, none⟩ (.int .i64 2))).cell? ⟨Bx, 2, none⟩ = some (.int .i64 t.2.2.2) := BF.cell 2
      have g3 : ((((W.setCell ⟨Bx, 2, none⟩ (.int .i64 t.2.2.2)).setCell ⟨Bx, 3, none⟩ (.int .i64 t.2.2.1)).setCell ⟨Bx, 0, none⟩ (.int .i64 2))).cell? ⟨Bx, 3, none⟩ = some (.int .i64 t.2.2.1) := BF.cell 3
      gi_wp2_with (gi_at_builtin; refine wpListIn_append_own _ rfl _ _ 41 rfl (ob + 2) 51 i0 z0 4 32 Tryd.underlying41 hi hz0 hz1 hz2 hz3 (by decide) _ _ _ rfl (hrF.alloc _) ⟨W.heap.size, 0, none⟩ 1 1 [.int .i64 2, .int .i64 t.2.1, .int .i64 t.2.2.2, .int .i64 t.2.2.1] rfl rfl (news_of_blk (cs := #[.int .i64 2, .int .i64 t.2.1, .int .i64 t.2.2.2, .int .i64 t.2.2.1]) BN) (by intro u hu; simp at hu; rcases hu with rfl | rfl | rfl | rfl <;> rfl) (by simp only [maxLen]; omega) (by omega) (by simp; omega) ?_; intro v' w1 hown' hgrow _; obtain ⟨g', cap', rfl⟩ := ownsRow_succ hown'; have hv1 : Boxed w1 ob 41 v := (hvF.alloc _).kept hgrow (hvF.not_row hne hrF); have hc1 := hv1.cell; have hf1 := hv1.frozen; have hl1 := hv1.lt)
      have hup : Upd (Bx :: ob :: v.ownBlock.toList) W (w1.setCell ⟨ob, 0, none⟩ (.slice (some ⟨g', 0, none⟩) (pre.length + 1) cap')) :=
        (((UF.mono (fun y hy => .inl (by simp at hy; subst hy; simp))).alloc _).trans ((own_upd_of_grown hgrow).mono (fun y hy => .inl (List.mem_cons_of_mem _ (List.mem_cons_of_mem _ hy))))).setCell (.inl (by simp)) _
      have hS : ∀ y ∈ Bx :: ob :: v.ownBlock.toList, y = ob ∨ ob + 2 ≤ y := fun y hy => by
        rcases List.mem_cons.1 hy with rfl | hy
        · exact .inr hBx
        · rcases List.mem_cons.1 hy with rfl | hy
          · exact .inl rfl
          · exact .inr (own_blk' hrow hy).1
      have hrow2 : (w1.setCell ⟨ob, 0, none⟩ (.slice (some ⟨g', 0, none⟩) (pre.length + 1) cap')).ownsRow (ob + 2) 51 4 (.slice (some ⟨g', 0, none⟩) (pre.length + 1) cap') (pre ++ [x]).length (flat encTn ((pre ++ [x]).map (fun k => invT (L.getD k default)))) := by
        have h0 := own_upd hown' ((Upd.refl [ob] w1).setCell (p := ⟨ob, 0, none⟩) (.inl (by simp)) (.slice (some ⟨g', 0, none⟩) (pre.length + 1) cap')) (fun y hy hm => own_type hown' hv1 hne (by rw [hy]; simpa using hm))
        rw [List.length_append, List.map_append, flat_append, show [x].map (fun k => invT (L.getD k default)) = [invT (L.getD x default)] from rfl, HT.out, (invT_1 k1), flat_one_]
        exact h0
      refine ⟨(((KF.trans (KeepsOthers.alloc _ _)).trans (KeepsOthers.of_grownBy hgrow fun j o ej hj => ?_)).trans (KeepsOthers.setCell _ _ _)).from _, .of_upd hup hsz hS, ⟨⟨_, hv1.set _, hrow2, trivial⟩, hB.trans (hup.below (by omega) (fun y hy => by rcases hS y hy with h | h <;> omega))⟩, Nat.le_trans hsz hup.size⟩
      have ej' : v.ownBlock = some j := ej
      obtain ⟨_, cs, hcs⟩ := own_blk' (hrF.alloc _) (b := j) (by rw [ej']; simp)
      rw [show _ = some _ from hcs] at hj
      injection hj with hj
      subst hj
      rfl
    · by_cases k2 : t.1 = 2
      · skip
        have UF : Upd [Bx] W (((W.setCell ⟨Bx, 2, none⟩ (.int .i64 t.2.2.2)).setCell ⟨Bx, 3, none⟩ (.int .i64 t.2.2.1)).setCell ⟨Bx, 0, none⟩ (.int .i64 1)) := ((((Upd.refl [Bx] W).setCell (.inl (by simp)) _).setCell (.inl (by simp)) _).setCell (.inl (by simp)) _)
        have BF : Blk (((W.setCell ⟨Bx, 2, none⟩ (.int .i64 t.2.2.2)).setCell ⟨Bx, 3, none⟩ (.int .i64 t.2.2.1)).setCell ⟨Bx, 0, none⟩ (.int .i64 1)) Bx 51 #[.int .i64 1, .int .i64 t.2.1, .int .i64 t.2.2.2, .int .i64 t.2.2.1] := (((bX.set_eq rfl).set_eq rfl).set_eq rfl)
        have hvF : Boxed (((W.setCell ⟨Bx, 2, none⟩ (.int .i64 t.2.2.2)).setCell ⟨Bx, 3, none⟩ (.int .i64 t.2.2.1)).setCell ⟨Bx, 0, none⟩ (.int .i64 1)) ob 41 v := Blk.upd hv UF (by simp; omega)
        have hrF : ((((W.setCell ⟨Bx, 2, none⟩ (.int .i64 t.2.2.2)).setCell ⟨Bx, 3, none⟩ (.int .i64 t.2.2.1)).setCell ⟨Bx, 0, none⟩ (.int .i64 1))).ownsRow (ob + 2) 51 4 v pre.length (flat encTn (pre.map (fun k => invT (L.getD k default)))) := own_upd hrow UF (fun y hy hm => hvb (by rw [hy]; simpa using hm))
        have KF : KeepsOthers W (((W.setCell ⟨Bx, 2, none⟩ (.int .i64 t.2.2.2)).setCell ⟨Bx, 3, none⟩ (.int .i64 t.2.2.1)).setCell ⟨Bx, 0, none⟩ (.int .i64 1)) := (((KeepsOthers.setCell _ _ _).trans (KeepsOthers.setCell _ _ _)).trans (KeepsOthers.setCell _ _ _))
        have hszF : ob + 2 ≤ ((((W.setCell ⟨Bx, 2, none⟩ (.int .i64 t.2.2.2)).setCell ⟨Bx, 3, none⟩ (.int .i64 t.2.2.1)).setCell ⟨Bx, 0, none⟩ (.int .i64 1))).heap.size := Nat.le_trans hsz UF.size
        have SZ : ((((W.setCell ⟨Bx, 2, none⟩ (.int .i64 t.2.2.2)).setCell ⟨Bx, 3, none⟩ (.int .i64 t.2.2.1)).setCell ⟨Bx, 0, none⟩ (.int .i64 1))).heap.size = W.heap.size := by simp
        have BN : Blk (((((W.setCell ⟨Bx, 2, none⟩ (.int .i64 t.2.2.2)).setCell ⟨Bx, 3, none⟩ (.int .i64 t.2.2.1)).setCell ⟨Bx, 0, none⟩ (.int .i64 1))).alloc (.cells #[.int .i64 1, .int .i64 t.2.1, .int .i64 t.2.2.2, .int .i64 t.2.2.1] 51)) W.heap.size 51 #[.int .i64 1, .int .i64 t.2.1, .int .i64 t.2.2.2, .int .i64 t.2.2.1] := by rw [← SZ]; exact Blk.new _ _ _
        have c0 := hvF.cell
        have g0 : ((((W.setCell ⟨Bx, 2, none⟩ (.int .i64 t.2.2.2)).setCell ⟨Bx, 3, none⟩ (.int .i64 t.2.2.1)).setCell ⟨Bx, 0, none⟩ (.int .i64 1))).cell? ⟨Bx, 0, none⟩ = some (.int .i64 1) := BF.cell 0
        have g1 : ((((W.setCell ⟨Bx, 2, none⟩ (.int .i64 t.2.2.2)).setCell ⟨Bx, 3, none⟩ (.int .i64 t.2.2.1)).setCell ⟨Bx, 0, none⟩ (.int .i64 1))).cell? ⟨Bx, 1, none⟩ = some (.int .i64 t.2.1) := BF.cell 1
        have g2 : ((((W.setCell ⟨Bx, 2, none⟩ (.int .i64 t.2.2.2)).setCell ⟨Bx, 3, none⟩ (.int .i64 t.2.2.1)).setCell ⟨Bx, 0, none⟩ (.int .i64 1))).cell? ⟨Bx, 2, none⟩ = some (.int .i64 t.2.2.2) := BF.cell 2
        have g3 : ((((W.setCell ⟨Bx, 2, none⟩ (.int .i64 t.2.2.2)).setCell ⟨Bx, 3, none⟩ (.int .i64 t.2.2.1)).setCell ⟨Bx, 0, none⟩ (.int .i64 1))).cell? ⟨Bx, 3, none⟩ = some (.int .i64 t.2.2.1) := BF.cell 3
        gi_wp2_with (gi_at_builtin; refine wpListIn_append_own _ rfl _ _ 41 rfl (ob + 2) 51 i0 z0 4 32 Tryd.underlying41 hi hz0 hz1 hz2 hz3 (by decide) _ _ _ rfl (hrF.alloc _) ⟨W.heap.size, 0, none⟩ 1 1 [.int .i64 1, .int .i64 t.2.1, .int .i64 t.2.2.2, .int .i64 t.2.2.1] rfl rfl (news_of_blk (cs := #[.int .i64 1, .int .i64 t.2.1, .int .i64 t.2.2.2, .int .i64 t.2.2.1]) BN) (by intro u hu; simp at hu; rcases hu with rfl | rfl | rfl | rfl <;> rfl) (by simp only [maxLen]; omega) (by omega) (by simp; omega) ?_; intro v' w1 hown' hgrow _; obtain ⟨g', cap', rfl⟩ := ownsRow_succ hown'; have hv1 : Boxed w1 ob 41 v := (hvF.alloc _).kept hgrow (hvF.not_row hne hrF); have hc1 := hv1.cell; have hf1 := hv1.frozen; have hl1 := hv1.lt)
        have hup : Upd (Bx :: ob :: v.ownBlock.toList) W (w1.setCell ⟨ob, 0, none⟩ (.slice (some ⟨g', 0, none⟩) (pre.length + 1) cap')) :=
          (((UF.mono (fun y hy => .inl (by simp at hy; subst hy; simp))).alloc _).trans ((own_upd_of_grown hgrow).mono (fun y hy => .inl (List.mem_cons_of_mem _ (List.mem_cons_of_mem _ hy))))).setCell (.inl (by simp)) _
        have hS : ∀ y ∈ Bx :: ob :: v.ownBlock.toList, y = ob ∨ ob + 2 ≤ y := fun y hy => by
          rcases List.mem_cons.1 hy with rfl | hy
          · exact .inr hBx
          · rcases List.mem_cons.1 hy with rfl | hy
            · exact .inl rfl
            · exact .inr (own_blk' hrow hy).1
        have hrow2 : (w1.setCell ⟨ob, 0, none⟩ (.slice (some ⟨g', 0, none⟩) (pre.length + 1) cap')).ownsRow (ob + 2) 51 4 (.slice (some ⟨g', 0, none⟩) (pre.length + 1) cap') (pre ++ [x]).length (flat encTn ((pre ++ [x]).map (fun k => invT (L.getD k default)))) := by
          have h0 := own_upd hown' ((Upd.refl [ob] w1).setCell (p := ⟨ob, 0, none⟩) (.inl (by simp)) (.slice (some ⟨g', 0, none⟩) (pre.length + 1) cap')) (fun y hy hm => own_type hown' hv1 hne (by rw [hy]; simpa using hm))
          rw [List.length_append, List.map_append, flat_append, show [x].map (fun k => invT (L.getD k default)) = [invT (L.getD x default)] from rfl, HT.out, (invT_2 k2), flat_one_]
          exact h0
        refine ⟨(((KF.trans (KeepsOthers.alloc _ _)).trans (KeepsOthers.of_grownBy hgrow fun j o ej hj => ?_)).trans (KeepsOthers.setCell _ _ _)).from _, .of_upd hup hsz hS, ⟨⟨_, hv1.set _, hrow2, trivial⟩, hB.trans (hup.below (by omega) (fun y hy => by rcases hS y hy with h | h <;> omega))⟩, Nat.le_trans hsz hup.size⟩
        have ej' : v.ownBlock = some j := ej
        obtain ⟨_, cs, hcs⟩ := own_blk' (hrF.alloc _) (b := j) (by rw [ej']; simp)
        rw [show _ = some _ from hcs] at hj
        injection hj with hj
        subst hj
        rfl
      · have d1 : (t.1 == 1) = false := by simpa using k1
        have d2 : (t.1 == 2) = false := by simpa using k2
        have UF : Upd [Bx] W ((W.setCell ⟨Bx, 2, none⟩ (.int .i64 t.2.2.2)).setCell ⟨Bx, 3, none⟩ (.int .i64 t.2.2.1)) := (((Upd.refl [Bx] W).setCell (.inl (by simp)) _).setCell (.inl (by simp)) _)
        have BF : Blk ((W.setCell ⟨Bx, 2, none⟩ (.int .i64 t.2.2.2)).setCell ⟨Bx, 3, none⟩ (.int .i64 t.2.2.1)) Bx 51 #[.int .i64 t.1, .int .i64 t.2.1, .int .i64 t.2.2.2, .int .i64 t.2.2.1] := ((bX.set_eq rfl).set_eq rfl)
        have hvF : Boxed ((W.setCell ⟨Bx, 2, none⟩ (.int .i64 t.2.2.2)).setCell ⟨Bx, 3, none⟩ (.int .i64 t.2.2.1)) ob 41 v := Blk.upd hv UF (by simp; omega)
        have hrF : (((W.setCell ⟨Bx, 2, none⟩ (.int .i64 t.2.2.2)).setCell ⟨Bx, 3, none⟩ (.int .i64 t.2.2.1))).ownsRow (ob + 2) 51 4 v pre.length (flat encTn (pre.map (fun k => invT (L.getD k default)))) := own_upd hrow UF (fun y hy hm => hvb (by rw [hy]; simpa using hm))
        have KF : KeepsOthers W ((W.setCell ⟨Bx, 2, none⟩ (.int .i64 t.2.2.2)).setCell ⟨Bx, 3, none⟩ (.int .i64 t.2.2.1)) := ((KeepsOthers.setCell _ _ _).trans (KeepsOthers.setCell _ _ _))
        have hszF : ob + 2 ≤ (((W.setCell ⟨Bx, 2, none⟩ (.int .i64 t.2.2.2)).setCell ⟨Bx, 3, none⟩ (.int .i64 t.2.2.1))).heap.size := Nat.le_trans hsz UF.size
        have SZ : (((W.setCell ⟨Bx, 2, none⟩ (.int .i64 t.2.2.2)).setCell ⟨Bx, 3, none⟩ (.int .i64 t.2.2.1))).heap.size = W.heap.size := by simp
        have BN : Blk ((((W.setCell ⟨Bx, 2, none⟩ (.int .i64 t.2.2.2)).setCell ⟨Bx, 3, none⟩ (.int .i64 t.2.2.1))).alloc (.cells #[.int .i64 t.1, .int .i64 t.2.1, .int .i64 t.2.2.2, .int .i64 t.2.2.1] 51)) W.heap.size 51 #[.int .i64 t.1, .int .i64 t.2.1, .int .i64 t.2.2.2, .int .i64 t.2.2.1] := by rw [← SZ]; exact Blk.new _ _ _
        have c0 := hvF.cell
        have g0 : (((W.setCell ⟨Bx, 2, none⟩ (.int .i64 t.2.2.2)).setCell ⟨Bx, 3, none⟩ (.int .i64 t.2.2.1))).cell? ⟨Bx, 0, none⟩ = some (.int .i64 t.1) := BF.cell 0
        have g1 : (((W.setCell ⟨Bx, 2, none⟩ (.int .i64 t.2.2.2)).setCell ⟨Bx, 3, none⟩ (.int .i64 t.2.2.1))).cell? ⟨Bx, 1, none⟩ = some (.int .i64 t.2.1) := BF.cell 1
        have g2 : (((W.setCell ⟨Bx, 2, none⟩ (.int .i64 t.2.2.2)).setCell ⟨Bx, 3, none⟩ (.int .i64 t.2.2.1))).cell? ⟨Bx, 2, none⟩ = some (.int .i64 t.2.2.2) := BF.cell 2
        have g3 : (((W.setCell ⟨Bx, 2, none⟩ (.int .i64 t.2.2.2)).setCell ⟨Bx, 3, none⟩ (.int .i64 t.2.2.1))).cell? ⟨Bx, 3, none⟩ = some (.int .i64 t.2.2.1) := BF.cell 3
        gi_wp2_with (gi_at_builtin; refine wpListIn_append_own _ rfl _ _ 41 rfl (ob + 2) 51 i0 z0 4 32 Tryd.underlying41 hi hz0 hz1 hz2 hz3 (by decide) _ _ _ rfl (hrF.alloc _) ⟨W.heap.size, 0, none⟩ 1 1 [.int .i64 t.1, .int .i64 t.2.1, .int .i64 t.2.2.2, .int .i64 t.2.2.1] rfl rfl (news_of_blk (cs := #[.int .i64 t.1, .int .i64 t.2.1, .int .i64 t.2.2.2, .int .i64 t.2.2.1]) BN) (by intro u hu; simp at hu; rcases hu with rfl | rfl | rfl | rfl <;> rfl) (by simp only [maxLen]; omega) (by omega) (by simp; omega) ?_; intro v' w1 hown' hgrow _; obtain ⟨g', cap', rfl⟩ := ownsRow_succ hown'; have hv1 : Boxed w1 ob 41 v := (hvF.alloc _).kept hgrow (hvF.not_row hne hrF); have hc1 := hv1.cell; have hf1 := hv1.frozen; have hl1 := hv1.lt)
        have hup : Upd (Bx :: ob :: v.ownBlock.toList) W (w1.setCell ⟨ob, 0, none⟩ (.slice (some ⟨g', 0, none⟩) (pre.length + 1) cap')) :=
          (((UF.mono (fun y hy => .inl (by simp at hy; subst hy; simp))).alloc _).trans ((own_upd_of_grown hgrow).mono (fun y hy => .inl (List.mem_cons_of_mem _ (List.mem_cons_of_mem _ hy))))).setCell (.inl (by simp)) _
        have hS : ∀ y ∈ Bx :: ob :: v.ownBlock.toList, y = ob ∨ ob + 2 ≤ y := fun y hy => by
          rcases List.mem_cons.1 hy with rfl | hy
          · exact .inr hBx
          · rcases List.mem_cons.1 hy with rfl | hy
            · exact .inl rfl
            · exact .inr (own_blk' hrow hy).1
        have hrow2 : (w1.setCell ⟨ob, 0, none⟩ (.slice (some ⟨g', 0, none⟩) (pre.length + 1) cap')).ownsRow (ob + 2) 51 4 (.slice (some ⟨g', 0, none⟩) (pre.length + 1) cap') (pre ++ [x]).length (flat encTn ((pre ++ [x]).map (fun k => invT (L.getD k default)))) := by
          have h0 := own_upd hown' ((Upd.refl [ob] w1).setCell (p := ⟨ob, 0, none⟩) (.inl (by simp)) (.slice (some ⟨g', 0, none⟩) (pre.length + 1) cap')) (fun y hy hm => own_type hown' hv1 hne (by rw [hy]; simpa using hm))
          rw [List.length_append, List.map_append, flat_append, show [x].map (fun k => invT (L.getD k default)) = [invT (L.getD x default)] from rfl, HT.out, (invT_3 k1 k2), flat_one_]
          exact h0
        refine ⟨(((KF.trans (KeepsOthers.alloc _ _)).trans (KeepsOthers.of_grownBy hgrow fun j o ej hj => ?_)).trans (KeepsOthers.setCell _ _ _)).from _, .of_upd hup hsz hS, ⟨⟨_, hv1.set _, hrow2, trivial⟩, hB.trans (hup.below (by omega) (fun y hy => by rcases hS y hy with h | h <;> omega))⟩, Nat.le_trans hsz hup.size⟩
        have ej' : v.ownBlock = some j := ej
        obtain ⟨_, cs, hcs⟩ := own_blk' (hrF.alloc _) (b := j) (by rw [ej']; simp)
        rw [show _ = some _ from hcs] at hj
        injection hj with hj
        subst hj
        rfl
  case done =>
    rintro D ys W hD rfl ⟨⟨⟨v, hv, hrow, _⟩, hB⟩, hsz⟩ hK
    have hc0 := hv.cell
    have hrow' : Ow encTn 51 W w.heap.size v (invL L) := by
      unfold Ow
      rw [← placesB_inv, List.length_map]
      exact own_base hrow (by omega)
    gi_wp2
    refine ⟨by simp, .inl ⟨_, _, rfl, run_takeDeferred hK, ?_⟩⟩
    exact ⟨_, results_tmp rfl _ _ _, v, rfl, ownsRow_putObj hrow' _ hK rfl, by rw [← hob] at hB; exact hB.trans (belowK_b (w := w) (Nat.le_refl _) W D _ _ (by omega) hK rfl rfl)⟩
  case stop =>
    rintro D c pre W _ _ h _
    exact h.elim
/-- Invert. -/
theorem invert_ok (A : Option Addr) (n c : Nat) (L : List Tn) (w : World) (hn : L.length = n) (hlen : n ≤ 1000) (hr : Rd encTn w (.slice A n c) L) (hA : ∀ a, A = some a → L ≠ [] → a.block < w.heap.size) :
    Calls Tryd.prog 20 #[.slice A n c] w fun e w' => ∃ v, e = .returned v ∧ Ow encTn 51 w' w.heap.size v (invL L) ∧ Upd [] w w' := by
  subst hn
  refine (callsIn_wide.1 (invert_in A c L hlen w hr hA)).mono ?_
  rintro e w' ⟨v, h1, h2, h3⟩
  exact ⟨v, h1, h2, Upd.of_below (S := []) h3 (Nat.le_refl _)⟩
end Go.Proofs.YthdjbflbhgbckaaDoor

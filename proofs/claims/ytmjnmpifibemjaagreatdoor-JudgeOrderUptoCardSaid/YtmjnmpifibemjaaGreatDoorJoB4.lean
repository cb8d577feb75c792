/-
 prog.Right: what is wrong with a transaction, and where.
 A whole of its own, the first of two, a loop: plainly. No program in sight.
 cmp.Compare and cmp.Or at int: by contracts.
 From a walk that ends 'true, and nothing that was there has turned' to what a law's row asks. No program in sight.
 order.rank, order.ahead: by contracts.
 Lists of attempts: what lies in the argument's slice; order.ahead by places.
 Heaps in lists, plainly: no Go in sight.
 container/heap over one kind of thing: up, down, by contracts. What the things are is said by St; the methods come in as contracts.
 container/heap over one kind of thing: Push, Pop, by contracts.
-/
import Derived.Test.YtmjnmpifibemjaaGreatDoorJoB1
import Derived.Test.YtmjnmpifibemjaaGreatDoorJoB2
import Derived.Test.YtmjnmpifibemjaaGreatDoorJoB3
import Derived.Test.YtmjnmpifibemjaaGreatDoorJoB0
import Derived.Test.YtmjnmpifibemjaaGreatDoorProg
import Derived.ProofKit
import Derived.Carry
import Derived.OpenShut
import Derived.Deep.Slices
import Derived.Deep.Fields
import Derived.Deep.RegionHeld3
import Derived.Deep.DrawnRows
import Derived.Deep.QuietTactic
import Derived.BigQuiet
set_option linter.unusedVariables false
namespace Go.Proofs.YtmjnmpifibemjaaGreatDoor
open Go.RowKit

def rightS (ks : List Int) : Stm → Bool
 | .mk k coll reg ar an br bn body els => rightV k coll reg ar an br bn body.length els.length ks
/-- What the visitor makes of a line. -/
def stepR (ks : List Int) (s : Int × Int) (n d : Nat) (x : Stm) : Bool × (Int × Int) :=
 let r : Int × Int := if 100 < n then (8, n) else if 8 < d then (10, n) else if !rightS ks x then (9, n) else s
 (r.1 == 0, r)
theorem Stms.len {w : World} {B : Nat} {A : Option Addr} {n c : Nat} {l : List Stm} (h : Stms w B (.slice A n c) l) : l.length = n ∧ n ≤ 9223372036854775807 := by
 cases h
 constructor
 ·assumption
 ·omega
theorem Src.below {w w' : World} {s m : Nat} {x : Value} {news : List Value} (h : Src w s x m news) (hb : Below w.heap.size w w') (hz : w.heap.size ≤ w'.heap.size) : Src w' s x m news := by
 obtain ⟨h1, A, c, rfl, h2⟩ := h
 refine ⟨h1, A, c, rfl, fun j u hj => ?_⟩
 obtain ⟨ad, rfl, hl, hc⟩ := h2 j u hj
 exact ⟨ad, rfl, by omega, (hb.cell (by rw [block_add]; exact hl)).trans hc⟩

theorem UpdP.to_upd {O : Nat → Prop} {w w1 w2 : World} (h : UpdP O w1 w2) (h0 : Upd [] w w1) (hO : ∀ x, O x → w.heap.size ≤ x) : Upd [] w w2 :=
 ⟨h.os.trans h0.os, h.tape.trans h0.tape, h.output.trans h0.output, Nat.le_trans h0.size h.size, fun k hk hn => (h.keep k (Nat.lt_of_lt_of_le hk h0.size) (fun ho => by have := hO k ho; omega)).trans (h0.keep k hk hn)⟩

/-- What Right's visitor keeps: e its box of the error, kb that of the kinds, over a world w0 that it leaves alone. -/
structure RightSt (w0 : World) (e kb : Nat) (A : Option Addr) (n c : Nat) (ks : List Int) (p : Nat) (w : World) (s : Int × Int) : Prop where
 box : ∃ v, Blk w e 45 #[v] ∧ ErrV w v s.1 s.2 ∧ ∀ g, v = .iface 96 (.pointer (some ⟨g, 0, none⟩)) → g ≠ p
 kinds : Blk w kb 22 #[.slice A n c]
 bel : Below w0.heap.size w0 w
 src : Src w0 1 (.slice A n c) n (ks.map (Value.int .i64))
 en : w0.heap.size ≤ e
 kn : w0.heap.size ≤ kb
 ep : e ≠ p
 kp : kb ≠ p
 pl : p < w.heap.size
 pn : w0.heap.size ≤ p

section
variable {w0 : World} {eb kb : Nat} {A : Option Addr} {nn c : Nat} {ks : List Int} {p : Nat} {w w' : World} {s : Int × Int}
theorem RightSt.upd (h : RightSt w0 eb kb A nn c ks p w s) (hu : Upd [p] w w') : RightSt w0 eb kb A nn c ks p w' s := by
 obtain ⟨⟨v, h1, h2, h3⟩, h4, h5, h6, h7, h8, h9, h10, h11, h12⟩ := h
 refine ⟨⟨v, h1.upd hu (by simpa using h9), ?_, h3⟩, h4.upd hu (by simpa using h10), h5.trans (hu.below h5.size (by simpa using h12)), h6, h7, h8, h9, h10, Nat.lt_of_lt_of_le h11 hu.size, h12⟩
 rcases h2 with h | h | ⟨g, e, hb, h⟩
 ·exact .inl h
 ·exact .inr (.inl h)
 ·exact .inr (.inr ⟨g, e, hb.upd hu (by simpa using h3 g e), h⟩)
theorem RightSt.upd0 (h : RightSt w0 eb kb A nn c ks p w s) (hu : Upd [] w w') : RightSt w0 eb kb A nn c ks p w' s := h.upd (hu.mono (by simp))
theorem RightSt.srcOf (h : RightSt w0 eb kb A nn c ks p w s) : Src w 1 (.slice A nn c) nn (ks.map (Value.int .i64)) := h.src.below h.bel h.bel.size
/-- A fault is told. -/
theorem RightSt.fault (h : RightSt w0 eb kb A nn c ks p w s) (H : Nat) (no at_ : Int) (h1 : 1 ≤ no) (h2 : no ≤ 17) (hH : w.heap.size ≤ H) (hu : Upd [eb] w w')
 (hb : ∀ v, Blk w eb 45 #[v] → Blk w' eb 45 #[.iface 96 (.pointer (some ⟨H, 0, none⟩))]) (hf : Blk w' H 100 #[.int .i64 at_, .int .i64 no]) :
 RightSt w0 eb kb A nn c ks p w' (no, at_) ∧ UpdP (fun k => k = eb) w w' := by
 obtain ⟨⟨v, b1, b2, b3⟩, h4, h5, h6, h7, h8, h9, h10, h11, h12⟩ := h
 refine ⟨⟨⟨_, hb v b1, ErrV.fault hf h1 h2, fun g e => ?_⟩, h4.upd hu ?_, h5.trans (hu.below h5.size (by simpa using h7)), h6, h7, h8, h9, h10, Nat.lt_of_lt_of_le h11 hu.size, h12⟩, .of_upd hu (by simp)⟩
 ·injection e with _ e
  injection e with e
  injection e with e
  injection e with e
  omega
 ·simp only [List.mem_singleton]
  exact fun e => (Blk.ne_ h4 b1 (by decide)) e
end

set_option maxRecDepth 100000 in
set_option maxHeartbeats 2000000 in
theorem right_clo (w0 : World) (eb kb : Nat) (A : Option Addr) (nn c : Nat) (ks : List Int) (p : Nat) (hnn : nn ≤ 1000000) (w : World) (s : Int × Int) (n d : Nat) (x : Stm) (v : Value) (hs : RightSt w0 eb kb A nn c ks p w s) (hv : StmV w w0.heap.size x v) (hn : n ≤ 1000000) (hd : d ≤ 1000000) :
 Calls Tryz.prog 103 #[.int .i64 n, .int .i64 d, v, .pointer (some ⟨eb, 0, none⟩), .pointer (some ⟨kb, 0, none⟩)] w fun e w' =>
  e = .returned (.bool (stepR ks s n d x).1) ∧ RightSt w0 eb kb A nn c ks p w' (stepR ks s n d x).2 ∧ UpdP (fun k => k = eb) w w' := by
 obtain ⟨k, coll, reg, ar, an, br, bn, bo, el⟩ := x
 obtain ⟨vb, ve, rfl, hb, he⟩ := hv
 obtain ⟨Ab, nb, cb, rfl⟩ := hb.slice
 obtain ⟨Ae, ne, ce, rfl⟩ := he.slice
 obtain ⟨hlb, hlb2⟩ := hb.len
 obtain ⟨hle, hle2⟩ := he.len
 subst hlb hle
 obtain ⟨ev, hbx, hev, _⟩ := hs.box
 have e0 : w.cell? ⟨eb, 0, none⟩ = some ev := hbx.cell 0
 have e1 : w.frozen? ⟨eb, 0, none⟩ = false := hbx.frozen 0
 have el1 : eb < w.heap.size := hbx.lt
 have el2 : eb < w.heap.size + 1 := by omega
 have k0 : w.cell? ⟨kb, 0, none⟩ = some (.slice A nn c) := hs.kinds.cell 0
 have kl1 : kb < w.heap.size := hs.kinds.lt
 have HS := Lib.hid hs
 have HEV := Lib.hid hev
 clear hs hb he hbx hev
 unfold stmCells
 have AL : Hid (∀ o, Upd [] w (w.alloc o)) := Lib.hid (fun o => (Upd.refl [] w).alloc o)
 have SZ : Hid (∀ o : Obj, (w.alloc o).heap.size = w.heap.size + 1) := Lib.hid (fun o => by simp)
 by_cases h1 : 100 < n
 ·have h1' : decide ((100 : Int) < n) = true := by simp; omega
  have HR : Hid (stepR ks s n d (.mk k coll reg ar an br bn bo el) = (false, (8, (n : Int)))) := Lib.hid (by unfold stepR; simp [h1])
  go_enter Tryz.func103, Tryz.ntmps103
  go_wp2_with fail
  go_ret
  rw [HR.out]
  obtain ⟨r1, r2⟩ := HS.out.fault (w' := ((w.setCell ⟨eb, 0, none⟩ (.iface 96 (.pointer (some ⟨w.heap.size + 1, 0, none⟩)))).alloc (.cells #[.int .i64 k, .int .i64 coll, .int .i64 reg, .int .i64 ar, .int .i64 an, .int .i64 br, .int .i64 bn, .slice Ab bo.length cb, .slice Ae el.length ce] 62)).alloc (.cells #[.int .i64 n, .int .i64 8] 100)) (w.heap.size + 1) 8 n (by omega) (by omega) (by omega) ((((Upd.refl [eb] w).setCell (.inl (by simp)) _).alloc _).alloc _) (fun v h => ((h.set_eq rfl).alloc _).alloc _) (Blk.newAt _ _ (by simp [World.setCell]))
  exact ⟨rfl, r1, r2⟩
 ·have h1' : decide ((100 : Int) < n) = false := by simp; omega
  by_cases h2 : 8 < d
  ·have h2' : decide ((8 : Int) < d) = true := by simp; omega
   have HR : Hid (stepR ks s n d (.mk k coll reg ar an br bn bo el) = (false, (10, (n : Int)))) := Lib.hid (by unfold stepR; simp [h1, h2])
   go_enter Tryz.func103, Tryz.ntmps103
   go_wp2_with fail
   go_ret
   rw [HR.out]
   obtain ⟨r1, r2⟩ := HS.out.fault (w' := ((w.setCell ⟨eb, 0, none⟩ (.iface 96 (.pointer (some ⟨w.heap.size + 1, 0, none⟩)))).alloc (.cells #[.int .i64 k, .int .i64 coll, .int .i64 reg, .int .i64 ar, .int .i64 an, .int .i64 br, .int .i64 bn, .slice Ab bo.length cb, .slice Ae el.length ce] 62)).alloc (.cells #[.int .i64 n, .int .i64 10] 100)) (w.heap.size + 1) 10 n (by omega) (by omega) (by omega) ((((Upd.refl [eb] w).setCell (.inl (by simp)) _).alloc _).alloc _) (fun v h => ((h.set_eq rfl).alloc _).alloc _) (Blk.newAt _ _ (by simp [World.setCell]))
   exact ⟨rfl, r1, r2⟩
  ·have h2' : decide ((8 : Int) < d) = false := by simp; omega
   obtain ⟨rv, hrv⟩ : ∃ y, rightV k coll reg ar an br bn bo.length el.length ks = y := ⟨_, rfl⟩
   have HRV := Lib.hid hrv
   have HR : Hid (stepR ks s n d (.mk k coll reg ar an br bn bo el) = (if rv then (s.1 == 0, s) else (false, (9, (n : Int))))) := Lib.hid (by unfold stepR rightS; simp [h1, h2, hrv]; cases rv <;> simp)
   clear hrv
   go_enter Tryz.func103, Tryz.ntmps103
   go_wp2_with fail
   refine (right_ok k coll reg ar an br bn Ab Ae bo.length cb el.length ce A nn c ks _ (HS.out.srcOf.upd0 (AL.out _)) hnn (by omega) (by omega)).mono ?_; rintro e w1 ⟨rfl, u1⟩
   rw [HRV.out]
   have U1 := Lib.hid ((AL.out (.cells #[.int .i64 k, .int .i64 coll, .int .i64 reg, .int .i64 ar, .int .i64 an, .int .i64 br, .int .i64 bn, .slice Ab bo.length cb, .slice Ae el.length ce] 62)).trans u1)
   have S1 := Lib.hid (HS.out.upd0 U1.out)
   clear u1 e0 e1 el1 el2 k0 kl1 HS HEV
   obtain ⟨ev1, hbx, hev, _⟩ := S1.out.box
   have e0 : w1.cell? ⟨eb, 0, none⟩ = some ev1 := hbx.cell 0
   have e1 : w1.frozen? ⟨eb, 0, none⟩ = false := hbx.frozen 0
   have el1 : eb < w1.heap.size := hbx.lt
   have el2 : eb < w1.heap.size + 1 := by omega
   have HEV := Lib.hid hev
   clear hbx hev
   cases rv with
   | false =>
     go_wp2_with fail
     go_ret
     rw [HR.out]
     obtain ⟨r1, r2⟩ := S1.out.fault (w' := (w1.setCell ⟨eb, 0, none⟩ (.iface 96 (.pointer (some ⟨w1.heap.size, 0, none⟩)))).alloc (.cells #[.int .i64 n, .int .i64 9] 100)) w1.heap.size 9 n (by omega) (by omega) (by omega) (((Upd.refl [eb] w1).setCell (.inl (by simp)) _).alloc _) (fun v h => (h.set_eq rfl).alloc _) (Blk.newAt _ _ (by simp [World.setCell]))
     exact ⟨rfl, r1, (UpdP.of_upd U1.out (by simp)).trans r2 (fun x hx => .inl hx)⟩
   | true =>
     rcases HEV.out with ⟨rfl, q, _⟩ | ⟨rfl, q, _⟩ | ⟨g, rfl, _, q, _⟩
     ·have HQ := Lib.hid q
      clear q
      go_wp2_with fail
      go_ret
      rw [HR.out]
      exact ⟨by simp [HQ.out], by simpa using S1.out, .of_upd U1.out (by simp)⟩
     ·have HQ : Hid ((s.1 == 0) = false) := Lib.hid (by have : ¬ s.1 = 0 := by omega
                                                        simpa using this)
      clear q
      go_wp2_with fail
      go_ret
      rw [HR.out]
      exact ⟨by simp [HQ.out], by simpa using S1.out, .of_upd U1.out (by simp)⟩
     ·have HQ : Hid ((s.1 == 0) = false) := Lib.hid (by have : ¬ s.1 = 0 := by omega
                                                        simpa using this)
      clear q
      go_wp2_with fail
      go_ret
      rw [HR.out]
      exact ⟨by simp [HQ.out], by simpa using S1.out, .of_upd U1.out (by simp)⟩

set_option maxRecDepth 100000 in
theorem right_visitor (w0 : World) (eb kb : Nat) (A : Option Addr) (nn c : Nat) (ks : List Int) (p : Nat) (hnn : nn ≤ 1000000) :
 Visitor (Int × Int) 103 #[.pointer (some ⟨eb, 0, none⟩), .pointer (some ⟨kb, 0, none⟩)] w0.heap.size p (RightSt w0 eb kb A nn c ks p) (fun _ k => k = eb) (stepR ks) where
 enter := fun args w => rfl
 keep := fun w w' s h hu => h.upd hu
 keepOwn := fun _ _ _ _ _ _ h => h
 ownB := fun w s k h e => by
  subst e
  exact ⟨h.en, h.ep, by obtain ⟨v, hb, _⟩ := h.box; exact hb.lt⟩
 visit := fun w s n d x v hs hv _ hn hd => (right_clo w0 eb kb A nn c ks p hnn w s n d x v hs hv hn hd).mono fun e w' ⟨h1, h2, h3⟩ => ⟨h1, h2, h3, fun k hk => .inl hk⟩

/-- What is wrong with a transaction, and where. -/
def rightR (ks : List Int) (l : List Stm) : Int × Int := (walkF (stepR ks) (linesOf 1 l) (0, 0) 0).2.1
set_option maxRecDepth 100000 in
set_option maxHeartbeats 2000000 in
theorem prog_right_ok (l : List Stm) (v : Value) (A : Option Addr) (n c : Nat) (ks : List Int) (w : World) (hv : Stms w w.heap.size v l) (hk : Src w 1 (.slice A n c) n (ks.map (Value.int .i64))) (hn : n ≤ 1000000) (hl : sizes l ≤ 900000) :
 Calls Tryz.prog 86 #[v, .slice A n c] w fun e w' => ∃ v', e = .returned v' ∧ ErrV w' v' (rightR ks l).1 (rightR ks l).2 ∧ Upd [] w w' := by
 have HV := Lib.hid hv
 have HK := Lib.hid hk
 obtain ⟨Av, nv, cv, rfl⟩ := hv.slice
 clear hv hk
 go_enter Tryz.func86, Tryz.ntmps86
 go_wp2_with fail
 have U3 : Hid (Upd [] w (((w.alloc (.cells #[.slice A n c] 22)).alloc (.cells #[.nilIface] 45)).alloc (.cells #[.int .i64 0, .func (.func 103) #[] #[.pointer (some ⟨w.heap.size + 1, 0, none⟩), .pointer (some ⟨w.heap.size, 0, none⟩)]] 202))) := Lib.hid ((((Upd.refl [] w).alloc _).alloc _).alloc _)
 have b1 : Hid (Blk (((w.alloc (.cells #[.slice A n c] 22)).alloc (.cells #[.nilIface] 45)).alloc (.cells #[.int .i64 0, .func (.func 103) #[] #[.pointer (some ⟨w.heap.size + 1, 0, none⟩), .pointer (some ⟨w.heap.size, 0, none⟩)]] 202)) w.heap.size 22 #[.slice A n c]) := Lib.hid (((Blk.new w _ _).alloc _).alloc _)
 have b2 : Hid (Blk (((w.alloc (.cells #[.slice A n c] 22)).alloc (.cells #[.nilIface] 45)).alloc (.cells #[.int .i64 0, .func (.func 103) #[] #[.pointer (some ⟨w.heap.size + 1, 0, none⟩), .pointer (some ⟨w.heap.size, 0, none⟩)]] 202)) (w.heap.size + 1) 45 #[.nilIface]) := Lib.hid ((Blk.newAt _ _ (by simp)).alloc _)
 have b3 : Hid (Blk (((w.alloc (.cells #[.slice A n c] 22)).alloc (.cells #[.nilIface] 45)).alloc (.cells #[.int .i64 0, .func (.func 103) #[] #[.pointer (some ⟨w.heap.size + 1, 0, none⟩), .pointer (some ⟨w.heap.size, 0, none⟩)]] 202)) (w.heap.size + 1 + 1) 202 #[.int .i64 ((0 : Nat) : Int), .func (.func 103) #[] #[.pointer (some ⟨w.heap.size + 1, 0, none⟩), .pointer (some ⟨w.heap.size, 0, none⟩)]]) := Lib.hid (Blk.newAt _ _ (by simp))
 generalize (((w.alloc (.cells #[.slice A n c] 22)).alloc (.cells #[.nilIface] 45)).alloc (.cells #[.int .i64 0, .func (.func 103) #[] #[.pointer (some ⟨w.heap.size + 1, 0, none⟩), .pointer (some ⟨w.heap.size, 0, none⟩)]] 202)) = w3 at *
 have bl : Hid (Below w.heap.size w w3) := Lib.hid (U3.out.below (Nat.le_refl _) (by simp))
 have hc := walk_ok (right_visitor w (w.heap.size + 1) w.heap.size A n c ks (w.heap.size + 1 + 1) hn) (by omega) (sizes l + 1) l (.slice Av nv cv) w3 (0, 0) 0 1 (by omega) (HV.out.belowW bl.out)
  ⟨⟨_, b2.out, .nil _, fun g e => by cases e⟩, b1.out, bl.out, HK.out, by omega, by omega, by omega, by omega, b3.out.lt, by omega⟩ b3.out U3.out.size (by omega) (by omega)
 rw [show ((1 : Nat) : Int) = 1 from rfl] at hc
 refine hc.mono ?_; clear hc; rintro e w4 ⟨rfl, st, bp, up, _⟩
 obtain ⟨v', hb, hev, _⟩ := st.box
 have e0 : w4.cell? ⟨w.heap.size + 1, 0, none⟩ = some v' := hb.cell 0
 have HEV := Lib.hid hev
 have U4 : Hid (Upd [] w w4) := Lib.hid (up.to_upd U3.out (fun x hx => by rcases hx with rfl | rfl <;> omega))
 clear st bp up hb hev bl b1 b2 b3 U3
 go_wp2_with fail
 go_ret
 exact ⟨v', rfl, HEV.out, U4.out⟩
end Go.Proofs.YtmjnmpifibemjaaGreatDoor

namespace Go.Proofs.YtmjnmpifibemjaaGreatDoor.Ev
open Assoc MP

def r0 (s : MS) : RS := ⟨s, [0, 0, 0, 0, 0, 0, 0, 0, 0], [], 0⟩
def endC (n : Int) : Int := if n = 0 then 1 else if n = 5 then 0 else n
/-- What Run answers: the error's number, the end, what is told, what there is behind it. -/
def errE (s : MS) (l : List Stm) : Int := if (rightR s.K l).1 ≠ 0 then (rightR s.K l).1 else if (evL l (r0 s)).2 = 5 then 8 else 0
def endE (s : MS) (l : List Stm) : Int := if errE s l = 0 then endC (evL l (r0 s)).2 else 0
def toldE (s : MS) (l : List Stm) : List Int := if errE s l = 0 then (evL l (r0 s)).1.told else []
def finE (s : MS) (l : List Stm) : MS := if (evL l (r0 s)).2 = 0 then (evL l (r0 s)).1.s else s
def Cod (n : Int) : Prop := n = 0 ∨ n = 2 ∨ n = 3 ∨ n = 4 ∨ n = 5
theorem cod_iter {f : RS → RS × Int} (h : ∀ r, Cod (f r).2) : ∀ n r, Cod (iterR f n r).2
 | 0, r => .inl rfl
 | n + 1, r => by
   unfold iterR
   split
   ·exact cod_iter h n _
   ·exact h r
theorem cod_ask (k c reg ar an br bn : Int) (r : RS) : Cod (askR k c reg ar an br bn r).2 := by
 unfold askR
 repeat' split
 all_goals first | exact .inl rfl | exact .inr (.inr (.inr (.inr rfl)))
mutual
theorem cod_ev : ∀ (x : Stm) (r : RS), Cod (ev x r).2
 | .mk k c reg ar an br bn b e, r => by
   have hb := cod_evL b
   have he := cod_evL e
   rw [ev_mk]
   split
   ·exact .inl rfl
   split
   ·exact .inl rfl
   split
   ·split
    ·exact hb r
    ·exact he r
   split
   ·exact cod_iter hb _ _
   split
   ·split
    ·exact .inl rfl
    ·exact hb r
   split
   ·split
    ·exact he _
    ·exact hb r
   split
   ·exact .inr (.inr (.inl rfl))
   split
   ·exact .inr (.inl rfl)
   exact cod_ask ..
theorem cod_evL : ∀ (l : List Stm) (r : RS), Cod (evL l r).2
 | [], r => by rw [evL_nil]; exact .inl rfl
 | x :: l, r => by
   have hx := cod_ev x
   have hl := cod_evL l
   rw [evL_cons]
   split
   ·exact .inr (.inr (.inr (.inl rfl)))
   split
   ·exact hl _
   ·exact hx _
end
section
variable {s : MS} {l p q : List Stm}
end
end Go.Proofs.YtmjnmpifibemjaaGreatDoor.Ev

namespace Go.Proofs.YtmjnmpifibemjaaGreatDoor
open Go.RowKit

/-- What cmp.Compare says of two ints. -/
def cmpI (a b : Int) : Int := if a < b then -1 else if b < a then 1 else 0

theorem isNaN_ok (a : Int) (w : World) : Calls Tryz.prog 101 #[.int .i64 a] w fun e w' => e = .returned (.bool false) ∧ w = w' := by
 have h : (a != a) = false := by simp
 go_enter Tryz.func101, Tryz.ntmps101
 go_wp2_with fail
 go_ret
 exact ⟨rfl, rfl⟩

theorem compare_ok (a b : Int) (w : World) : Calls Tryz.prog 81 #[.int .i64 a, .int .i64 b] w fun e w' => e = .returned (.int .i64 (cmpI a b)) ∧ w = w' := by
 have hc : ∀ v, v = cmpI a b → Calls Tryz.prog 81 #[.int .i64 a, .int .i64 b] w (fun e w' => e = .returned (.int .i64 v) ∧ w = w') → Calls Tryz.prog 81 #[.int .i64 a, .int .i64 b] w fun e w' => e = .returned (.int .i64 (cmpI a b)) ∧ w = w' := by
  rintro v rfl h; exact h
 rcases Int.lt_trichotomy a b with h | h | h
 ·refine hc (-1) (by unfold cmpI; rw [if_pos h]) ?_
  go_enter Tryz.func81, Tryz.ntmps81
  go_wp2_with ((go_at_call 101); (refine (isNaN_ok _ _).mono ?_); (rintro e w' ⟨rfl, rfl⟩))
  go_ret
  exact ⟨rfl, rfl⟩
 ·have h1 : ¬ a < b := by omega
  have h2 : ¬ b < a := by omega
  refine hc 0 (by unfold cmpI; rw [if_neg h1, if_neg h2]) ?_
  clear h
  go_enter Tryz.func81, Tryz.ntmps81
  go_wp2_with ((go_at_call 101); (refine (isNaN_ok _ _).mono ?_); (rintro e w' ⟨rfl, rfl⟩))
  go_ret
  exact ⟨rfl, rfl⟩
 ·have h1 : ¬ a < b := by omega
  refine hc 1 (by unfold cmpI; rw [if_neg h1, if_pos h]) ?_
  go_enter Tryz.func81, Tryz.ntmps81
  go_wp2_with ((go_at_call 101); (refine (isNaN_ok _ _).mono ?_); (rintro e w' ⟨rfl, rfl⟩))
  go_ret
  exact ⟨rfl, rfl⟩

/-- What cmp.Or says of some ints: the first that is not 0. -/
def orL : List Int → Int
 | [] => 0
 | a :: l => if a = 0 then orL l else a
theorem orL_drop (xs : List Int) (k : Nat) (x : Int) (h : xs[k]? = some x) : orL (xs.drop k) = if x = 0 then orL (xs.drop (k + 1)) else x := by
 obtain ⟨hk, rfl⟩ := List.getElem?_eq_some_iff.1 h
 rw [List.drop_eq_getElem_cons hk]
 rfl

set_option maxHeartbeats 400000 in
theorem or_ok (g c : Nat) (xs : List Int) (w : World) (hb : Blk w g 3 (xs.map (Value.int .i64)).toArray) (hn : xs.length ≤ 1000) :
 Calls Tryz.prog 80 #[.slice (some ⟨g, 0, none⟩) xs.length c] w fun e w' => e = .returned (.int .i64 (orL xs)) ∧ w = w' := by
 generalize hX : orL xs = X
 have HX := Lib.hid hX
 clear hX
 obtain ⟨n, HN⟩ : ∃ n, Hid (xs.length = n) := ⟨_, rfl⟩
 rw [HN.out]
 rw [HN.out] at hn
 go_enter Tryz.func80, Tryz.ntmps80
 go_wp2_with fail
 go_loop [8] (fun v => ∃ k : Nat, k ≤ n ∧ v = .int .i64 k ∧ Hid (orL (xs.drop k) = X)) (fun v => n - (intOf v).toNat)
 case atStart => exact ⟨0, by omega, rfl, Lib.hid (by simpa using HX.out)⟩
 case round =>
  obtain ⟨k, hk, rfl, hX⟩ := hrel
  by_cases hlt : k < n
  ·obtain ⟨x, hx⟩ : ∃ x, xs[k]? = some x := ⟨_, List.getElem?_eq_getElem (by have := HN.out; omega)⟩
   have f1 : w.cell? ⟨g, k, none⟩ = some (.int .i64 x) := by rw [hb.cell]; simp [hx]
   have hd := orL_drop xs k x hx
   rw [hX.out] at hd
   have HD := Lib.hid hd
   clear hd hx
   by_cases h0 : x = 0
   ·subst h0
    go_wp2_with fail
    go_round
    case rel => exact ⟨k + 1, by omega, by go_num, Lib.hid (by rw [HD.out]; rfl)⟩
    case measure => simp [intOf]; omega
   ·have h1 : (x != 0) = true := by simpa using h0
    have H0 := Lib.hid h0
    clear h0
    go_wp2_with fail
    go_ret
    exact ⟨by rw [HD.out, if_neg H0.out]; rfl, rfl⟩
  ·have : k = n := by omega
   subst this
   have hz : X = 0 := by rw [← hX.out, List.drop_eq_nil_of_le (by have := HN.out; omega)]; rfl
   have HZ := Lib.hid hz
   clear hz
   go_wp2_with fail
   go_ret
   exact ⟨by rw [HZ.out]; rfl, rfl⟩
end Go.Proofs.YtmjnmpifibemjaaGreatDoor

namespace Go.Proofs.YtmjnmpifibemjaaGreatDoor
open Go.RowKit Go.WideShapes Go.ChangeShapes Go.Deep

section
variable {H : Type} {enc : TypeId × Value → H} {P : Program}
theorem trodAll_stays (hl : laidOutB P = true) {W W' : World} (hb : Below W.heap.size W W') {sp : Nat → Bool} :
 ∀ {ts : List TypeId} {vs : List Value} {ds : List (DataW H)} {ps : List MemPlace}, (∀ t ∈ ts, P.readableRec t = true ∧ t < P.types.size) →
   DataW.TrodAll enc P W 0 (fun _ => true) true ts vs ds ps → (∀ p ∈ ps, p.block < W.heap.size ∧ sp p.block = true) → DataW.TrodAll enc P W' 0 sp true ts vs ds ps
 | [], [], [], _, _, h, _ => h
 | _ :: _, _ :: _, _ :: _, _, ht, ⟨p, q, h1, h2, e⟩, hs =>
   ⟨p, q, WideElems.Trod_stays hl (ht _ (List.mem_cons_self ..)).1 (ht _ (List.mem_cons_self ..)).2 h1 (fun x hx => hb.same (hs x (by rw [e]; exact List.mem_append_left _ hx)).1) (fun x hx => (hs x (by rw [e]; exact List.mem_append_left _ hx)).2),
     trodAll_stays hl hb (fun t h => ht t (List.mem_cons_of_mem _ h)) h2 (fun x hx => hs x (by rw [e]; exact List.mem_append_right _ hx)), e⟩

theorem law_post {fn : Func} {s : ChangeSpec} {tb : TypeId} {W W' : World} {args : Array Value} {ds gs : List (DataW H)} {before : List MemPlace} (hl : laidOutB P = true)
 (ht : fn.params.toList.all (fun t => P.readableRec t && decide (t < P.types.size)) = true) (hv : s.vars = []) (hrt : fn.resultTypes = #[tb]) (hb : P.underlying tb = some .bool)
 (hspec : s.fn H (ds ++ []) = { results := [.lit (.bool true)], args := ds })
 (hW : DataW.Whole enc P fn.params.toList s.vars false W args.toList ds gs before) (hbel : Below W.heap.size W W') :
 s.post enc P fn false true false false W args (.bool true) W' := by
 have hW0 := hW
 have hlt := fun x hx => hW.lt (p := x) hx
 obtain ⟨p, q, hA, hV, rfl, hfz, hnd⟩ := hW
 have hg : gs = [] ∧ q = [] := by
  rw [hv] at hV
  exact trodVars_none hV
 obtain ⟨rfl, rfl⟩ := hg
 simp only [List.append_nil] at hW0 hlt
 refine ⟨ds, [], p, [], p, [], hW0, ?_, ?_, ?_, ?_, fun h => by cases h⟩
 ·rw [hspec, hrt]
  exact trodAll_cons_mk (shut_bool hb true) trodAll_mk0
 ·rw [hspec]
  refine trodAll_stays hl hbel (fun t h => ?_) hA (fun x hx => ⟨hlt x hx, by simpa using hlt x hx⟩)
  have := List.all_eq_true.1 ht t h
  simpa using this
 ·rw [hspec, hv]
  rfl
 ·exact hbel.frame _
end

section
variable {H : Type} {enc : TypeId × Value → H} {P : Program} {w : World} {base : Nat} {spare : Nat → Bool} {held : Bool}
end
end Go.Proofs.YtmjnmpifibemjaaGreatDoor

set_option linter.unusedSimpArgs false
namespace Go.Proofs.YtmjnmpifibemjaaGreatDoor
open Go.RowKit
/-- What rank says. -/
def rk (d : Bool) : Int := if d then 0 else 1
theorem rank_ok (a b c : Int) (d : Bool) (e f : Int) (w : World) : Calls Tryz.prog 82 #[.agg #[.int .i64 a, .int .i64 b, .int .i64 c, .bool d, .int .i64 e, .int .i64 f]] w fun e w' => e = .returned (.int .i64 (rk d)) ∧ Upd [] w w' := by
 cases d with
 | true =>
   go_enter Tryz.func82, Tryz.ntmps82
   go_wp2_with fail
   go_ret
   exact ⟨rfl, (Upd.refl [] w).alloc _⟩
 | false =>
   go_enter Tryz.func82, Tryz.ntmps82
   go_wp2_with fail
   go_ret
   exact ⟨rfl, (Upd.refl [] w).alloc _⟩
set_option maxHeartbeats 2000000 in
theorem ahead_ok (ad : Addr) (n c i j : Nat) (hi : i < n) (hj : j < n) (a1 a2 a3 : Int) (a4 : Bool) (a5 a6 b1 b2 b3 : Int) (b4 : Bool) (b5 b6 : Int) (w : World)
 (x1 : w.cell? (ad.add (i * 6)) = some (.int .i64 a1)) (x2 : w.cell? ⟨(ad.add (i * 6)).block, (ad.add (i * 6)).off + 1, none⟩ = some (.int .i64 a2)) (x3 : w.cell? ⟨(ad.add (i * 6)).block, (ad.add (i * 6)).off + 2, none⟩ = some (.int .i64 a3)) (x4 : w.cell? ⟨(ad.add (i * 6)).block, (ad.add (i * 6)).off + 3, none⟩ = some (.bool a4)) (x5 : w.cell? ⟨(ad.add (i * 6)).block, (ad.add (i * 6)).off + 4, none⟩ = some (.int .i64 a5)) (x6 : w.cell? ⟨(ad.add (i * 6)).block, (ad.add (i * 6)).off + 5, none⟩ = some (.int .i64 a6))
 (y1 : w.cell? (ad.add (j * 6)) = some (.int .i64 b1)) (y2 : w.cell? ⟨(ad.add (j * 6)).block, (ad.add (j * 6)).off + 1, none⟩ = some (.int .i64 b2)) (y3 : w.cell? ⟨(ad.add (j * 6)).block, (ad.add (j * 6)).off + 2, none⟩ = some (.int .i64 b3)) (y4 : w.cell? ⟨(ad.add (j * 6)).block, (ad.add (j * 6)).off + 3, none⟩ = some (.bool b4)) (y5 : w.cell? ⟨(ad.add (j * 6)).block, (ad.add (j * 6)).off + 4, none⟩ = some (.int .i64 b5)) (y6 : w.cell? ⟨(ad.add (j * 6)).block, (ad.add (j * 6)).off + 5, none⟩ = some (.int .i64 b6)) :
 Calls Tryz.prog 53 #[.slice (some ad) n c, .int .i64 i, .int .i64 j] w fun e w' => e = .returned (.bool (decide (orL [cmpI a3 b3, cmpI (rk a4) (rk b4), cmpI a6 b6, cmpI i j] < 0))) ∧ Upd [] w w' := by
 have n1 := World.new_ne w _ x1
 have n2 := World.new_ne w _ x2
 have n3 := World.new_ne w _ x3
 have n4 := World.new_ne w _ x4
 have n5 := World.new_ne w _ x5
 have n6 := World.new_ne w _ x6
 have n7 := World.new_ne w _ y1
 have n8 := World.new_ne w _ y2
 have n9 := World.new_ne w _ y3
 have n10 := World.new_ne w _ y4
 have n11 := World.new_ne w _ y5
 have n12 := World.new_ne w _ y6
 go_enter Tryz.func53, Tryz.ntmps53
 go_wp2_with fail
 go_region_held3 (fun W => W.cell? (ad.add (i * 6)) = some (.int .i64 a1) ∧ W.cell? ⟨(ad.add (i * 6)).block, (ad.add (i * 6)).off + 1, none⟩ = some (.int .i64 a2) ∧ W.cell? ⟨(ad.add (i * 6)).block, (ad.add (i * 6)).off + 2, none⟩ = some (.int .i64 a3) ∧ W.cell? ⟨(ad.add (i * 6)).block, (ad.add (i * 6)).off + 3, none⟩ = some (.bool a4) ∧ W.cell? ⟨(ad.add (i * 6)).block, (ad.add (i * 6)).off + 4, none⟩ = some (.int .i64 a5) ∧ W.cell? ⟨(ad.add (i * 6)).block, (ad.add (i * 6)).off + 5, none⟩ = some (.int .i64 a6) ∧ W.cell? (ad.add (j * 6)) = some (.int .i64 b1) ∧ W.cell? ⟨(ad.add (j * 6)).block, (ad.add (j * 6)).off + 1, none⟩ = some (.int .i64 b2) ∧ W.cell? ⟨(ad.add (j * 6)).block, (ad.add (j * 6)).off + 2, none⟩ = some (.int .i64 b3) ∧ W.cell? ⟨(ad.add (j * 6)).block, (ad.add (j * 6)).off + 3, none⟩ = some (.bool b4) ∧ W.cell? ⟨(ad.add (j * 6)).block, (ad.add (j * 6)).off + 4, none⟩ = some (.int .i64 b5) ∧ W.cell? ⟨(ad.add (j * 6)).block, (ad.add (j * 6)).off + 5, none⟩ = some (.int .i64 b6)) (go_keep) (fail)
 all_goals go_wp2_with fail
 all_goals clear n1 n2 n3 n4 n5 n6 n7 n8 n9 n10 n11 n12 x1 x2 x3 x4 x5 x6 y1 y2 y3 y4 y5 y6
 ·have bF : Blk (((w.alloc (.cells #[.int .i64 a1, .int .i64 a2, .int .i64 a3, .bool a4, .int .i64 a5, .int .i64 a6] 39)).alloc (.cells #[.int .i64 b1, .int .i64 b2, .int .i64 b3, .bool b4, .int .i64 b5, .int .i64 b6] 39)).drew) w.heap.size 39 #[.int .i64 a1, .int .i64 a2, .int .i64 a3, .bool a4, .int .i64 a5, .int .i64 a6] := ((Blk.new w 39 _).alloc _).drew
  have bL : Blk (((w.alloc (.cells #[.int .i64 a1, .int .i64 a2, .int .i64 a3, .bool a4, .int .i64 a5, .int .i64 a6] 39)).alloc (.cells #[.int .i64 b1, .int .i64 b2, .int .i64 b3, .bool b4, .int .i64 b5, .int .i64 b6] 39)).drew) (w.heap.size + 1) 39 #[.int .i64 b1, .int .i64 b2, .int .i64 b3, .bool b4, .int .i64 b5, .int .i64 b6] := by have := Blk.new (w.alloc (.cells #[.int .i64 a1, .int .i64 a2, .int .i64 a3, .bool a4, .int .i64 a5, .int .i64 a6] 39)) 39 #[.int .i64 b1, .int .i64 b2, .int .i64 b3, .bool b4, .int .i64 b5, .int .i64 b6]; rw [show (w.alloc (.cells #[.int .i64 a1, .int .i64 a2, .int .i64 a3, .bool a4, .int .i64 a5, .int .i64 a6] 39)).heap.size = w.heap.size + 1 by simp] at this; exact this.drew
  have hz : (((w.alloc (.cells #[.int .i64 a1, .int .i64 a2, .int .i64 a3, .bool a4, .int .i64 a5, .int .i64 a6] 39)).alloc (.cells #[.int .i64 b1, .int .i64 b2, .int .i64 b3, .bool b4, .int .i64 b5, .int .i64 b6] 39)).drew).heap.size = w.heap.size + 2 := by simp
  have v0 : Upd [] (((w.alloc (.cells #[.int .i64 a1, .int .i64 a2, .int .i64 a3, .bool a4, .int .i64 a5, .int .i64 a6] 39)).alloc (.cells #[.int .i64 b1, .int .i64 b2, .int .i64 b3, .bool b4, .int .i64 b5, .int .i64 b6] 39)).drew) (((w.alloc (.cells #[.int .i64 a1, .int .i64 a2, .int .i64 a3, .bool a4, .int .i64 a5, .int .i64 a6] 39)).alloc (.cells #[.int .i64 b1, .int .i64 b2, .int .i64 b3, .bool b4, .int .i64 b5, .int .i64 b6] 39)).drew).drew := (Upd.refl [] _).drew
  have vv : Upd [] w (((w.alloc (.cells #[.int .i64 a1, .int .i64 a2, .int .i64 a3, .bool a4, .int .i64 a5, .int .i64 a6] 39)).alloc (.cells #[.int .i64 b1, .int .i64 b2, .int .i64 b3, .bool b4, .int .i64 b5, .int .i64 b6] 39)).drew) := (((Upd.refl [] _).alloc _).alloc _).drew
  have kp : ∀ W, Upd [] (((w.alloc (.cells #[.int .i64 a1, .int .i64 a2, .int .i64 a3, .bool a4, .int .i64 a5, .int .i64 a6] 39)).alloc (.cells #[.int .i64 b1, .int .i64 b2, .int .i64 b3, .bool b4, .int .i64 b5, .int .i64 b6] 39)).drew) W → W.cell? ⟨w.heap.size, 0, none⟩ = some (.int .i64 a1) ∧ W.cell? ⟨w.heap.size, 1, none⟩ = some (.int .i64 a2) ∧ W.cell? ⟨w.heap.size, 2, none⟩ = some (.int .i64 a3) ∧ W.cell? ⟨w.heap.size, 3, none⟩ = some (.bool a4) ∧ W.cell? ⟨w.heap.size, 4, none⟩ = some (.int .i64 a5) ∧ W.cell? ⟨w.heap.size, 5, none⟩ = some (.int .i64 a6) ∧ W.cell? ⟨w.heap.size + 1, 0, none⟩ = some (.int .i64 b1) ∧ W.cell? ⟨w.heap.size + 1, 1, none⟩ = some (.int .i64 b2) ∧ W.cell? ⟨w.heap.size + 1, 2, none⟩ = some (.int .i64 b3) ∧ W.cell? ⟨w.heap.size + 1, 3, none⟩ = some (.bool b4) ∧ W.cell? ⟨w.heap.size + 1, 4, none⟩ = some (.int .i64 b5) ∧ W.cell? ⟨w.heap.size + 1, 5, none⟩ = some (.int .i64 b6) := by
   intro W hu
   have b1 := bF.upd hu (by simp)
   have b2 := bL.upd hu (by simp)
   refine ⟨b1.cell _, b1.cell _, b1.cell _, b1.cell _, b1.cell _, b1.cell _, b2.cell _, b2.cell _, b2.cell _, b2.cell _, b2.cell _, b2.cell _⟩
  have KP := Lib.hid kp
  have VV := Lib.hid vv
  clear kp bF bL vv
  generalize (((w.alloc (.cells #[.int .i64 a1, .int .i64 a2, .int .i64 a3, .bool a4, .int .i64 a5, .int .i64 a6] 39)).alloc (.cells #[.int .i64 b1, .int .i64 b2, .int .i64 b3, .bool b4, .int .i64 b5, .int .i64 b6] 39)).drew) = W0 at *
  go_region_held3 (fun W => W.cell? ⟨w.heap.size, 0, none⟩ = some (.int .i64 a1) ∧ W.cell? ⟨w.heap.size, 1, none⟩ = some (.int .i64 a2) ∧ W.cell? ⟨w.heap.size, 2, none⟩ = some (.int .i64 a3) ∧ W.cell? ⟨w.heap.size, 3, none⟩ = some (.bool a4) ∧ W.cell? ⟨w.heap.size, 4, none⟩ = some (.int .i64 a5) ∧ W.cell? ⟨w.heap.size, 5, none⟩ = some (.int .i64 a6) ∧ W.cell? ⟨w.heap.size + 1, 0, none⟩ = some (.int .i64 b1) ∧ W.cell? ⟨w.heap.size + 1, 1, none⟩ = some (.int .i64 b2) ∧ W.cell? ⟨w.heap.size + 1, 2, none⟩ = some (.int .i64 b3) ∧ W.cell? ⟨w.heap.size + 1, 3, none⟩ = some (.bool b4) ∧ W.cell? ⟨w.heap.size + 1, 4, none⟩ = some (.int .i64 b5) ∧ W.cell? ⟨w.heap.size + 1, 5, none⟩ = some (.int .i64 b6)) (first | exact KP.out _ (v2.alloc _) | exact KP.out _ v2 | exact KP.out _ v1 | exact KP.out _ v0)
   (first | (go_at_call 81; refine (compare_ok _ _ _).mono ?_; rintro e w' ⟨rfl, rfl⟩) | (go_at_call 82; refine (rank_ok _ _ _ _ _ _ _).mono ?_; rintro e p1 ⟨rfl, u1⟩; first | have v2 := v1.trans u1 | have v1 := v0.trans u1) | (go_at_call 80; refine (or_ok _ 4 [cmpI a3 b3, cmpI (rk a4) (rk b4), cmpI a6 b6, cmpI i j] _ (Blk.new _ _ _) (by simp)).mono ?_; rintro e w' ⟨rfl, rfl⟩))
  go_wp2_with fail
  go_ret
  exact ⟨rfl, VV.out.trans (v2.alloc _)⟩
 ·have bF : Blk (((w.alloc (.cells #[.int .i64 b1, .int .i64 b2, .int .i64 b3, .bool b4, .int .i64 b5, .int .i64 b6] 39)).alloc (.cells #[.int .i64 a1, .int .i64 a2, .int .i64 a3, .bool a4, .int .i64 a5, .int .i64 a6] 39)).drew) w.heap.size 39 #[.int .i64 b1, .int .i64 b2, .int .i64 b3, .bool b4, .int .i64 b5, .int .i64 b6] := ((Blk.new w 39 _).alloc _).drew
  have bL : Blk (((w.alloc (.cells #[.int .i64 b1, .int .i64 b2, .int .i64 b3, .bool b4, .int .i64 b5, .int .i64 b6] 39)).alloc (.cells #[.int .i64 a1, .int .i64 a2, .int .i64 a3, .bool a4, .int .i64 a5, .int .i64 a6] 39)).drew) (w.heap.size + 1) 39 #[.int .i64 a1, .int .i64 a2, .int .i64 a3, .bool a4, .int .i64 a5, .int .i64 a6] := by have := Blk.new (w.alloc (.cells #[.int .i64 b1, .int .i64 b2, .int .i64 b3, .bool b4, .int .i64 b5, .int .i64 b6] 39)) 39 #[.int .i64 a1, .int .i64 a2, .int .i64 a3, .bool a4, .int .i64 a5, .int .i64 a6]; rw [show (w.alloc (.cells #[.int .i64 b1, .int .i64 b2, .int .i64 b3, .bool b4, .int .i64 b5, .int .i64 b6] 39)).heap.size = w.heap.size + 1 by simp] at this; exact this.drew
  have hz : (((w.alloc (.cells #[.int .i64 b1, .int .i64 b2, .int .i64 b3, .bool b4, .int .i64 b5, .int .i64 b6] 39)).alloc (.cells #[.int .i64 a1, .int .i64 a2, .int .i64 a3, .bool a4, .int .i64 a5, .int .i64 a6] 39)).drew).heap.size = w.heap.size + 2 := by simp
  have v0 : Upd [] (((w.alloc (.cells #[.int .i64 b1, .int .i64 b2, .int .i64 b3, .bool b4, .int .i64 b5, .int .i64 b6] 39)).alloc (.cells #[.int .i64 a1, .int .i64 a2, .int .i64 a3, .bool a4, .int .i64 a5, .int .i64 a6] 39)).drew) (((w.alloc (.cells #[.int .i64 b1, .int .i64 b2, .int .i64 b3, .bool b4, .int .i64 b5, .int .i64 b6] 39)).alloc (.cells #[.int .i64 a1, .int .i64 a2, .int .i64 a3, .bool a4, .int .i64 a5, .int .i64 a6] 39)).drew).drew := (Upd.refl [] _).drew
  have vv : Upd [] w (((w.alloc (.cells #[.int .i64 b1, .int .i64 b2, .int .i64 b3, .bool b4, .int .i64 b5, .int .i64 b6] 39)).alloc (.cells #[.int .i64 a1, .int .i64 a2, .int .i64 a3, .bool a4, .int .i64 a5, .int .i64 a6] 39)).drew) := (((Upd.refl [] _).alloc _).alloc _).drew
  have kp : ∀ W, Upd [] (((w.alloc (.cells #[.int .i64 b1, .int .i64 b2, .int .i64 b3, .bool b4, .int .i64 b5, .int .i64 b6] 39)).alloc (.cells #[.int .i64 a1, .int .i64 a2, .int .i64 a3, .bool a4, .int .i64 a5, .int .i64 a6] 39)).drew) W → W.cell? ⟨w.heap.size, 0, none⟩ = some (.int .i64 b1) ∧ W.cell? ⟨w.heap.size, 1, none⟩ = some (.int .i64 b2) ∧ W.cell? ⟨w.heap.size, 2, none⟩ = some (.int .i64 b3) ∧ W.cell? ⟨w.heap.size, 3, none⟩ = some (.bool b4) ∧ W.cell? ⟨w.heap.size, 4, none⟩ = some (.int .i64 b5) ∧ W.cell? ⟨w.heap.size, 5, none⟩ = some (.int .i64 b6) ∧ W.cell? ⟨w.heap.size + 1, 0, none⟩ = some (.int .i64 a1) ∧ W.cell? ⟨w.heap.size + 1, 1, none⟩ = some (.int .i64 a2) ∧ W.cell? ⟨w.heap.size + 1, 2, none⟩ = some (.int .i64 a3) ∧ W.cell? ⟨w.heap.size + 1, 3, none⟩ = some (.bool a4) ∧ W.cell? ⟨w.heap.size + 1, 4, none⟩ = some (.int .i64 a5) ∧ W.cell? ⟨w.heap.size + 1, 5, none⟩ = some (.int .i64 a6) := by
   intro W hu
   have b1 := bF.upd hu (by simp)
   have b2 := bL.upd hu (by simp)
   refine ⟨b1.cell _, b1.cell _, b1.cell _, b1.cell _, b1.cell _, b1.cell _, b2.cell _, b2.cell _, b2.cell _, b2.cell _, b2.cell _, b2.cell _⟩
  have KP := Lib.hid kp
  have VV := Lib.hid vv
  clear kp bF bL vv
  generalize (((w.alloc (.cells #[.int .i64 b1, .int .i64 b2, .int .i64 b3, .bool b4, .int .i64 b5, .int .i64 b6] 39)).alloc (.cells #[.int .i64 a1, .int .i64 a2, .int .i64 a3, .bool a4, .int .i64 a5, .int .i64 a6] 39)).drew) = W0 at *
  go_region_held3 (fun W => W.cell? ⟨w.heap.size, 0, none⟩ = some (.int .i64 b1) ∧ W.cell? ⟨w.heap.size, 1, none⟩ = some (.int .i64 b2) ∧ W.cell? ⟨w.heap.size, 2, none⟩ = some (.int .i64 b3) ∧ W.cell? ⟨w.heap.size, 3, none⟩ = some (.bool b4) ∧ W.cell? ⟨w.heap.size, 4, none⟩ = some (.int .i64 b5) ∧ W.cell? ⟨w.heap.size, 5, none⟩ = some (.int .i64 b6) ∧ W.cell? ⟨w.heap.size + 1, 0, none⟩ = some (.int .i64 a1) ∧ W.cell? ⟨w.heap.size + 1, 1, none⟩ = some (.int .i64 a2) ∧ W.cell? ⟨w.heap.size + 1, 2, none⟩ = some (.int .i64 a3) ∧ W.cell? ⟨w.heap.size + 1, 3, none⟩ = some (.bool a4) ∧ W.cell? ⟨w.heap.size + 1, 4, none⟩ = some (.int .i64 a5) ∧ W.cell? ⟨w.heap.size + 1, 5, none⟩ = some (.int .i64 a6)) (first | exact KP.out _ (v2.alloc _) | exact KP.out _ v2 | exact KP.out _ v1 | exact KP.out _ v0)
   (first | (go_at_call 81; refine (compare_ok _ _ _).mono ?_; rintro e w' ⟨rfl, rfl⟩) | (go_at_call 82; refine (rank_ok _ _ _ _ _ _ _).mono ?_; rintro e p1 ⟨rfl, u1⟩; first | have v2 := v1.trans u1 | have v1 := v0.trans u1) | (go_at_call 80; refine (or_ok _ 4 [cmpI a3 b3, cmpI (rk a4) (rk b4), cmpI a6 b6, cmpI i j] _ (Blk.new _ _ _) (by simp)).mono ?_; rintro e w' ⟨rfl, rfl⟩))
  go_wp2_with fail
  go_ret
  exact ⟨rfl, VV.out.trans (v2.alloc _)⟩
end Go.Proofs.YtmjnmpifibemjaaGreatDoor

namespace Go.Proofs.YtmjnmpifibemjaaGreatDoor
open Go.RowKit

structure Att where
 th : Int
 ix : Int
 st : Int
 wr : Bool
 be : Int
 en : Int
deriving Inhabited

/-- The slice at A holds these attempts. -/
def Atts (w : World) (A : Option Addr) (L : List Att) : Prop := ∀ k v, L[k]? = some v → ∃ ad, A = some ad ∧ w.cell? (ad.add (k * 6)) = some (.int .i64 v.th) ∧ w.cell? ⟨(ad.add (k * 6)).block, (ad.add (k * 6)).off + 1, none⟩ = some (.int .i64 v.ix) ∧
 w.cell? ⟨(ad.add (k * 6)).block, (ad.add (k * 6)).off + 2, none⟩ = some (.int .i64 v.st) ∧ w.cell? ⟨(ad.add (k * 6)).block, (ad.add (k * 6)).off + 3, none⟩ = some (.bool v.wr) ∧
 w.cell? ⟨(ad.add (k * 6)).block, (ad.add (k * 6)).off + 4, none⟩ = some (.int .i64 v.be) ∧ w.cell? ⟨(ad.add (k * 6)).block, (ad.add (k * 6)).off + 5, none⟩ = some (.int .i64 v.en) ∧ (ad.add (k * 6)).block < w.heap.size

theorem upd_cell {w w' : World} {p : Addr} (hu : Upd [] w w') (hp : p.block < w.heap.size) : w'.cell? p = w.cell? p := (Upd.below hu (Nat.le_refl _) (by simp)).cell hp

theorem Atts.upd {w w' : World} {A : Option Addr} {L : List Att} (h : Atts w A L) (hu : Upd [] w w') : Atts w' A L := by
 intro k v hk
 obtain ⟨ad, e, c1, c2, c3, c4, c5, c6, hl⟩ := h k v hk
 exact ⟨ad, e, (upd_cell hu hl).trans c1, (upd_cell hu (p := ⟨_, _, none⟩) hl).trans c2, (upd_cell hu (p := ⟨_, _, none⟩) hl).trans c3, (upd_cell hu (p := ⟨_, _, none⟩) hl).trans c4,
  (upd_cell hu (p := ⟨_, _, none⟩) hl).trans c5, (upd_cell hu (p := ⟨_, _, none⟩) hl).trans c6, Nat.lt_of_lt_of_le hl hu.size⟩

/-- Does place i stand ahead of place j? -/
def ahd (L : List Att) (i j : Nat) : Bool :=
 decide (orL [cmpI (L.getD i default).st (L.getD j default).st, cmpI (rk (L.getD i default).wr) (rk (L.getD j default).wr), cmpI (L.getD i default).en (L.getD j default).en, cmpI i j] < 0)

theorem ahead_at (A : Option Addr) (n c : Nat) (L : List Att) (w : World) (h : Atts w A L) (hn : L.length = n) (i j : Nat) (hi : i < n) (hj : j < n) :
 Calls Tryz.prog 53 #[.slice A n c, .int .i64 i, .int .i64 j] w fun e w' => e = .returned (.bool (ahd L i j)) ∧ Upd [] w w' := by
 obtain ⟨ad, rfl, c1, c2, c3, c4, c5, c6, _⟩ := h i _ (List.getElem?_eq_getElem (by omega))
 obtain ⟨ad', e, d1, d2, d3, d4, d5, d6, _⟩ := h j _ (List.getElem?_eq_getElem (by omega))
 obtain rfl := Option.some.inj e
 unfold ahd
 rw [List.getD_eq_getElem?_getD, List.getD_eq_getElem?_getD, List.getElem?_eq_getElem (show i < L.length by omega), List.getElem?_eq_getElem (show j < L.length by omega)]
 exact ahead_ok ad n c i j hi hj _ _ _ _ _ _ _ _ _ _ _ _ w c1 c2 c3 c4 c5 c6 d1 d2 d3 d4 d5 d6
end Go.Proofs.YtmjnmpifibemjaaGreatDoor

namespace Go.Proofs.YtmjnmpifibemjaaGreatDoor.HeapPlain

/-- What is asked of 'stands ahead': it is not both ways, and 'not behind' goes on. -/
structure Ord {α : Type} (lt : α → α → Bool) : Prop where
 asym : ∀ a b, lt a b = true → lt b a = false
 tran : ∀ a b c, lt b a = false → lt c b = false → lt c a = false

variable {α : Type} [Inhabited α]

def swp (xs : List α) (i j : Nat) : List α := (xs.set i (xs.getD j default)).set j (xs.getD i default)

theorem swp_length (xs : List α) (i j : Nat) : (swp xs i j).length = xs.length := by simp [swp]
theorem swp_getD (xs : List α) (i j k : Nat) (hi : i < xs.length) (hj : j < xs.length) :
 (swp xs i j).getD k default = if k = j then xs.getD i default else if k = i then xs.getD j default else xs.getD k default := by
 unfold swp
 simp only [List.getD_eq_getElem?_getD, List.getElem?_set, List.length_set]
 by_cases h1 : k = j
 ·subst h1; simp [hj]
 ·rw [if_neg (fun h => h1 h.symm), if_neg h1]
  by_cases h2 : k = i
  ·subst h2; simp [hi]
  ·rw [if_neg (fun h => h2 h.symm), if_neg h2]
theorem swp_perm (xs : List α) (i j : Nat) (hi : i < xs.length) (hj : j < xs.length) : (swp xs i j).Perm xs := by
 unfold swp
 rw [List.getD_eq_getElem?_getD, List.getD_eq_getElem?_getD, List.getElem?_eq_getElem hi, List.getElem?_eq_getElem hj]
 exact List.set_set_perm hi hj

/-- The first n are a heap. -/
def Hp (lt : α → α → Bool) (n : Nat) (xs : List α) : Prop := ∀ k, 0 < k → k < n → lt (xs.getD k default) (xs.getD ((k - 1) / 2) default) = false
/-- A heap but for what stands at j, which may have to go up. -/
def Up (lt : α → α → Bool) (n : Nat) (xs : List α) (j : Nat) : Prop :=
 (∀ k, 0 < k → k < n → k ≠ j → lt (xs.getD k default) (xs.getD ((k - 1) / 2) default) = false) ∧
 (∀ k, 0 < k → k < n → (k - 1) / 2 = j → 0 < j → lt (xs.getD k default) (xs.getD ((j - 1) / 2) default) = false)
/-- A heap but for what stands at i, which may have to go down. -/
def Dn (lt : α → α → Bool) (n : Nat) (xs : List α) (i : Nat) : Prop :=
 (∀ k, 0 < k → k < n → (k - 1) / 2 ≠ i → lt (xs.getD k default) (xs.getD ((k - 1) / 2) default) = false) ∧
 (∀ k, 0 < k → k < n → (k - 1) / 2 = i → 0 < i → lt (xs.getD k default) (xs.getD ((i - 1) / 2) default) = false)

theorem Up.stop {lt : α → α → Bool} {n : Nat} {xs : List α} {j : Nat} (h : Up lt n xs j) (hj : j = 0 ∨ lt (xs.getD j default) (xs.getD ((j - 1) / 2) default) = false) : Hp lt n xs := by
 intro k h0 hk
 by_cases e : k = j
 ·subst e
  rcases hj with hj | hj
  ·omega
  ·exact hj
 ·exact h.1 k h0 hk e

theorem Up.step {lt : α → α → Bool} (o : Ord lt) {n : Nat} {xs : List α} {j : Nat} (h : Up lt n xs j) (hn : n ≤ xs.length) (hj : j < n) (h0 : 0 < j)
 (hl : lt (xs.getD j default) (xs.getD ((j - 1) / 2) default) = true) : Up lt n (swp xs ((j - 1) / 2) j) ((j - 1) / 2) := by
 have hi : (j - 1) / 2 < j := by omega
 constructor
 ·intro k k0 kn ke
  rw [swp_getD _ _ _ _ (by omega) (by omega), swp_getD _ _ _ _ (by omega) (by omega)]
  by_cases e1 : k = j
  ·subst e1
   rw [if_pos rfl, if_neg (by omega), if_pos rfl]
   exact o.asym _ _ hl
  ·rw [if_neg e1, if_neg ke]
   by_cases e2 : (k - 1) / 2 = j
   ·rw [if_pos e2]
    exact h.2 k k0 kn e2 h0
   ·rw [if_neg e2]
    by_cases e3 : (k - 1) / 2 = (j - 1) / 2
    ·rw [if_pos e3]
     have a1 := h.1 k k0 kn e1
     rw [e3] at a1
     exact o.tran _ _ _ (o.asym _ _ hl) a1
    ·rw [if_neg e3]
     exact h.1 k k0 kn e1
 ·intro k k0 kn ke i0
  rw [swp_getD _ _ _ _ (by omega) (by omega), swp_getD _ _ _ _ (by omega) (by omega)]
  have b1 : ¬ ((j - 1) / 2 - 1) / 2 = j := by omega
  have b2 : ¬ ((j - 1) / 2 - 1) / 2 = (j - 1) / 2 := by omega
  rw [if_neg b1, if_neg b2]
  have p1 := h.1 ((j - 1) / 2) i0 (by omega) (by omega)
  by_cases e1 : k = j
  ·subst e1
   rw [if_pos rfl]
   exact p1
  ·rw [if_neg e1, if_neg (by omega)]
   have a1 := h.1 k k0 kn e1
   rw [ke] at a1
   exact o.tran _ _ _ p1 a1

theorem Hp.up {lt : α → α → Bool} {xs : List α} (h : Hp lt xs.length xs) (x : α) : Up lt (xs.length + 1) (xs ++ [x]) xs.length := by
 have g : ∀ k, k < xs.length → (xs ++ [x]).getD k default = xs.getD k default := fun k hk => by
  simp only [List.getD_eq_getElem?_getD]
  rw [List.getElem?_append_left hk]
 constructor
 ·intro k k0 kn ke
  rw [g k (by omega), g _ (by omega)]
  exact h k k0 (by omega)
 ·intro k k0 kn ke
  omega

theorem Dn.stop {lt : α → α → Bool} {n : Nat} {xs : List α} {i : Nat} (h : Dn lt n xs i) (hc : ∀ k, 0 < k → k < n → (k - 1) / 2 = i → lt (xs.getD k default) (xs.getD i default) = false) : Hp lt n xs := by
 intro k k0 kn
 by_cases e : (k - 1) / 2 = i
 ·rw [e]; exact hc k k0 kn e
 ·exact h.1 k k0 kn e

/-- A heap but for what stands at i, which may have to go either way. -/
def Ex (lt : α → α → Bool) (n : Nat) (xs : List α) (i : Nat) : Prop :=
 (∀ k, 0 < k → k < n → k ≠ i → (k - 1) / 2 ≠ i → lt (xs.getD k default) (xs.getD ((k - 1) / 2) default) = false) ∧
 (∀ k, 0 < k → k < n → (k - 1) / 2 = i → 0 < i → lt (xs.getD k default) (xs.getD ((i - 1) / 2) default) = false)
theorem Dn.ex {lt : α → α → Bool} {n : Nat} {xs : List α} {i : Nat} (h : Dn lt n xs i) : Ex lt n xs i := ⟨fun k a b _ c => h.1 k a b c, h.2⟩
theorem Ex.up {lt : α → α → Bool} {n : Nat} {xs : List α} {i : Nat} (h : Ex lt n xs i) (hc : ∀ k, 0 < k → k < n → (k - 1) / 2 = i → lt (xs.getD k default) (xs.getD i default) = false) : Up lt n xs i := by
 refine ⟨fun k k0 kn ke => ?_, h.2⟩
 by_cases e : (k - 1) / 2 = i
 ·rw [e]; exact hc k k0 kn e
 ·exact h.1 k k0 kn ke e

theorem Ex.step {lt : α → α → Bool} (o : Ord lt) {n : Nat} {xs : List α} {i j : Nat} (h : Ex lt n xs i) (hn : n ≤ xs.length) (hj : j < n) (h0 : 0 < j) (hp : (j - 1) / 2 = i)
 (hl : lt (xs.getD j default) (xs.getD i default) = true) (hc : ∀ k, 0 < k → k < n → (k - 1) / 2 = i → lt (xs.getD k default) (xs.getD j default) = false) : Dn lt n (swp xs i j) j := by
 have hi : i < j := by omega
 constructor
 ·intro k k0 kn ke
  rw [swp_getD _ _ _ _ (by omega) (by omega), swp_getD _ _ _ _ (by omega) (by omega)]
  rw [if_neg ke]
  by_cases e1 : k = j
  ·subst e1
   rw [if_pos rfl, if_pos hp]
   exact o.asym _ _ hl
  ·rw [if_neg e1]
   by_cases e2 : k = i
   ·subst e2
    rw [if_pos rfl, if_neg (by omega)]
    exact h.2 j h0 hj hp k0
   ·rw [if_neg e2]
    by_cases e3 : (k - 1) / 2 = i
    ·rw [if_pos e3]
     exact hc k k0 kn e3
    ·rw [if_neg e3]
     exact h.1 k k0 kn e2 e3
 ·intro k k0 kn ke j0
  rw [swp_getD _ _ _ _ (by omega) (by omega), swp_getD _ _ _ _ (by omega) (by omega)]
  rw [if_neg (by omega), if_neg (by omega), if_neg (by omega), if_pos hp]
  have a1 := h.1 k k0 kn (by omega) (by omega)
  rw [ke] at a1
  exact a1

theorem Hp.dn {lt : α → α → Bool} {n : Nat} {xs : List α} (h : Hp lt (n + 1) xs) (hl : xs.length = n + 1) : Dn lt n (swp xs 0 n) 0 := by
 constructor
 ·intro k k0 kn ke
  rw [swp_getD _ _ _ _ (by omega) (by omega), swp_getD _ _ _ _ (by omega) (by omega)]
  rw [if_neg (by omega), if_neg (by omega), if_neg (by omega), if_neg ke]
  exact h k k0 (by omega)
 ·intro k k0 kn ke h0
  omega

theorem Hp.least {lt : α → α → Bool} (o : Ord lt) (hir : ∀ a, lt a a = false) {n : Nat} {xs : List α} (h : Hp lt n xs) : ∀ k, k < n → lt (xs.getD k default) (xs.getD 0 default) = false := by
 intro k
 induction k using Nat.strongRecOn with
 | _ k ih =>
   intro hk
   by_cases h0 : k = 0
   ·subst h0; exact hir _
   ·exact o.tran _ _ _ (ih ((k - 1) / 2) (by omega) (by omega)) (h k (by omega) hk)

theorem Hp.mono {lt : α → α → Bool} {n m : Nat} {xs : List α} (h : Hp lt n xs) (hm : m ≤ n) : Hp lt m xs := fun k k0 kn => h k k0 (Nat.lt_of_lt_of_le kn hm)
theorem Hp.take {lt : α → α → Bool} {n : Nat} {xs : List α} (h : Hp lt n xs) : Hp lt n (xs.take n) := by
 intro k k0 kn
 have g : ∀ j, j < n → (xs.take n).getD j default = xs.getD j default := fun j hj => by
  simp only [List.getD_eq_getElem?_getD]
  rw [List.getElem?_take, if_pos hj]
 rw [g k kn, g _ (by omega)]
 exact h k k0 kn
end Go.Proofs.YtmjnmpifibemjaaGreatDoor.HeapPlain

namespace Go.Proofs.YtmjnmpifibemjaaGreatDoor
open Go.RowKit HeapPlain

theorem half (k : Nat) (h : ¬ k = 0) : (((k - 1) / 2 : Nat) : Int) = ((k : Int) - 1) / 2 := by omega

/-- What the walks ask of the methods: T the dynamic type, pv the value. -/
structure Heaped (α : Type) [Inhabited α] (fLen fLess fSwap : FuncId) (pv : Value) (lt : α → α → Bool) (St : World → List α → Prop) (Fr : World → World → Prop) : Prop where
 refl : ∀ w, Fr w w
 trans : ∀ a b c, Fr a b → Fr b c → Fr a c
 len : ∀ w xs, St w xs → Calls Tryz.prog fLen #[pv] w fun e w' => e = .returned (.int .i64 xs.length) ∧ St w' xs ∧ Fr w w'
 less : ∀ w xs (i j : Nat), St w xs → i < xs.length → j < xs.length → Calls Tryz.prog fLess #[pv, .int .i64 i, .int .i64 j] w fun e w' => e = .returned (.bool (lt (xs.getD i default) (xs.getD j default))) ∧ St w' xs ∧ Fr w w'
 swap : ∀ w xs (i j : Nat), St w xs → i < xs.length → j < xs.length → Calls Tryz.prog fSwap #[pv, .int .i64 i, .int .i64 j] w fun e w' => e = .returned (.tuple #[]) ∧ St w' (swp xs i j) ∧ Fr w w'
 small : ∀ w xs, St w xs → xs.length ≤ 1000000

section
variable {α : Type} [Inhabited α] {lt : α → α → Bool} {St : World → List α → Prop} {Fr : World → World → Prop} {p : Nat}

set_option maxHeartbeats 1000000 in
theorem heap_up (H : Heaped α 55 172 175 (.pointer (some ⟨p, 0, none⟩)) lt St Fr) (o : Ord lt) (n : Nat) (xs : List α) (j : Nat) (w : World) (hs : St w xs) (hn : xs.length = n) (hj : j < n) (hu : Up lt n xs j) :
 Calls Tryz.prog 83 #[.iface 121 (.pointer (some ⟨p, 0, none⟩)), .int .i64 j] w fun e w' => e = .returned (.tuple #[]) ∧ ∃ ys, St w' ys ∧ ys.Perm xs ∧ Hp lt n ys ∧ Fr w w' := by
 have hsm : n ≤ 1000000 := hn ▸ H.small w xs hs
 have HH := Lib.hid H
 have HS := Lib.hid hs
 have HU := Lib.hid hu
 have HN := Lib.hid hn
 have HO := Lib.hid o
 clear hs hu H hn o
 go_enter Tryz.func83, Tryz.ntmps83
 go_wp2_with fail
 go_loopw [1] (fun v wr => ∃ (k : Nat) (ys : List α), v = .int .i64 k ∧ k < n ∧ Hid (St wr ys ∧ ys.Perm xs ∧ ys.length = n ∧ Up lt n ys k ∧ Fr w wr)) (fun v _ => (intOf v).toNat)
 case atStart => exact ⟨j, xs, rfl, hj, Lib.hid ⟨HS.out, .refl _, HN.out, HU.out, HH.out.refl _⟩⟩
 case round =>
  obtain ⟨k, ys, rfl, hk, HY⟩ := hrel
  by_cases h0 : k = 0
  ·subst h0
   go_wp2_with fail
   go_end0
   obtain ⟨y1, y2, y3, y4, y5⟩ := HY.out
   exact ⟨rfl, ys, y1, y2, y4.stop (.inl rfl), y5⟩
  ·cases hl : lt (ys.getD k default) (ys.getD ((k - 1) / 2) default) with
   | false =>
     have HL := Lib.hid hl
     clear hl
     go_wp2_with fail
     have hc := HH.out.less wr ys k ((k - 1) / 2) HY.out.1 (by rw [HY.out.2.2.1]; omega) (by rw [HY.out.2.2.1]; omega)
     rw [half k h0] at hc
     refine hc.mono ?_; clear hc; rintro e w1 ⟨he, s1, f1⟩
     rw [HL.out] at he
     subst he
     have S1 := Lib.hid s1
     have F1 := Lib.hid f1
     clear s1 f1
     go_wp2_with fail
     go_end0
     obtain ⟨y1, y2, y3, y4, y5⟩ := HY.out
     exact ⟨rfl, ys, S1.out, y2, y4.stop (.inr HL.out), HH.out.trans _ _ _ y5 F1.out⟩
   | true =>
     have HL := Lib.hid hl
     clear hl
     go_wp2_with fail
     have hc := HH.out.less wr ys k ((k - 1) / 2) HY.out.1 (by rw [HY.out.2.2.1]; omega) (by rw [HY.out.2.2.1]; omega)
     rw [half k h0] at hc
     refine hc.mono ?_; clear hc; rintro e w1 ⟨he, s1, f1⟩
     rw [HL.out] at he
     subst he
     have S1 := Lib.hid s1
     have F1 := Lib.hid f1
     clear s1 f1
     go_wp2_with fail
     have hc := HH.out.swap w1 ys ((k - 1) / 2) k S1.out (by rw [HY.out.2.2.1]; omega) (by rw [HY.out.2.2.1]; omega)
     rw [half k h0] at hc
     refine hc.mono ?_; clear hc; rintro e w2 ⟨rfl, s2, f2⟩
     have S2 := Lib.hid s2
     have F2 := Lib.hid f2
     clear s2 f2
     go_wp2_with fail
     go_roundw
     case rel =>
      obtain ⟨y1, y2, y3, y4, y5⟩ := HY.out
      exact ⟨(k - 1) / 2, _, by rw [half k h0], by omega, Lib.hid ⟨S2.out, (swp_perm ys _ _ (by omega) (by omega)).trans y2, by rw [swp_length]; exact y3, y4.step HO.out (by omega) (by omega) (by omega) HL.out, HH.out.trans _ _ _ (HH.out.trans _ _ _ y5 F1.out) F2.out⟩⟩
     case measure => simp [intOf]; omega
/-- What down tells where it stops. -/
theorem down_stop {n k i0 : Nat} {ys xs : List α} (hd : (k = i0 ∧ ys = xs) ∨ (i0 < k ∧ Dn lt n ys k)) (hc : ∀ m, 0 < m → m < n → (m - 1) / 2 = k → lt (ys.getD m default) (ys.getD k default) = false) {b : Bool} (hb : b = decide (i0 < k)) :
 (b = true → Hp lt n ys) ∧ (b = false → ys = xs ∧ ∀ k, 0 < k → k < n → (k - 1) / 2 = i0 → lt (xs.getD k default) (xs.getD i0 default) = false) := by
 subst hb
 rcases hd with ⟨rfl, rfl⟩ | ⟨h1, h2⟩
 ·exact ⟨fun h => by simp at h, fun _ => ⟨rfl, hc⟩⟩
 ·exact ⟨fun _ => h2.stop hc, fun h => by simp at h; omega⟩
/-- None of the two below k stands ahead of the one that is chosen. -/
theorem down_kids (o : Ord lt) {n k j : Nat} {ys : List α} (hj : j = 2 * k + 1 ∨ j = 2 * k + 2) (h1 : j = 2 * k + 1 → 2 * k + 2 < n → lt (ys.getD (2 * k + 2) default) (ys.getD (2 * k + 1) default) = false)
 (h2 : j = 2 * k + 2 → lt (ys.getD (2 * k + 2) default) (ys.getD (2 * k + 1) default) = true) : ∀ m, 0 < m → m < n → (m - 1) / 2 = k → lt (ys.getD m default) (ys.getD j default) = false := by
 intro m m0 mn mk
 have irr : ∀ a, lt a a = false := fun a => by
  cases h : lt a a with
  | false => rfl
  | true => exact (o.asym a a h).symm.trans h |>.symm ▸ rfl
 have hm : m = 2 * k + 1 ∨ m = 2 * k + 2 := by omega
 rcases hm with rfl | rfl <;> rcases hj with rfl | rfl
 ·exact irr _
 ·exact o.asym _ _ (h2 rfl)
 ·exact h1 rfl mn
 ·exact irr _

set_option maxHeartbeats 4000000 in
theorem heap_down (H : Heaped α 55 172 175 (.pointer (some ⟨p, 0, none⟩)) lt St Fr) (o : Ord lt) (n l : Nat) (xs : List α) (i0 : Nat) (w : World) (hs : St w xs) (hn : xs.length = l) (hnl : n ≤ l) (hi : i0 < l) (hu : Ex lt n xs i0) :
 Calls Tryz.prog 84 #[.iface 121 (.pointer (some ⟨p, 0, none⟩)), .int .i64 i0, .int .i64 n] w fun e w' => ∃ (b : Bool) (ys : List α), e = .returned (.bool b) ∧ St w' ys ∧ ys.Perm xs ∧ (∀ k, n ≤ k → ys.getD k default = xs.getD k default) ∧ ((b = true → Hp lt n ys) ∧ (b = false → ys = xs ∧ ∀ k, 0 < k → k < n → (k - 1) / 2 = i0 → lt (xs.getD k default) (xs.getD i0 default) = false)) ∧ Fr w w' := by
 have hsm : l ≤ 1000000 := hn ▸ H.small w xs hs
 have HH := Lib.hid H
 have HS := Lib.hid hs
 have HU := Lib.hid hu
 have HN := Lib.hid hn
 have HO := Lib.hid o
 clear hs hu H hn o
 go_enter Tryz.func84, Tryz.ntmps84
 go_wp2_with fail
 go_loopw [7] (fun v wr => ∃ (k : Nat) (ys : List α), v = .int .i64 k ∧ k < l ∧ Hid (St wr ys ∧ ys.Perm xs ∧ ys.length = l ∧ (∀ m, n ≤ m → ys.getD m default = xs.getD m default) ∧ Ex lt n ys k ∧ ((k = i0 ∧ ys = xs) ∨ (i0 < k ∧ Dn lt n ys k)) ∧ Fr w wr)) (fun v _ => l - (intOf v).toNat)
 case atStart => exact ⟨i0, xs, rfl, hi, Lib.hid ⟨HS.out, .refl _, HN.out, fun _ _ => rfl, HU.out, .inl ⟨rfl, rfl⟩, HH.out.refl _⟩⟩
 case round =>
  obtain ⟨k, ys, rfl, hk, HY⟩ := hrel
  have hq1 : ((2 * k + 1 : Nat) : Int) = 2 * (k : Int) + 1 := by omega
  have hq2 : ((2 * k + 2 : Nat) : Int) = 2 * (k : Int) + 1 + 1 := by omega
  have HQ1 := Lib.hid hq1
  have HQ2 := Lib.hid hq2
  clear hq1 hq2
  by_cases h1 : n ≤ 2 * k + 1
  ·have h1' : (2 * (k : Int) + 1) ≥ n := by omega
   go_wp2_with fail
   go_ret
   obtain ⟨y1, y2, y3, y4, y5, y6, y7⟩ := HY.out
   exact ⟨_, ys, rfl, y1, y2, y4, down_stop y6 (fun m m0 mn mk => by omega) rfl, y7⟩
  ·have h1' : ¬ (2 * (k : Int) + 1) ≥ n := by omega
   have h1'' : ¬ (2 * (k : Int) + 1) < 0 := by omega
   by_cases h2 : 2 * k + 2 < n
   ·have h2' : (2 * (k : Int) + 1 + 1) < n := by omega
    cases hb : lt (ys.getD (2 * k + 2) default) (ys.getD (2 * k + 1) default) with
    | true =>
      have HB := Lib.hid hb
      clear hb
      cases hl : lt (ys.getD (2 * k + 2) default) (ys.getD k default) with
      | false =>
        have HL := Lib.hid hl
        clear hl
        go_wp2_with fail
        have hc := HH.out.less wr ys (2 * k + 2) (2 * k + 1) HY.out.1 (by rw [HY.out.2.2.1]; omega) (by rw [HY.out.2.2.1]; omega)
        rw [HQ2.out, HQ1.out] at hc
        refine hc.mono ?_; clear hc; rintro e w1 ⟨he, s1, f1⟩
        rw [HB.out] at he
        subst he
        have S1 := Lib.hid s1
        have F1 := Lib.hid f1
        clear s1 f1
        go_wp2_with fail
        have hc := HH.out.less w1 ys (2 * k + 2) (k) S1.out (by rw [HY.out.2.2.1]; omega) (by rw [HY.out.2.2.1]; omega)
        rw [HQ2.out] at hc
        refine hc.mono ?_; clear hc; rintro e w2 ⟨he, s2, f2⟩
        rw [HL.out] at he
        subst he
        have S2 := Lib.hid s2
        have F2 := Lib.hid f2
        clear s2 f2
        go_wp2_with fail
        go_ret
        obtain ⟨y1, y2, y3, y4, y5, y6, y7⟩ := HY.out
        have kd := down_kids HO.out (n := n) (k := k) (ys := ys) (.inr rfl) (fun h => by omega) (fun _ => HB.out)
        exact ⟨_, ys, rfl, S2.out, y2, y4, down_stop y6 (fun m m0 mn mk => HO.out.tran _ _ _ HL.out (kd m m0 mn mk)) rfl, (HH.out.trans _ _ _ (HH.out.trans _ _ _ y7 F1.out) F2.out)⟩
      | true =>
        have HL := Lib.hid hl
        clear hl
        go_wp2_with fail
        have hc := HH.out.less wr ys (2 * k + 2) (2 * k + 1) HY.out.1 (by rw [HY.out.2.2.1]; omega) (by rw [HY.out.2.2.1]; omega)
        rw [HQ2.out, HQ1.out] at hc
        refine hc.mono ?_; clear hc; rintro e w1 ⟨he, s1, f1⟩
        rw [HB.out] at he
        subst he
        have S1 := Lib.hid s1
        have F1 := Lib.hid f1
        clear s1 f1
        go_wp2_with fail
        have hc := HH.out.less w1 ys (2 * k + 2) (k) S1.out (by rw [HY.out.2.2.1]; omega) (by rw [HY.out.2.2.1]; omega)
        rw [HQ2.out] at hc
        refine hc.mono ?_; clear hc; rintro e w2 ⟨he, s2, f2⟩
        rw [HL.out] at he
        subst he
        have S2 := Lib.hid s2
        have F2 := Lib.hid f2
        clear s2 f2
        go_wp2_with fail
        have hc := HH.out.swap w2 ys k (2 * k + 2) S2.out (by rw [HY.out.2.2.1]; omega) (by rw [HY.out.2.2.1]; omega)
        rw [HQ2.out] at hc
        refine hc.mono ?_; clear hc; rintro e w3 ⟨rfl, s3, f3⟩
        have S3 := Lib.hid s3
        have F3 := Lib.hid f3
        clear s3 f3
        go_wp2_with fail
        go_roundw
        case rel =>
         obtain ⟨y1, y2, y3, y4, y5, y6, y7⟩ := HY.out
         have kd := down_kids HO.out (n := n) (k := k) (ys := ys) (.inr rfl) (fun h => by omega) (fun _ => HB.out)
         have dn := y5.step HO.out (by omega) (by omega) (by omega) (by omega) HL.out kd
         refine ⟨2 * k + 2, _, by rw [HQ2.out], by omega, Lib.hid ⟨S3.out, (swp_perm ys _ _ (by omega) (by omega)).trans y2, by rw [swp_length]; exact y3, fun m hm => ?_, dn.ex, .inr ⟨by rcases y6 with h | h <;> omega, dn⟩, HH.out.trans _ _ _ (HH.out.trans _ _ _ (HH.out.trans _ _ _ y7 F1.out) F2.out) F3.out⟩⟩
         rw [swp_getD _ _ _ _ (by omega) (by omega), if_neg (by omega), if_neg (by omega)]
         exact y4 m hm
        case measure => simp [intOf]; omega
    | false =>
      have HB := Lib.hid hb
      clear hb
      cases hl : lt (ys.getD (2 * k + 1) default) (ys.getD k default) with
      | false =>
        have HL := Lib.hid hl
        clear hl
        go_wp2_with fail
        have hc := HH.out.less wr ys (2 * k + 2) (2 * k + 1) HY.out.1 (by rw [HY.out.2.2.1]; omega) (by rw [HY.out.2.2.1]; omega)
        rw [HQ2.out, HQ1.out] at hc
        refine hc.mono ?_; clear hc; rintro e w1 ⟨he, s1, f1⟩
        rw [HB.out] at he
        subst he
        have S1 := Lib.hid s1
        have F1 := Lib.hid f1
        clear s1 f1
        go_wp2_with fail
        have hc := HH.out.less w1 ys (2 * k + 1) (k) S1.out (by rw [HY.out.2.2.1]; omega) (by rw [HY.out.2.2.1]; omega)
        rw [HQ1.out] at hc
        refine hc.mono ?_; clear hc; rintro e w2 ⟨he, s2, f2⟩
        rw [HL.out] at he
        subst he
        have S2 := Lib.hid s2
        have F2 := Lib.hid f2
        clear s2 f2
        go_wp2_with fail
        go_ret
        obtain ⟨y1, y2, y3, y4, y5, y6, y7⟩ := HY.out
        have kd := down_kids HO.out (n := n) (k := k) (ys := ys) (.inl rfl) (fun _ _ => HB.out) (fun h => by omega)
        exact ⟨_, ys, rfl, S2.out, y2, y4, down_stop y6 (fun m m0 mn mk => HO.out.tran _ _ _ HL.out (kd m m0 mn mk)) rfl, (HH.out.trans _ _ _ (HH.out.trans _ _ _ y7 F1.out) F2.out)⟩
      | true =>
        have HL := Lib.hid hl
        clear hl
        go_wp2_with fail
        have hc := HH.out.less wr ys (2 * k + 2) (2 * k + 1) HY.out.1 (by rw [HY.out.2.2.1]; omega) (by rw [HY.out.2.2.1]; omega)
        rw [HQ2.out, HQ1.out] at hc
        refine hc.mono ?_; clear hc; rintro e w1 ⟨he, s1, f1⟩
        rw [HB.out] at he
        subst he
        have S1 := Lib.hid s1
        have F1 := Lib.hid f1
        clear s1 f1
        go_wp2_with fail
        have hc := HH.out.less w1 ys (2 * k + 1) (k) S1.out (by rw [HY.out.2.2.1]; omega) (by rw [HY.out.2.2.1]; omega)
        rw [HQ1.out] at hc
        refine hc.mono ?_; clear hc; rintro e w2 ⟨he, s2, f2⟩
        rw [HL.out] at he
        subst he
        have S2 := Lib.hid s2
        have F2 := Lib.hid f2
        clear s2 f2
        go_wp2_with fail
        have hc := HH.out.swap w2 ys k (2 * k + 1) S2.out (by rw [HY.out.2.2.1]; omega) (by rw [HY.out.2.2.1]; omega)
        rw [HQ1.out] at hc
        refine hc.mono ?_; clear hc; rintro e w3 ⟨rfl, s3, f3⟩
        have S3 := Lib.hid s3
        have F3 := Lib.hid f3
        clear s3 f3
        go_wp2_with fail
        go_roundw
        case rel =>
         obtain ⟨y1, y2, y3, y4, y5, y6, y7⟩ := HY.out
         have kd := down_kids HO.out (n := n) (k := k) (ys := ys) (.inl rfl) (fun _ _ => HB.out) (fun h => by omega)
         have dn := y5.step HO.out (by omega) (by omega) (by omega) (by omega) HL.out kd
         refine ⟨2 * k + 1, _, by rw [HQ1.out], by omega, Lib.hid ⟨S3.out, (swp_perm ys _ _ (by omega) (by omega)).trans y2, by rw [swp_length]; exact y3, fun m hm => ?_, dn.ex, .inr ⟨by rcases y6 with h | h <;> omega, dn⟩, HH.out.trans _ _ _ (HH.out.trans _ _ _ (HH.out.trans _ _ _ y7 F1.out) F2.out) F3.out⟩⟩
         rw [swp_getD _ _ _ _ (by omega) (by omega), if_neg (by omega), if_neg (by omega)]
         exact y4 m hm
        case measure => simp [intOf]; omega
   ·have h2' : ¬ (2 * (k : Int) + 1 + 1) < n := by omega
    cases hl : lt (ys.getD (2 * k + 1) default) (ys.getD k default) with
    | false =>
      have HL := Lib.hid hl
      clear hl
      go_wp2_with fail
      have hc := HH.out.less wr ys (2 * k + 1) (k) HY.out.1 (by rw [HY.out.2.2.1]; omega) (by rw [HY.out.2.2.1]; omega)
      rw [HQ1.out] at hc
      refine hc.mono ?_; clear hc; rintro e w2 ⟨he, s2, f2⟩
      rw [HL.out] at he
      subst he
      have S2 := Lib.hid s2
      have F2 := Lib.hid f2
      clear s2 f2
      go_wp2_with fail
      go_ret
      obtain ⟨y1, y2, y3, y4, y5, y6, y7⟩ := HY.out
      have kd := down_kids HO.out (n := n) (k := k) (ys := ys) (.inl rfl) (fun _ h => absurd h h2) (fun h => by omega)
      exact ⟨_, ys, rfl, S2.out, y2, y4, down_stop y6 (fun m m0 mn mk => HO.out.tran _ _ _ HL.out (kd m m0 mn mk)) rfl, (HH.out.trans _ _ _ y7 F2.out)⟩
    | true =>
      have HL := Lib.hid hl
      clear hl
      go_wp2_with fail
      have hc := HH.out.less wr ys (2 * k + 1) (k) HY.out.1 (by rw [HY.out.2.2.1]; omega) (by rw [HY.out.2.2.1]; omega)
      rw [HQ1.out] at hc
      refine hc.mono ?_; clear hc; rintro e w2 ⟨he, s2, f2⟩
      rw [HL.out] at he
      subst he
      have S2 := Lib.hid s2
      have F2 := Lib.hid f2
      clear s2 f2
      go_wp2_with fail
      have hc := HH.out.swap w2 ys k (2 * k + 1) S2.out (by rw [HY.out.2.2.1]; omega) (by rw [HY.out.2.2.1]; omega)
      rw [HQ1.out] at hc
      refine hc.mono ?_; clear hc; rintro e w3 ⟨rfl, s3, f3⟩
      have S3 := Lib.hid s3
      have F3 := Lib.hid f3
      clear s3 f3
      go_wp2_with fail
      go_roundw
      case rel =>
       obtain ⟨y1, y2, y3, y4, y5, y6, y7⟩ := HY.out
       have kd := down_kids HO.out (n := n) (k := k) (ys := ys) (.inl rfl) (fun _ h => absurd h h2) (fun h => by omega)
       have dn := y5.step HO.out (by omega) (by omega) (by omega) (by omega) HL.out kd
       refine ⟨2 * k + 1, _, by rw [HQ1.out], by omega, Lib.hid ⟨S3.out, (swp_perm ys _ _ (by omega) (by omega)).trans y2, by rw [swp_length]; exact y3, fun m hm => ?_, dn.ex, .inr ⟨by rcases y6 with h | h <;> omega, dn⟩, HH.out.trans _ _ _ (HH.out.trans _ _ _ y7 F2.out) F3.out⟩⟩
       rw [swp_getD _ _ _ _ (by omega) (by omega), if_neg (by omega), if_neg (by omega)]
       exact y4 m hm
      case measure => simp [intOf]; omega
end
end Go.Proofs.YtmjnmpifibemjaaGreatDoor

namespace Go.Proofs.YtmjnmpifibemjaaGreatDoor
open Go.RowKit HeapPlain

section
variable {α : Type} [Inhabited α] {lt : α → α → Bool} {St : World → List α → Prop} {Fr : World → World → Prop} {p : Nat}

set_option maxHeartbeats 1000000 in
theorem heap_push (H : Heaped α 55 172 175 (.pointer (some ⟨p, 0, none⟩)) lt St Fr) (o : Ord lt) (n : Nat) (xs : List α) (x : α) (ty : TypeId) (v : Value) (w : World) (_hs : St w xs) (hn : xs.length = n) (hu : Hp lt n xs)
 (hp : Calls Tryz.prog 174 #[.pointer (some ⟨p, 0, none⟩), .iface ty v] w fun e w' => e = .returned (.tuple #[]) ∧ St w' (xs ++ [x]) ∧ Fr w w') :
 Calls Tryz.prog 54 #[.iface 121 (.pointer (some ⟨p, 0, none⟩)), .iface ty v] w fun e w' => e = .returned (.tuple #[]) ∧ ∃ ys, St w' ys ∧ ys.Perm (x :: xs) ∧ Hp lt (n + 1) ys ∧ Fr w w' := by
 have HH := Lib.hid H
 have HO := Lib.hid o
 have HP := Lib.hid hp
 subst hn
 have HU := Lib.hid (hu.up x)
 obtain ⟨n, hn⟩ : ∃ n, xs.length = n := ⟨_, rfl⟩
 have hl : (xs ++ [x]).length = n + 1 := by simp [hn]
 rw [hn] at HU ⊢
 have HL := Lib.hid hl
 clear _hs hu H o hp hn hl
 go_enter Tryz.func54, Tryz.ntmps54
 go_wp2_with fail
 refine HP.out.mono ?_; rintro e w1 ⟨rfl, s1, f1⟩
 have S1 := Lib.hid s1
 have F1 := Lib.hid f1
 clear s1 f1
 go_wp2_with fail
 have hc := HH.out.len w1 _ S1.out
 have hsm := HH.out.small w1 _ S1.out
 rw [HL.out] at hc hsm
 refine hc.mono ?_; clear hc; rintro e w2 ⟨rfl, s2, f2⟩
 have S2 := Lib.hid s2
 have F2 := Lib.hid f2
 clear s2 f2
 have hq : ((n + 1 : Nat) : Int) = (n : Int) + 1 := by omega
 rw [hq]
 clear hq
 go_wp2_with fail
 refine (heap_up HH.out HO.out (n + 1) (xs ++ [x]) n w2 S2.out HL.out (by omega) HU.out).mono ?_; rintro e w3 ⟨rfl, ys, s3, p3, h3, f3⟩
 have S3 := Lib.hid s3
 have F3 := Lib.hid f3
 have H3 := Lib.hid h3
 clear s3 f3 h3
 go_wp2_with fail
 go_end0
 exact ⟨rfl, ys, S3.out, p3.trans (List.perm_append_comm (l₁ := xs) (l₂ := [x])), H3.out, HH.out.trans _ _ _ (HH.out.trans _ _ _ F1.out F2.out) F3.out⟩

theorem pop_hp {n : Nat} {xs zs : List α} {b : Bool} (hu : Hp lt (n + 1) xs) (hl : xs.length = n + 1) (hb : b = true → Hp lt n zs)
 (hf : b = false → zs = swp xs 0 n ∧ ∀ k, 0 < k → k < n → (k - 1) / 2 = 0 → lt ((swp xs 0 n).getD k default) ((swp xs 0 n).getD 0 default) = false) : Hp lt n zs := by
 cases b with
 | true => exact hb rfl
 | false =>
   obtain ⟨rfl, h⟩ := hf rfl
   exact (hu.dn hl).stop h
theorem pop_perm {n : Nat} {xs zs : List α} (hl : xs.length = n + 1) (hp : zs.Perm (swp xs 0 n)) (hz : zs.getD n default = (swp xs 0 n).getD n default) : (xs.getD 0 default :: zs.take n).Perm xs := by
 have h1 : (swp xs 0 n).getD n default = xs.getD 0 default := by rw [swp_getD _ _ _ _ (by omega) (by omega), if_pos rfl]
 have hzl : zs.length = n + 1 := by rw [hp.length_eq, swp_length, hl]
 have h2 : zs = zs.take n ++ [xs.getD 0 default] := by
  have hg : zs.getD n default = zs[n]'(by omega) := by simp [List.getD_eq_getElem?_getD, List.getElem?_eq_getElem (show n < zs.length by omega)]
  rw [← h1, ← hz, hg]
  have := List.take_append_drop n zs
  rw [List.drop_eq_getElem_cons (by omega), List.drop_eq_nil_of_le (by omega)] at this
  exact this.symm
 have h3 : (xs.getD 0 default :: zs.take n).Perm zs := by
  conv => rhs; rw [h2]
  exact (List.perm_append_comm (l₁ := zs.take n) (l₂ := [xs.getD 0 default])).symm
 exact (h3.trans hp).trans (swp_perm xs 0 n (by omega) (by omega))

set_option maxHeartbeats 1000000 in
theorem heap_pop (H : Heaped α 55 172 175 (.pointer (some ⟨p, 0, none⟩)) lt St Fr) (o : Ord lt) (n : Nat) (xs : List α) (V : α → Value) (w : World) (hs : St w xs) (hn : xs.length = n + 1) (hu : Hp lt (n + 1) xs)
 (hp : ∀ w ys, St w ys → ys.length = n + 1 → Calls Tryz.prog 173 #[.pointer (some ⟨p, 0, none⟩)] w fun e w' => e = .returned (V (ys.getD n default)) ∧ St w' (ys.take n) ∧ Fr w w') :
 Calls Tryz.prog 56 #[.iface 121 (.pointer (some ⟨p, 0, none⟩))] w fun e w' => e = .returned (V (xs.getD 0 default)) ∧ ∃ ys, St w' ys ∧ (xs.getD 0 default :: ys).Perm xs ∧ Hp lt n ys ∧ Fr w w' := by
 have HH := Lib.hid H
 have HO := Lib.hid o
 have HP := Lib.hid hp
 have HL := Lib.hid hn
 have HU := Lib.hid hu
 have HS := Lib.hid hs
 clear hs hu H o hp hn
 go_enter Tryz.func56, Tryz.ntmps56
 go_wp2_with fail
 have hc := HH.out.len w _ HS.out
 have hsm := HH.out.small w _ HS.out
 rw [HL.out] at hc hsm
 refine hc.mono ?_; clear hc; rintro e w1 ⟨rfl, s1, f1⟩
 have S1 := Lib.hid s1
 have F1 := Lib.hid f1
 clear s1 f1
 have hq : ((n + 1 : Nat) : Int) = (n : Int) + 1 := by omega
 rw [hq]
 clear hq
 go_wp2_with fail
 refine (HH.out.swap w1 xs 0 n S1.out (by rw [HL.out]; omega) (by rw [HL.out]; omega)).mono ?_; rintro e w2 ⟨rfl, s2, f2⟩
 have S2 := Lib.hid s2
 have F2 := Lib.hid f2
 clear s2 f2
 go_wp2_with fail
 refine (heap_down HH.out HO.out n (n + 1) (swp xs 0 n) 0 w2 S2.out (by rw [swp_length, HL.out]) (by omega) (by omega) (HU.out.dn HL.out).ex).mono ?_; rintro e w3 ⟨b, zs, rfl, s3, p3, k3, ⟨h3, h3'⟩, f3⟩
 have S3 := Lib.hid s3
 have F3 := Lib.hid f3
 have P3 := Lib.hid (pop_perm HL.out p3 (k3 n (Nat.le_refl _)))
 have Z3 := Lib.hid (show zs.length = n + 1 by rw [p3.length_eq, swp_length, HL.out])
 have X3 := Lib.hid (show zs.getD n default = xs.getD 0 default by rw [k3 n (Nat.le_refl _), swp_getD _ _ _ _ (by rw [HL.out]; omega) (by rw [HL.out]; omega), if_pos rfl])
 have H3 := Lib.hid (pop_hp HU.out HL.out h3 h3')
 clear s3 f3 h3 h3' p3 k3
 go_wp2_with fail
 refine (HP.out w3 zs S3.out Z3.out).mono ?_; rintro e w4 ⟨rfl, s4, f4⟩
 rw [X3.out]
 have S4 := Lib.hid s4
 have F4 := Lib.hid f4
 clear s4 f4
 go_wp2_with fail
 go_ret
 exact ⟨rfl, zs.take n, S4.out, P3.out, H3.out.take, HH.out.trans _ _ _ (HH.out.trans _ _ _ (HH.out.trans _ _ _ F1.out F2.out) F3.out) F4.out⟩
end
end Go.Proofs.YtmjnmpifibemjaaGreatDoor

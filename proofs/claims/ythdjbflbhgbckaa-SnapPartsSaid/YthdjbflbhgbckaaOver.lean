/-
  SnapOver: an iterator, the box of what it told, the list of what was told.
-/
import Derived.Test.YthdjbflbhgbckaaLawSMs
import Derived.Test.YthdjbflbhgbckaaIter2
set_option linter.unusedVariables false
namespace Go.Proofs.Ythdjbflbhgbckaa
open Go.RowKit Stab Snap Mrg
attribute [local go_sem] litStep_value

theorem own_lit {w : World} {g B n s : Nat} {e : TypeId} {cs : Array Value} {xs : List Value} (h : Blk w g e cs) (hc : cs.toList = xs) (hs : cs.size = n * s) (hn : n ≤ 1000000) (hB : B ≤ g) : w.ownsRow B e s (.slice (some ⟨g, 0, none⟩) n n) n xs := by
  subst hc
  exact ⟨by simpa using hs, .inr ⟨g, n, cs, rfl, hB, h, Nat.le_refl _, by simp only [maxLen]; omega, hs, List.take_of_length_le (by rw [Array.length_toList, hs]; exact Nat.le_refl _)⟩⟩
structure OvS (w0 wr : World) (ib sb pb : Nat) (at_ : Nat) (o : Option (Int × Int)) (v : Value) (acc : PL) : Prop where
  u : Upd [ib] w0 wr
  it : Blk wr ib 87 #[.pointer (some ⟨sb, 0, none⟩), .int .i64 (at_ : Nat)]
  p : Blk wr pb 42 (cellsO o)
  pB : w0.heap.size ≤ pb
  out : Ow encPr 42 wr w0.heap.size v acc
  ne : v.ownBlock ≠ some pb
section
variable {w0 wr w1 : World} {ib sb pb at_ : Nat} {o : Option (Int × Int)} {v v' : Value} {acc : PL}
theorem OvS.upd0 (h : OvS w0 wr ib sb pb at_ o v acc) (hu : Upd [] wr w1) : OvS w0 w1 ib sb pb at_ o v acc :=
  ⟨h.u.trans (hu.mono (by simp)), h.it.upd hu (by simp), h.p.upd hu (by simp), h.pB, h.out.upd0 hu, h.ne⟩
/-- More is told: a list of its own grows. -/
theorem OvS.push {x : Int × Int} (h : OvS w0 wr ib sb pb at_ o v acc) (ho : Ow encPr 42 w1 w0.heap.size v' (acc ++ [x])) (hu : Upd v.ownBlock.toList wr w1) (hb : v'.ownBlock = v.ownBlock ∨ v'.ownBlock = some wr.heap.size) : OvS w0 w1 ib sb pb at_ o v' (acc ++ [x]) :=
  ⟨h.u.trans' hu (fun y hy => .inr (own_blk h.out hy).1), h.it.upd hu (fun hm => own_type h.out h.it (by decide) (by simpa using hm)), h.p.upd hu (fun hm => h.ne (by simpa using hm)), h.pB, ho, by
    rcases hb with hb | hb
    · rw [hb]; exact h.ne
    · rw [hb]; intro e; injection e with e; have := h.p.lt; omega⟩
/-- A list that is new. -/
theorem OvS.renew {acc' : PL} (h : OvS w0 wr ib sb pb at_ o v acc) (ho : Ow encPr 42 w1 wr.heap.size v' acc') (hu : Upd [] wr w1) : OvS w0 w1 ib sb pb at_ o v' acc' :=
  ⟨h.u.trans (hu.mono (by simp)), h.it.upd hu (by simp), h.p.upd hu (by simp), h.pB, own_base ho h.u.size, by
    intro e
    have := (own_blk ho (b := pb) (by simp [e])).1
    have := h.p.lt
    omega⟩
/-- The box is a new one, the iterator has told. -/
theorem OvS.told {w2 : World} {at2 : Nat} {o2 : Option (Int × Int)} (h : OvS w0 wr ib sb pb at_ o v acc) (x y : Int) (hi : Blk w2 ib 87 #[.pointer (some ⟨sb, 0, none⟩), .int .i64 (at2 : Nat)]) (hu : Upd [ib] (wr.alloc (.cells #[.int .i64 x, .int .i64 y] 42)) w2) (x2 y2 : Int) (hx : (o2.map (·.1)).getD 0 = x2) (hy : (o2.map (·.2)).getD 0 = y2) :
    OvS w0 ((w2.setCell ⟨wr.heap.size, 0, none⟩ (.int .i64 x2)).setCell ⟨wr.heap.size, 1, none⟩ (.int .i64 y2)) ib sb wr.heap.size at2 o2 v acc := by
  subst hx hy
  have bl := h.it.lt
  have ob := h.out.upd0 ((Upd.refl [] wr).alloc (.cells #[.int .i64 x, .int .i64 y] 42))
  have oi := ((h.it.upd ((Upd.refl [] wr).alloc (.cells #[.int .i64 x, .int .i64 y] 42)) (by simp)))
  have o2 := ob.upd hu (fun z hz hm => own_type ob oi (by decide) (by rw [hz]; simpa using hm))
  have p2 := (Blk.new wr 42 #[.int .i64 x, .int .i64 y]).upd hu (by simp; omega)
  have nv : v.ownBlock ≠ some wr.heap.size := fun e => by have := (own_lt h.out e).2; omega
  refine ⟨?_, ?_, (p2.set_eq rfl).set_eq rfl, h.u.size, (o2.upd ((((Upd.refl [wr.heap.size] w2).setCell (.inl (by simp)) _).setCell (.inl (by simp)) _)) (fun z hz hm => nv (by rw [hz]; simpa using hm))), nv⟩
  · exact (h.u.trans (((Upd.refl [] wr).alloc _).mono (by simp) |>.trans hu)).setCell (.inr h.u.size) _ |>.setCell (.inr h.u.size) _
  · exact (hi.far (by simp; omega) _).far (by simp; omega) _
end
end Go.Proofs.Ythdjbflbhgbckaa

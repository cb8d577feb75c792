/-
  Which blocks may have turned, said by a predicate. No program in sight.
-/
import Derived.Test.YtainiojlhdbhgaaDoorBase
namespace Go.Proofs.YtainiojlhdbhgaaDoor
open Go.RowKit

/-- From w to w' only blocks of O, and new ones, may have turned. -/
structure UpdP (O : Nat → Prop) (w w' : World) : Prop where
  os : w'.os = w.os
  tape : w'.tape = w.tape
  output : w'.output = w.output
  size : w.heap.size ≤ w'.heap.size
  keep : ∀ k, k < w.heap.size → ¬ O k → w'.heap[k]? = w.heap[k]?
theorem UpdP.refl (O : Nat → Prop) (w : World) : UpdP O w w := ⟨rfl, rfl, rfl, Nat.le_refl _, fun _ _ _ => rfl⟩
theorem UpdP.trans {O O' : Nat → Prop} {a b c : World} (h : UpdP O a b) (k : UpdP O' b c) (hO : ∀ x, O' x → O x ∨ a.heap.size ≤ x) : UpdP O a c :=
  ⟨k.os.trans h.os, k.tape.trans h.tape, k.output.trans h.output, Nat.le_trans h.size k.size, fun i hi hn =>
    (k.keep i (Nat.lt_of_lt_of_le hi h.size) (fun hm => (hO i hm).elim hn (by omega))).trans (h.keep i hi hn)⟩
theorem UpdP.of_upd {S : List Nat} {O : Nat → Prop} {w w' : World} (h : Upd S w w') (hS : ∀ x ∈ S, O x ∨ w.heap.size ≤ x) : UpdP O w w' :=
  ⟨h.os, h.tape, h.output, h.size, fun k hk hn => h.keep k hk (fun hm => (hS k hm).elim hn (by omega))⟩
theorem UpdP.below {O : Nat → Prop} {B : Nat} {w w' : World} (h : UpdP O w w') (hB : B ≤ w.heap.size) (hO : ∀ x, O x → B ≤ x) : Below B w w' :=
  ⟨h.os, h.tape, h.output, h.size, fun k hk => h.keep k (by omega) (fun hm => by have := hO k hm; omega)⟩
theorem Blk.updP {O : Nat → Prop} {w w' : World} {g : Nat} {t : TypeId} {cs : Array Value} (h : Blk w g t cs) (hu : UpdP O w w') (hg : ¬ O g) : Blk w' g t cs := (hu.keep g h.lt hg).trans h

theorem UpdP.to_upd {O : Nat → Prop} {w w1 w2 : World} (h : UpdP O w1 w2) (h0 : Upd [] w w1) (hO : ∀ x, O x → w.heap.size ≤ x) : Upd [] w w2 :=
  ⟨h.os.trans h0.os, h.tape.trans h0.tape, h.output.trans h0.output, Nat.le_trans h0.size h.size, fun k hk hn => (h.keep k (Nat.lt_of_lt_of_le hk h0.size) (fun ho => by have := hO k ho; omega)).trans (h0.keep k hk hn)⟩
theorem UpdP.mono {O O' : Nat → Prop} {w w' : World} (h : UpdP O w w') (hO : ∀ x, O x → O' x ∨ w.heap.size ≤ x) : UpdP O' w w' :=
  ⟨h.os, h.tape, h.output, h.size, fun k hk hn => h.keep k hk fun ho => (hO k ho).elim hn (by omega)⟩
end Go.Proofs.YtainiojlhdbhgaaDoor

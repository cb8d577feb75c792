/-
  General lemmas, no program in sight: blocks known whole, which blocks may have turned, comparing two interface values of one integer type.
  Heaps in lists, plainly: no Go in sight.
  container/heap over one kind of thing: up, down, by contracts. What the things are is said by St; the methods come in as contracts.
  container/heap over one kind of thing: Push, Pop, by contracts.
  Slices that the call owns: what their cells hold, what a store, a reslice, a step that leaves their block alone makes of them. No program in sight.
  append onto a slice that the call owns, of whatever source; slices of slices. No program in sight.
  Maps whatever their keys are, as long as these can be told apart: what they hold, what a look-up, a store, a delete, an assignment's two halves make of them. No program in sight.
  Keys that are structs, or arrays, of integers; a key that is one integer. No program in sight.
-/
import Derived.Below
import Derived.Laws.OwnMore
import Derived.Deep.Draws
import Derived.Laws.Rows
import Derived.LaidEql
import Derived.WalkKit
import Derived.WalkSpells
import Derived.WalkLawsBesides
import Derived.Handy
import Derived.Lib.Hide
import Derived.Test.YteddiknlcdbhjaaGreatProg
import Derived.Deep.AppendLies
import Derived.Maps.AppendAt
import Derived.RegionTactic
import Derived.OwnWalk
import Derived.Deep.Slices
import Derived.Deep.Fields
import Derived.MapKept
import Derived.Maps.Own
import Derived.WideKeyRuns
set_option linter.unusedVariables false
namespace Go.Proofs.YteddiknlcdbhjaaGreat
open Go.RowKit

theorem add_head (b j : Nat) : (⟨b, 0, none⟩ : Addr).add j = ⟨b, j, none⟩ := by
  unfold Addr.add
  split
  · rename_i h; subst h; rfl
  · simp
theorem add_at (b i j : Nat) : (⟨b, i, none⟩ : Addr).add j = ⟨b, i + j, none⟩ := by
  unfold Addr.add
  split
  · rename_i h; subst h; rfl
  · simp

/-- Block g is just the cells cs of element type t, none frozen. -/
def Blk (w : World) (g : Nat) (t : TypeId) (cs : Array Value) : Prop := w.heap[g]? = some (.cells cs t (0, 0))

section
variable {w w' : World} {g : Nat} {t : TypeId} {cs : Array Value}
theorem Blk.lt (h : Blk w g t cs) : g < w.heap.size := by
  rcases Nat.lt_or_ge g w.heap.size with hlt | hge
  · exact hlt
  · unfold Blk at h; rw [Array.getElem?_eq_none hge] at h; cases h
theorem Blk.cell (h : Blk w g t cs) (i : Nat) : w.cell? ⟨g, i, none⟩ = cs[i]? := cell_of_row w g i cs t (0, 0) h
theorem Blk.frozen (h : Blk w g t cs) (i : Nat) : w.frozen? ⟨g, i, none⟩ = false := by
  unfold Blk at h
  simp [World.frozen?, h]
theorem Blk.new (w : World) (t : TypeId) (cs : Array Value) : Blk (w.alloc (.cells cs t)) w.heap.size t cs := heap_alloc_new w _
theorem Blk.drew (h : Blk w g t cs) : Blk w.drew g t cs := h
theorem Blk.drewN (h : Blk w g t cs) (n : Nat) : Blk (w.drewN n) g t cs := h
theorem Blk.alloc (h : Blk w g t cs) (o : Obj) : Blk (w.alloc o) g t cs := (Below.heap_alloc w o g h.lt).trans h
theorem Blk.set_ (h : Blk w g t cs) (i : Nat) (u : Value) : Blk (w.setCell ⟨g, i, none⟩ u) g t (cs.setIfInBounds i u) := by
  unfold Blk at h ⊢
  simp [World.setCell, Array.getElem?_modify, h]
theorem Blk.set_eq {cs' : Array Value} {i : Nat} {u : Value} (h : Blk w g t cs) (e : cs.setIfInBounds i u = cs') : Blk (w.setCell ⟨g, i, none⟩ u) g t cs' := e ▸ h.set_ i u
theorem Blk.far (h : Blk w g t cs) {p : Addr} (hp : g ≠ p.block) (u : Value) : Blk (w.setCell p u) g t cs := (Below.heap_setCell w p u g hp).trans h
theorem Blk.below {B : Nat} (h : Blk w g t cs) (hb : Below B w w') (hg : g < B) : Blk w' g t cs := (hb.block g hg).trans h
theorem Blk.grown {row : Option Nat} (h : Blk w g t cs) (hb : w.grownBy w' row) (hg : some g ≠ row) : Blk w' g t cs := (hb.block g h.lt hg).trans h
theorem Blk.ne_ {g' : Nat} {t' : TypeId} {cs' : Array Value} (h : Blk w g t cs) (h' : Blk w g' t' cs') (hne : t ≠ t') : g ≠ g' := by
  rintro rfl
  unfold Blk at h h'
  rw [h] at h'
  injection h' with h'
  injection h' with _ ht
  exact hne ht
/-- What a walk wants of a block that it loads from and stores into, with room for four new blocks behind it. -/
theorem Blk.facts (h : Blk w g t cs) : (∀ i, w.cell? ⟨g, i, none⟩ = cs[i]?) ∧ (∀ i, w.frozen? ⟨g, i, none⟩ = false) ∧ g < w.heap.size ∧ g ≤ w.heap.size ∧ g ≤ w.heap.size + 1 ∧ g ≤ w.heap.size + 1 + 1 ∧ g ≤ w.heap.size + 1 + 1 + 1 :=
  ⟨h.cell, h.frozen, h.lt, by have := h.lt; omega, by have := h.lt; omega, by have := h.lt; omega, by have := h.lt; omega⟩
end

/-- From w to w' no old block has turned but those in S; the streams are as they were; no block has gone. -/
structure Upd (S : List Nat) (w w' : World) : Prop where
  os : w'.os = w.os
  tape : w'.tape = w.tape
  output : w'.output = w.output
  size : w.heap.size ≤ w'.heap.size
  keep : ∀ k, k < w.heap.size → k ∉ S → w'.heap[k]? = w.heap[k]?

section
variable {S : List Nat} {a w w' : World}
theorem Upd.refl (S : List Nat) (w : World) : Upd S w w := ⟨rfl, rfl, rfl, Nat.le_refl _, fun _ _ _ => rfl⟩
theorem Upd.trans {b c : World} (h : Upd S a b) (k : Upd S b c) : Upd S a c :=
  ⟨k.os.trans h.os, k.tape.trans h.tape, k.output.trans h.output, Nat.le_trans h.size k.size, fun i hi hn => (k.keep i (Nat.lt_of_lt_of_le hi h.size) hn).trans (h.keep i hi hn)⟩
/-- Two steps; the second one may turn other blocks too, as long as they are new. -/
theorem Upd.trans' {T : List Nat} {b c : World} (h : Upd S a b) (k : Upd T b c) (hT : ∀ x ∈ T, x ∈ S ∨ a.heap.size ≤ x) : Upd S a c :=
  ⟨k.os.trans h.os, k.tape.trans h.tape, k.output.trans h.output, Nat.le_trans h.size k.size, fun i hi hn =>
    (k.keep i (Nat.lt_of_lt_of_le hi h.size) (fun hm => (hT i hm).elim hn (by omega))).trans (h.keep i hi hn)⟩
theorem Upd.mono {T : List Nat} (h : Upd S w w') (hT : ∀ x ∈ S, x ∈ T ∨ w.heap.size ≤ x) : Upd T w w' :=
  ⟨h.os, h.tape, h.output, h.size, fun k hk hn => h.keep k hk (fun hm => (hT k hm).elim hn (by omega))⟩
theorem Upd.drew (h : Upd S a w) : Upd S a w.drew := ⟨h.os, h.tape, h.output, h.size, h.keep⟩
theorem Upd.drewN (h : Upd S a w) (n : Nat) : Upd S a (w.drewN n) := ⟨h.os, h.tape, h.output, h.size, h.keep⟩
theorem Upd.alloc (h : Upd S a w) (o : Obj) : Upd S a (w.alloc o) :=
  ⟨h.os, h.tape, h.output, Nat.le_trans h.size (by simp), fun i hi hne => (Below.heap_alloc w o i (Nat.lt_of_lt_of_le hi h.size)).trans (h.keep i hi hne)⟩
theorem Upd.setCell (h : Upd S a w) {p : Addr} (hp : p.block ∈ S ∨ a.heap.size ≤ p.block) (u : Value) : Upd S a (w.setCell p u) :=
  ⟨h.os, h.tape, h.output, by simpa [World.setCell] using h.size, fun i hi hne => (Below.heap_setCell w p u i (by
    rintro rfl
    exact hp.elim hne (by omega))).trans (h.keep i hi hne)⟩
theorem Upd.grown {row : Option Nat} (h : Upd S a w) (hg : w.grownBy w' row) (hr : ∀ k, row = some k → k ∈ S ∨ a.heap.size ≤ k) : Upd S a w' :=
  ⟨hg.os.trans h.os, hg.tape.trans h.tape, hg.output.trans h.output, Nat.le_trans h.size hg.size, fun i hi hne =>
    (hg.block i (Nat.lt_of_lt_of_le hi h.size) (fun e => (hr i e.symm).elim hne (by omega))).trans (h.keep i hi hne)⟩
theorem Upd.of_below {B : Nat} (h : Below B w w') (hB : w.heap.size ≤ B) : Upd S w w' := ⟨h.os, h.tape, h.output, h.size, fun k hk _ => h.block k (by omega)⟩
theorem Upd.below {B : Nat} (h : Upd S w w') (hB : B ≤ w.heap.size) (hS : ∀ x ∈ S, B ≤ x) : Below B w w' :=
  ⟨h.os, h.tape, h.output, h.size, fun k hk => h.keep k (by omega) (fun hm => by have := hS k hm; omega)⟩
theorem Blk.upd {g : Nat} {t : TypeId} {cs : Array Value} (h : Blk w g t cs) (hu : Upd S w w') (hg : g ∉ S) : Blk w' g t cs := (hu.keep g h.lt hg).trans h
end

/-- A slice value of n elements (one cell each) whose elements are the head of block b. -/
def Heads (w : World) (b : Nat) (e : TypeId) (xs : List Value) : Prop := ∃ cs : Array Value, Blk w b e cs ∧ cs.toList.take xs.length = xs
theorem Heads.cell {w : World} {b : Nat} {e : TypeId} {xs : List Value} (h : Heads w b e xs) (j : Nat) (u : Value) (hj : xs[j]? = some u) : w.cell? ⟨b, j, none⟩ = some u := by
  obtain ⟨cs, hb, ht⟩ := h
  have hl : j < xs.length := (List.getElem?_eq_some_iff.1 hj).1
  rw [hb.cell, ← hj, ← ht, List.getElem?_take, if_pos hl, Array.getElem?_toList]
theorem Heads.upd {S : List Nat} {w w' : World} {b : Nat} {e : TypeId} {xs : List Value} (h : Heads w b e xs) (hu : Upd S w w') (hb : b ∉ S) : Heads w' b e xs := by
  obtain ⟨cs, h1, h2⟩ := h
  exact ⟨cs, h1.upd hu hb, h2⟩
theorem Heads.lt {w : World} {b : Nat} {e : TypeId} {xs : List Value} (h : Heads w b e xs) : b < w.heap.size := by
  obtain ⟨cs, h1, h2⟩ := h
  exact h1.lt
/-- A row that the call owns and that is not nil. -/
theorem heads_of_own {w : World} {base : Nat} {e : TypeId} {n : Nat} {v : Value} {xs : List Value} (h : w.ownsRow base e 1 v n xs) (hv : v ≠ .slice none 0 0) :
    ∃ g c, v = .slice (some ⟨g, 0, none⟩) n c ∧ n ≤ c ∧ base ≤ g ∧ Heads w g e xs ∧ xs.length = n := by
  obtain ⟨hl, h2⟩ := h
  rcases h2 with ⟨h2, _⟩ | ⟨g, cap, cur, hv', hg, hh, hn, _, _, ht⟩
  · exact absurd h2 hv
  · refine ⟨g, cap, hv', hn, hg, ⟨cur, hh, ?_⟩, by omega⟩
    rw [hl]; exact ht

section
variable {P : Program} (w : World)
theorem run_equalIn_iface_int (d : Nat) {ti tn : TypeId} {ms : Array (String × TypeId)} {i : TypeInfo} {k : IntKind} (a b : Int)
    (hi : P.underlying ti = some (.interface ms)) (hn : P.underlying tn = some (.int k)) (hinfo : P.info? tn = some i) (hcomp : i.comparable = true) :
    (Op.equalIn (d + 2) ti (.iface tn (.int k a)) (.iface tn (.int k b))).run P w = .ok (a == b) w := by
  simp [Op.equalIn, run_underlying hi, run_underlying hn, typeInfo, hinfo, hcomp]
/-- 'x == y', both interface values of ONE integer type: as the numbers are. -/
theorem run_eql_iface_int {ti tn : TypeId} {ms : Array (String × TypeId)} {i : TypeInfo} {k : IntKind} (a b : Int)
    (hi : P.underlying ti = some (.interface ms)) (hn : P.underlying tn = some (.int k)) (hinfo : P.info? tn = some i) (hcomp : i.comparable = true) :
    (binOp .eql ti (.iface tn (.int k a)) (.iface tn (.int k b))).run P w = .ok (.bool (a == b)) w := by
  simp only [binOp]
  simp [Op.equal, Op.maxDepth, run_equalIn_iface_int w 9998 a b hi hn hinfo hcomp]
end
end Go.Proofs.YteddiknlcdbhjaaGreat

namespace Go.Proofs.YteddiknlcdbhjaaGreat.HeapPlain

/-- What is asked of 'stands ahead': it is not both ways, and 'not behind' goes on. -/
structure Ord {α : Type} (lt : α → α → Bool) : Prop where
  asym : ∀ a b, lt a b = true → lt b a = false
  tran : ∀ a b c, lt b a = false → lt c b = false → lt c a = false

variable {α : Type} [Inhabited α]

def swp (xs : List α) (i j : Nat) : List α := (xs.set i (xs.getD j default)).set j (xs.getD i default)

theorem swp_length (xs : List α) (i j : Nat) : (swp xs i j).length = xs.length := by simp [swp]
theorem swp_getD (xs : List α) (i j k : Nat) (hi : i < xs.length) (hj : j < xs.length) :
    (swp xs i j).getD k default = if k = j then xs.getD i default else if k = i then xs.getD j default else xs.getD k default := by
  unfold swp
  simp only [List.getD_eq_getElem?_getD, List.getElem?_set, List.length_set]
  by_cases h1 : k = j
  · subst h1; simp [hj]
  · rw [if_neg (fun h => h1 h.symm), if_neg h1]
    by_cases h2 : k = i
    · subst h2; simp [hi]
    · rw [if_neg (fun h => h2 h.symm), if_neg h2]
theorem swp_perm (xs : List α) (i j : Nat) (hi : i < xs.length) (hj : j < xs.length) : (swp xs i j).Perm xs := by
  unfold swp
  rw [List.getD_eq_getElem?_getD, List.getD_eq_getElem?_getD, List.getElem?_eq_getElem hi, List.getElem?_eq_getElem hj]
  exact List.set_set_perm hi hj

/-- The first n are a heap. -/
def Hp (lt : α → α → Bool) (n : Nat) (xs : List α) : Prop := ∀ k, 0 < k → k < n → lt (xs.getD k default) (xs.getD ((k - 1) / 2) default) = false
/-- A heap but for what stands at j, which may have to go up. -/
def Up (lt : α → α → Bool) (n : Nat) (xs : List α) (j : Nat) : Prop :=
  (∀ k, 0 < k → k < n → k ≠ j → lt (xs.getD k default) (xs.getD ((k - 1) / 2) default) = false) ∧
  (∀ k, 0 < k → k < n → (k - 1) / 2 = j → 0 < j → lt (xs.getD k default) (xs.getD ((j - 1) / 2) default) = false)
/-- A heap but for what stands at i, which may have to go down. -/
def Dn (lt : α → α → Bool) (n : Nat) (xs : List α) (i : Nat) : Prop :=
  (∀ k, 0 < k → k < n → (k - 1) / 2 ≠ i → lt (xs.getD k default) (xs.getD ((k - 1) / 2) default) = false) ∧
  (∀ k, 0 < k → k < n → (k - 1) / 2 = i → 0 < i → lt (xs.getD k default) (xs.getD ((i - 1) / 2) default) = false)

theorem Up.stop {lt : α → α → Bool} {n : Nat} {xs : List α} {j : Nat} (h : Up lt n xs j) (hj : j = 0 ∨ lt (xs.getD j default) (xs.getD ((j - 1) / 2) default) = false) : Hp lt n xs := by
  intro k h0 hk
  by_cases e : k = j
  · subst e
    rcases hj with hj | hj
    · omega
    · exact hj
  · exact h.1 k h0 hk e

theorem Up.step {lt : α → α → Bool} (o : Ord lt) {n : Nat} {xs : List α} {j : Nat} (h : Up lt n xs j) (hn : n ≤ xs.length) (hj : j < n) (h0 : 0 < j)
    (hl : lt (xs.getD j default) (xs.getD ((j - 1) / 2) default) = true) : Up lt n (swp xs ((j - 1) / 2) j) ((j - 1) / 2) := by
  have hi : (j - 1) / 2 < j := by omega
  constructor
  · intro k k0 kn ke
    rw [swp_getD _ _ _ _ (by omega) (by omega), swp_getD _ _ _ _ (by omega) (by omega)]
    by_cases e1 : k = j
    · subst e1
      rw [if_pos rfl, if_neg (by omega), if_pos rfl]
      exact o.asym _ _ hl
    · rw [if_neg e1, if_neg ke]
      by_cases e2 : (k - 1) / 2 = j
      · rw [if_pos e2]
        exact h.2 k k0 kn e2 h0
      · rw [if_neg e2]
        by_cases e3 : (k - 1) / 2 = (j - 1) / 2
        · rw [if_pos e3]
          have a1 := h.1 k k0 kn e1
          rw [e3] at a1
          exact o.tran _ _ _ (o.asym _ _ hl) a1
        · rw [if_neg e3]
          exact h.1 k k0 kn e1
  · intro k k0 kn ke i0
    rw [swp_getD _ _ _ _ (by omega) (by omega), swp_getD _ _ _ _ (by omega) (by omega)]
    have b1 : ¬ ((j - 1) / 2 - 1) / 2 = j := by omega
    have b2 : ¬ ((j - 1) / 2 - 1) / 2 = (j - 1) / 2 := by omega
    rw [if_neg b1, if_neg b2]
    have p1 := h.1 ((j - 1) / 2) i0 (by omega) (by omega)
    by_cases e1 : k = j
    · subst e1
      rw [if_pos rfl]
      exact p1
    · rw [if_neg e1, if_neg (by omega)]
      have a1 := h.1 k k0 kn e1
      rw [ke] at a1
      exact o.tran _ _ _ p1 a1

theorem Hp.up {lt : α → α → Bool} {xs : List α} (h : Hp lt xs.length xs) (x : α) : Up lt (xs.length + 1) (xs ++ [x]) xs.length := by
  have g : ∀ k, k < xs.length → (xs ++ [x]).getD k default = xs.getD k default := fun k hk => by
    simp only [List.getD_eq_getElem?_getD]
    rw [List.getElem?_append_left hk]
  constructor
  · intro k k0 kn ke
    rw [g k (by omega), g _ (by omega)]
    exact h k k0 (by omega)
  · intro k k0 kn ke
    omega

theorem Dn.stop {lt : α → α → Bool} {n : Nat} {xs : List α} {i : Nat} (h : Dn lt n xs i) (hc : ∀ k, 0 < k → k < n → (k - 1) / 2 = i → lt (xs.getD k default) (xs.getD i default) = false) : Hp lt n xs := by
  intro k k0 kn
  by_cases e : (k - 1) / 2 = i
  · rw [e]; exact hc k k0 kn e
  · exact h.1 k k0 kn e

/-- A heap but for what stands at i, which may have to go either way. -/
def Ex (lt : α → α → Bool) (n : Nat) (xs : List α) (i : Nat) : Prop :=
  (∀ k, 0 < k → k < n → k ≠ i → (k - 1) / 2 ≠ i → lt (xs.getD k default) (xs.getD ((k - 1) / 2) default) = false) ∧
  (∀ k, 0 < k → k < n → (k - 1) / 2 = i → 0 < i → lt (xs.getD k default) (xs.getD ((i - 1) / 2) default) = false)
theorem Dn.ex {lt : α → α → Bool} {n : Nat} {xs : List α} {i : Nat} (h : Dn lt n xs i) : Ex lt n xs i := ⟨fun k a b _ c => h.1 k a b c, h.2⟩
theorem Ex.up {lt : α → α → Bool} {n : Nat} {xs : List α} {i : Nat} (h : Ex lt n xs i) (hc : ∀ k, 0 < k → k < n → (k - 1) / 2 = i → lt (xs.getD k default) (xs.getD i default) = false) : Up lt n xs i := by
  refine ⟨fun k k0 kn ke => ?_, h.2⟩
  by_cases e : (k - 1) / 2 = i
  · rw [e]; exact hc k k0 kn e
  · exact h.1 k k0 kn ke e

theorem Ex.step {lt : α → α → Bool} (o : Ord lt) {n : Nat} {xs : List α} {i j : Nat} (h : Ex lt n xs i) (hn : n ≤ xs.length) (hj : j < n) (h0 : 0 < j) (hp : (j - 1) / 2 = i)
    (hl : lt (xs.getD j default) (xs.getD i default) = true) (hc : ∀ k, 0 < k → k < n → (k - 1) / 2 = i → lt (xs.getD k default) (xs.getD j default) = false) : Dn lt n (swp xs i j) j := by
  have hi : i < j := by omega
  constructor
  · intro k k0 kn ke
    rw [swp_getD _ _ _ _ (by omega) (by omega), swp_getD _ _ _ _ (by omega) (by omega)]
    rw [if_neg ke]
    by_cases e1 : k = j
    · subst e1
      rw [if_pos rfl, if_pos hp]
      exact o.asym _ _ hl
    · rw [if_neg e1]
      by_cases e2 : k = i
      · subst e2
        rw [if_pos rfl, if_neg (by omega)]
        exact h.2 j h0 hj hp k0
      · rw [if_neg e2]
        by_cases e3 : (k - 1) / 2 = i
        · rw [if_pos e3]
          exact hc k k0 kn e3
        · rw [if_neg e3]
          exact h.1 k k0 kn e2 e3
  · intro k k0 kn ke j0
    rw [swp_getD _ _ _ _ (by omega) (by omega), swp_getD _ _ _ _ (by omega) (by omega)]
    rw [if_neg (by omega), if_neg (by omega), if_neg (by omega), if_pos hp]
    have a1 := h.1 k k0 kn (by omega) (by omega)
    rw [ke] at a1
    exact a1

theorem Hp.dn {lt : α → α → Bool} {n : Nat} {xs : List α} (h : Hp lt (n + 1) xs) (hl : xs.length = n + 1) : Dn lt n (swp xs 0 n) 0 := by
  constructor
  · intro k k0 kn ke
    rw [swp_getD _ _ _ _ (by omega) (by omega), swp_getD _ _ _ _ (by omega) (by omega)]
    rw [if_neg (by omega), if_neg (by omega), if_neg (by omega), if_neg ke]
    exact h k k0 (by omega)
  · intro k k0 kn ke h0
    omega

theorem Hp.least {lt : α → α → Bool} (o : Ord lt) (hir : ∀ a, lt a a = false) {n : Nat} {xs : List α} (h : Hp lt n xs) : ∀ k, k < n → lt (xs.getD k default) (xs.getD 0 default) = false := by
  intro k
  induction k using Nat.strongRecOn with
  | _ k ih =>
    intro hk
    by_cases h0 : k = 0
    · subst h0; exact hir _
    · exact o.tran _ _ _ (ih ((k - 1) / 2) (by omega) (by omega)) (h k (by omega) hk)

theorem Hp.mono {lt : α → α → Bool} {n m : Nat} {xs : List α} (h : Hp lt n xs) (hm : m ≤ n) : Hp lt m xs := fun k k0 kn => h k k0 (Nat.lt_of_lt_of_le kn hm)
theorem Hp.take {lt : α → α → Bool} {n : Nat} {xs : List α} (h : Hp lt n xs) : Hp lt n (xs.take n) := by
  intro k k0 kn
  have g : ∀ j, j < n → (xs.take n).getD j default = xs.getD j default := fun j hj => by
    simp only [List.getD_eq_getElem?_getD]
    rw [List.getElem?_take, if_pos hj]
  rw [g k kn, g _ (by omega)]
  exact h k k0 kn
end Go.Proofs.YteddiknlcdbhjaaGreat.HeapPlain

namespace Go.Proofs.YteddiknlcdbhjaaGreat
open Go.RowKit HeapPlain

theorem half (k : Nat) (h : ¬ k = 0) : (((k - 1) / 2 : Nat) : Int) = ((k : Int) - 1) / 2 := by omega

/-- What the walks ask of the methods: T the dynamic type, pv the value. -/
structure Heaped (α : Type) [Inhabited α] (fLen fLess fSwap : FuncId) (pv : Value) (lt : α → α → Bool) (St : World → List α → Prop) (Fr : World → World → Prop) : Prop where
  refl : ∀ w, Fr w w
  trans : ∀ a b c, Fr a b → Fr b c → Fr a c
  len : ∀ w xs, St w xs → Calls Tryz.prog fLen #[pv] w fun e w' => e = .returned (.int .i64 xs.length) ∧ St w' xs ∧ Fr w w'
  less : ∀ w xs (i j : Nat), St w xs → i < xs.length → j < xs.length → Calls Tryz.prog fLess #[pv, .int .i64 i, .int .i64 j] w fun e w' => e = .returned (.bool (lt (xs.getD i default) (xs.getD j default))) ∧ St w' xs ∧ Fr w w'
  swap : ∀ w xs (i j : Nat), St w xs → i < xs.length → j < xs.length → Calls Tryz.prog fSwap #[pv, .int .i64 i, .int .i64 j] w fun e w' => e = .returned (.tuple #[]) ∧ St w' (swp xs i j) ∧ Fr w w'
  small : ∀ w xs, St w xs → xs.length ≤ 1000000

section
variable {α : Type} [Inhabited α] {lt : α → α → Bool} {St : World → List α → Prop} {Fr : World → World → Prop} {p : Nat}

set_option maxHeartbeats 1000000 in
theorem heap_up (H : Heaped α 24 112 115 (.pointer (some ⟨p, 0, none⟩)) lt St Fr) (o : Ord lt) (n : Nat) (xs : List α) (j : Nat) (w : World) (hs : St w xs) (hn : xs.length = n) (hj : j < n) (hu : Up lt n xs j) :
    Calls Tryz.prog 36 #[.iface 56 (.pointer (some ⟨p, 0, none⟩)), .int .i64 j] w fun e w' => e = .returned (.tuple #[]) ∧ ∃ ys, St w' ys ∧ ys.Perm xs ∧ Hp lt n ys ∧ Fr w w' := by
  have hsm : n ≤ 1000000 := hn ▸ H.small w xs hs
  have HH := Lib.hid H
  have HS := Lib.hid hs
  have HU := Lib.hid hu
  have HN := Lib.hid hn
  have HO := Lib.hid o
  clear hs hu H hn o
  go_enter Tryz.func36, Tryz.ntmps36
  go_wp2_with fail
  go_loopw [1] (fun v wr => ∃ (k : Nat) (ys : List α), v = .int .i64 k ∧ k < n ∧ Hid (St wr ys ∧ ys.Perm xs ∧ ys.length = n ∧ Up lt n ys k ∧ Fr w wr)) (fun v _ => (intOf v).toNat)
  case atStart => exact ⟨j, xs, rfl, hj, Lib.hid ⟨HS.out, .refl _, HN.out, HU.out, HH.out.refl _⟩⟩
  case round =>
    obtain ⟨k, ys, rfl, hk, HY⟩ := hrel
    by_cases h0 : k = 0
    · subst h0
      go_wp2_with fail
      go_end0
      obtain ⟨y1, y2, y3, y4, y5⟩ := HY.out
      exact ⟨rfl, ys, y1, y2, y4.stop (.inl rfl), y5⟩
    · cases hl : lt (ys.getD k default) (ys.getD ((k - 1) / 2) default) with
      | false =>
        have HL := Lib.hid hl
        clear hl
        go_wp2_with fail
        have hc := HH.out.less wr ys k ((k - 1) / 2) HY.out.1 (by rw [HY.out.2.2.1]; omega) (by rw [HY.out.2.2.1]; omega)
        rw [half k h0] at hc
        refine hc.mono ?_; clear hc; rintro e w1 ⟨he, s1, f1⟩
        rw [HL.out] at he
        subst he
        have S1 := Lib.hid s1
        have F1 := Lib.hid f1
        clear s1 f1
        go_wp2_with fail
        go_end0
        obtain ⟨y1, y2, y3, y4, y5⟩ := HY.out
        exact ⟨rfl, ys, S1.out, y2, y4.stop (.inr HL.out), HH.out.trans _ _ _ y5 F1.out⟩
      | true =>
        have HL := Lib.hid hl
        clear hl
        go_wp2_with fail
        have hc := HH.out.less wr ys k ((k - 1) / 2) HY.out.1 (by rw [HY.out.2.2.1]; omega) (by rw [HY.out.2.2.1]; omega)
        rw [half k h0] at hc
        refine hc.mono ?_; clear hc; rintro e w1 ⟨he, s1, f1⟩
        rw [HL.out] at he
        subst he
        have S1 := Lib.hid s1
        have F1 := Lib.hid f1
        clear s1 f1
        go_wp2_with fail
        have hc := HH.out.swap w1 ys ((k - 1) / 2) k S1.out (by rw [HY.out.2.2.1]; omega) (by rw [HY.out.2.2.1]; omega)
        rw [half k h0] at hc
        refine hc.mono ?_; clear hc; rintro e w2 ⟨rfl, s2, f2⟩
        have S2 := Lib.hid s2
        have F2 := Lib.hid f2
        clear s2 f2
        go_wp2_with fail
        go_roundw
        case rel =>
          obtain ⟨y1, y2, y3, y4, y5⟩ := HY.out
          exact ⟨(k - 1) / 2, _, by rw [half k h0], by omega, Lib.hid ⟨S2.out, (swp_perm ys _ _ (by omega) (by omega)).trans y2, by rw [swp_length]; exact y3, y4.step HO.out (by omega) (by omega) (by omega) HL.out, HH.out.trans _ _ _ (HH.out.trans _ _ _ y5 F1.out) F2.out⟩⟩
        case measure => simp [intOf]; omega
/-- What down tells where it stops. -/
theorem down_stop {n k i0 : Nat} {ys xs : List α} (hd : (k = i0 ∧ ys = xs) ∨ (i0 < k ∧ Dn lt n ys k)) (hc : ∀ m, 0 < m → m < n → (m - 1) / 2 = k → lt (ys.getD m default) (ys.getD k default) = false) {b : Bool} (hb : b = decide (i0 < k)) :
    (b = true → Hp lt n ys) ∧ (b = false → ys = xs ∧ ∀ k, 0 < k → k < n → (k - 1) / 2 = i0 → lt (xs.getD k default) (xs.getD i0 default) = false) := by
  subst hb
  rcases hd with ⟨rfl, rfl⟩ | ⟨h1, h2⟩
  · exact ⟨fun h => by simp at h, fun _ => ⟨rfl, hc⟩⟩
  · exact ⟨fun _ => h2.stop hc, fun h => by simp at h; omega⟩
/-- None of the two below k stands ahead of the one that is chosen. -/
theorem down_kids (o : Ord lt) {n k j : Nat} {ys : List α} (hj : j = 2 * k + 1 ∨ j = 2 * k + 2) (h1 : j = 2 * k + 1 → 2 * k + 2 < n → lt (ys.getD (2 * k + 2) default) (ys.getD (2 * k + 1) default) = false)
    (h2 : j = 2 * k + 2 → lt (ys.getD (2 * k + 2) default) (ys.getD (2 * k + 1) default) = true) : ∀ m, 0 < m → m < n → (m - 1) / 2 = k → lt (ys.getD m default) (ys.getD j default) = false := by
  intro m m0 mn mk
  have irr : ∀ a, lt a a = false := fun a => by
    cases h : lt a a with
    | false => rfl
    | true => exact (o.asym a a h).symm.trans h |>.symm ▸ rfl
  have hm : m = 2 * k + 1 ∨ m = 2 * k + 2 := by omega
  rcases hm with rfl | rfl <;> rcases hj with rfl | rfl
  · exact irr _
  · exact o.asym _ _ (h2 rfl)
  · exact h1 rfl mn
  · exact irr _

set_option maxHeartbeats 4000000 in
theorem heap_down (H : Heaped α 24 112 115 (.pointer (some ⟨p, 0, none⟩)) lt St Fr) (o : Ord lt) (n l : Nat) (xs : List α) (i0 : Nat) (w : World) (hs : St w xs) (hn : xs.length = l) (hnl : n ≤ l) (hi : i0 < l) (hu : Ex lt n xs i0) :
    Calls Tryz.prog 37 #[.iface 56 (.pointer (some ⟨p, 0, none⟩)), .int .i64 i0, .int .i64 n] w fun e w' => ∃ (b : Bool) (ys : List α), e = .returned (.bool b) ∧ St w' ys ∧ ys.Perm xs ∧ (∀ k, n ≤ k → ys.getD k default = xs.getD k default) ∧ ((b = true → Hp lt n ys) ∧ (b = false → ys = xs ∧ ∀ k, 0 < k → k < n → (k - 1) / 2 = i0 → lt (xs.getD k default) (xs.getD i0 default) = false)) ∧ Fr w w' := by
  have hsm : l ≤ 1000000 := hn ▸ H.small w xs hs
  have HH := Lib.hid H
  have HS := Lib.hid hs
  have HU := Lib.hid hu
  have HN := Lib.hid hn
  have HO := Lib.hid o
  clear hs hu H hn o
  go_enter Tryz.func37, Tryz.ntmps37
  go_wp2_with fail
  go_loopw [7] (fun v wr => ∃ (k : Nat) (ys : List α), v = .int .i64 k ∧ k < l ∧ Hid (St wr ys ∧ ys.Perm xs ∧ ys.length = l ∧ (∀ m, n ≤ m → ys.getD m default = xs.getD m default) ∧ Ex lt n ys k ∧ ((k = i0 ∧ ys = xs) ∨ (i0 < k ∧ Dn lt n ys k)) ∧ Fr w wr)) (fun v _ => l - (intOf v).toNat)
  case atStart => exact ⟨i0, xs, rfl, hi, Lib.hid ⟨HS.out, .refl _, HN.out, fun _ _ => rfl, HU.out, .inl ⟨rfl, rfl⟩, HH.out.refl _⟩⟩
  case round =>
    obtain ⟨k, ys, rfl, hk, HY⟩ := hrel
    have hq1 : ((2 * k + 1 : Nat) : Int) = 2 * (k : Int) + 1 := by omega
    have hq2 : ((2 * k + 2 : Nat) : Int) = 2 * (k : Int) + 1 + 1 := by omega
    have HQ1 := Lib.hid hq1
    have HQ2 := Lib.hid hq2
    clear hq1 hq2
    by_cases h1 : n ≤ 2 * k + 1
    · have h1' : (2 * (k : Int) + 1) ≥ n := by omega
      go_wp2_with fail
      go_ret
      obtain ⟨y1, y2, y3, y4, y5, y6, y7⟩ := HY.out
      exact ⟨_, ys, rfl, y1, y2, y4, down_stop y6 (fun m m0 mn mk => by omega) rfl, y7⟩
    · have h1' : ¬ (2 * (k : Int) + 1) ≥ n := by omega
      have h1'' : ¬ (2 * (k : Int) + 1) < 0 := by omega
      by_cases h2 : 2 * k + 2 < n
      · have h2' : (2 * (k : Int) + 1 + 1) < n := by omega
        cases hb : lt (ys.getD (2 * k + 2) default) (ys.getD (2 * k + 1) default) with
        | true =>
          have HB := Lib.hid hb
          clear hb
          cases hl : lt (ys.getD (2 * k + 2) default) (ys.getD k default) with
          | false =>
            have HL := Lib.hid hl
            clear hl
            go_wp2_with fail
            have hc := HH.out.less wr ys (2 * k + 2) (2 * k + 1) HY.out.1 (by rw [HY.out.2.2.1]; omega) (by rw [HY.out.2.2.1]; omega)
            rw [HQ2.out, HQ1.out] at hc
            refine hc.mono ?_; clear hc; rintro e w1 ⟨he, s1, f1⟩
            rw [HB.out] at he
            subst he
            have S1 := Lib.hid s1
            have F1 := Lib.hid f1
            clear s1 f1
            go_wp2_with fail
            have hc := HH.out.less w1 ys (2 * k + 2) (k) S1.out (by rw [HY.out.2.2.1]; omega) (by rw [HY.out.2.2.1]; omega)
            rw [HQ2.out] at hc
            refine hc.mono ?_; clear hc; rintro e w2 ⟨he, s2, f2⟩
            rw [HL.out] at he
            subst he
            have S2 := Lib.hid s2
            have F2 := Lib.hid f2
            clear s2 f2
            go_wp2_with fail
            go_ret
            obtain ⟨y1, y2, y3, y4, y5, y6, y7⟩ := HY.out
            have kd := down_kids HO.out (n := n) (k := k) (ys := ys) (.inr rfl) (fun h => by omega) (fun _ => HB.out)
            exact ⟨_, ys, rfl, S2.out, y2, y4, down_stop y6 (fun m m0 mn mk => HO.out.tran _ _ _ HL.out (kd m m0 mn mk)) rfl, (HH.out.trans _ _ _ (HH.out.trans _ _ _ y7 F1.out) F2.out)⟩
          | true =>
            have HL := Lib.hid hl
            clear hl
            go_wp2_with fail
            have hc := HH.out.less wr ys (2 * k + 2) (2 * k + 1) HY.out.1 (by rw [HY.out.2.2.1]; omega) (by rw [HY.out.2.2.1]; omega)
            rw [HQ2.out, HQ1.out] at hc
            refine hc.mono ?_; clear hc; rintro e w1 ⟨he, s1, f1⟩
            rw [HB.out] at he
            subst he
            have S1 := Lib.hid s1
            have F1 := Lib.hid f1
            clear s1 f1
            go_wp2_with fail
            have hc := HH.out.less w1 ys (2 * k + 2) (k) S1.out (by rw [HY.out.2.2.1]; omega) (by rw [HY.out.2.2.1]; omega)
            rw [HQ2.out] at hc
            refine hc.mono ?_; clear hc; rintro e w2 ⟨he, s2, f2⟩
            rw [HL.out] at he
            subst he
            have S2 := Lib.hid s2
            have F2 := Lib.hid f2
            clear s2 f2
            go_wp2_with fail
            have hc := HH.out.swap w2 ys k (2 * k + 2) S2.out (by rw [HY.out.2.2.1]; omega) (by rw [HY.out.2.2.1]; omega)
            rw [HQ2.out] at hc
            refine hc.mono ?_; clear hc; rintro e w3 ⟨rfl, s3, f3⟩
            have S3 := Lib.hid s3
            have F3 := Lib.hid f3
            clear s3 f3
            go_wp2_with fail
            go_roundw
            case rel =>
              obtain ⟨y1, y2, y3, y4, y5, y6, y7⟩ := HY.out
              have kd := down_kids HO.out (n := n) (k := k) (ys := ys) (.inr rfl) (fun h => by omega) (fun _ => HB.out)
              have dn := y5.step HO.out (by omega) (by omega) (by omega) (by omega) HL.out kd
              refine ⟨2 * k + 2, _, by rw [HQ2.out], by omega, Lib.hid ⟨S3.out, (swp_perm ys _ _ (by omega) (by omega)).trans y2, by rw [swp_length]; exact y3, fun m hm => ?_, dn.ex, .inr ⟨by rcases y6 with h | h <;> omega, dn⟩, HH.out.trans _ _ _ (HH.out.trans _ _ _ (HH.out.trans _ _ _ y7 F1.out) F2.out) F3.out⟩⟩
              rw [swp_getD _ _ _ _ (by omega) (by omega), if_neg (by omega), if_neg (by omega)]
              exact y4 m hm
            case measure => simp [intOf]; omega
        | false =>
          have HB := Lib.hid hb
          clear hb
          cases hl : lt (ys.getD (2 * k + 1) default) (ys.getD k default) with
          | false =>
            have HL := Lib.hid hl
            clear hl
            go_wp2_with fail
            have hc := HH.out.less wr ys (2 * k + 2) (2 * k + 1) HY.out.1 (by rw [HY.out.2.2.1]; omega) (by rw [HY.out.2.2.1]; omega)
            rw [HQ2.out, HQ1.out] at hc
            refine hc.mono ?_; clear hc; rintro e w1 ⟨he, s1, f1⟩
            rw [HB.out] at he
            subst he
            have S1 := Lib.hid s1
            have F1 := Lib.hid f1
            clear s1 f1
            go_wp2_with fail
            have hc := HH.out.less w1 ys (2 * k + 1) (k) S1.out (by rw [HY.out.2.2.1]; omega) (by rw [HY.out.2.2.1]; omega)
            rw [HQ1.out] at hc
            refine hc.mono ?_; clear hc; rintro e w2 ⟨he, s2, f2⟩
            rw [HL.out] at he
            subst he
            have S2 := Lib.hid s2
            have F2 := Lib.hid f2
            clear s2 f2
            go_wp2_with fail
            go_ret
            obtain ⟨y1, y2, y3, y4, y5, y6, y7⟩ := HY.out
            have kd := down_kids HO.out (n := n) (k := k) (ys := ys) (.inl rfl) (fun _ _ => HB.out) (fun h => by omega)
            exact ⟨_, ys, rfl, S2.out, y2, y4, down_stop y6 (fun m m0 mn mk => HO.out.tran _ _ _ HL.out (kd m m0 mn mk)) rfl, (HH.out.trans _ _ _ (HH.out.trans _ _ _ y7 F1.out) F2.out)⟩
          | true =>
            have HL := Lib.hid hl
            clear hl
            go_wp2_with fail
            have hc := HH.out.less wr ys (2 * k + 2) (2 * k + 1) HY.out.1 (by rw [HY.out.2.2.1]; omega) (by rw [HY.out.2.2.1]; omega)
            rw [HQ2.out, HQ1.out] at hc
            refine hc.mono ?_; clear hc; rintro e w1 ⟨he, s1, f1⟩
            rw [HB.out] at he
            subst he
            have S1 := Lib.hid s1
            have F1 := Lib.hid f1
            clear s1 f1
            go_wp2_with fail
            have hc := HH.out.less w1 ys (2 * k + 1) (k) S1.out (by rw [HY.out.2.2.1]; omega) (by rw [HY.out.2.2.1]; omega)
            rw [HQ1.out] at hc
            refine hc.mono ?_; clear hc; rintro e w2 ⟨he, s2, f2⟩
            rw [HL.out] at he
            subst he
            have S2 := Lib.hid s2
            have F2 := Lib.hid f2
            clear s2 f2
            go_wp2_with fail
            have hc := HH.out.swap w2 ys k (2 * k + 1) S2.out (by rw [HY.out.2.2.1]; omega) (by rw [HY.out.2.2.1]; omega)
            rw [HQ1.out] at hc
            refine hc.mono ?_; clear hc; rintro e w3 ⟨rfl, s3, f3⟩
            have S3 := Lib.hid s3
            have F3 := Lib.hid f3
            clear s3 f3
            go_wp2_with fail
            go_roundw
            case rel =>
              obtain ⟨y1, y2, y3, y4, y5, y6, y7⟩ := HY.out
              have kd := down_kids HO.out (n := n) (k := k) (ys := ys) (.inl rfl) (fun _ _ => HB.out) (fun h => by omega)
              have dn := y5.step HO.out (by omega) (by omega) (by omega) (by omega) HL.out kd
              refine ⟨2 * k + 1, _, by rw [HQ1.out], by omega, Lib.hid ⟨S3.out, (swp_perm ys _ _ (by omega) (by omega)).trans y2, by rw [swp_length]; exact y3, fun m hm => ?_, dn.ex, .inr ⟨by rcases y6 with h | h <;> omega, dn⟩, HH.out.trans _ _ _ (HH.out.trans _ _ _ (HH.out.trans _ _ _ y7 F1.out) F2.out) F3.out⟩⟩
              rw [swp_getD _ _ _ _ (by omega) (by omega), if_neg (by omega), if_neg (by omega)]
              exact y4 m hm
            case measure => simp [intOf]; omega
      · have h2' : ¬ (2 * (k : Int) + 1 + 1) < n := by omega
        cases hl : lt (ys.getD (2 * k + 1) default) (ys.getD k default) with
        | false =>
          have HL := Lib.hid hl
          clear hl
          go_wp2_with fail
          have hc := HH.out.less wr ys (2 * k + 1) (k) HY.out.1 (by rw [HY.out.2.2.1]; omega) (by rw [HY.out.2.2.1]; omega)
          rw [HQ1.out] at hc
          refine hc.mono ?_; clear hc; rintro e w2 ⟨he, s2, f2⟩
          rw [HL.out] at he
          subst he
          have S2 := Lib.hid s2
          have F2 := Lib.hid f2
          clear s2 f2
          go_wp2_with fail
          go_ret
          obtain ⟨y1, y2, y3, y4, y5, y6, y7⟩ := HY.out
          have kd := down_kids HO.out (n := n) (k := k) (ys := ys) (.inl rfl) (fun _ h => absurd h h2) (fun h => by omega)
          exact ⟨_, ys, rfl, S2.out, y2, y4, down_stop y6 (fun m m0 mn mk => HO.out.tran _ _ _ HL.out (kd m m0 mn mk)) rfl, (HH.out.trans _ _ _ y7 F2.out)⟩
        | true =>
          have HL := Lib.hid hl
          clear hl
          go_wp2_with fail
          have hc := HH.out.less wr ys (2 * k + 1) (k) HY.out.1 (by rw [HY.out.2.2.1]; omega) (by rw [HY.out.2.2.1]; omega)
          rw [HQ1.out] at hc
          refine hc.mono ?_; clear hc; rintro e w2 ⟨he, s2, f2⟩
          rw [HL.out] at he
          subst he
          have S2 := Lib.hid s2
          have F2 := Lib.hid f2
          clear s2 f2
          go_wp2_with fail
          have hc := HH.out.swap w2 ys k (2 * k + 1) S2.out (by rw [HY.out.2.2.1]; omega) (by rw [HY.out.2.2.1]; omega)
          rw [HQ1.out] at hc
          refine hc.mono ?_; clear hc; rintro e w3 ⟨rfl, s3, f3⟩
          have S3 := Lib.hid s3
          have F3 := Lib.hid f3
          clear s3 f3
          go_wp2_with fail
          go_roundw
          case rel =>
            obtain ⟨y1, y2, y3, y4, y5, y6, y7⟩ := HY.out
            have kd := down_kids HO.out (n := n) (k := k) (ys := ys) (.inl rfl) (fun _ h => absurd h h2) (fun h => by omega)
            have dn := y5.step HO.out (by omega) (by omega) (by omega) (by omega) HL.out kd
            refine ⟨2 * k + 1, _, by rw [HQ1.out], by omega, Lib.hid ⟨S3.out, (swp_perm ys _ _ (by omega) (by omega)).trans y2, by rw [swp_length]; exact y3, fun m hm => ?_, dn.ex, .inr ⟨by rcases y6 with h | h <;> omega, dn⟩, HH.out.trans _ _ _ (HH.out.trans _ _ _ y7 F2.out) F3.out⟩⟩
            rw [swp_getD _ _ _ _ (by omega) (by omega), if_neg (by omega), if_neg (by omega)]
            exact y4 m hm
          case measure => simp [intOf]; omega
end
end Go.Proofs.YteddiknlcdbhjaaGreat

namespace Go.Proofs.YteddiknlcdbhjaaGreat
open Go.RowKit HeapPlain

section
variable {α : Type} [Inhabited α] {lt : α → α → Bool} {St : World → List α → Prop} {Fr : World → World → Prop} {p : Nat}

set_option maxHeartbeats 1000000 in
theorem heap_push (H : Heaped α 24 112 115 (.pointer (some ⟨p, 0, none⟩)) lt St Fr) (o : Ord lt) (n : Nat) (xs : List α) (x : α) (ty : TypeId) (v : Value) (w : World) (_hs : St w xs) (hn : xs.length = n) (hu : Hp lt n xs)
    (hp : Calls Tryz.prog 114 #[.pointer (some ⟨p, 0, none⟩), .iface ty v] w fun e w' => e = .returned (.tuple #[]) ∧ St w' (xs ++ [x]) ∧ Fr w w') :
    Calls Tryz.prog 23 #[.iface 56 (.pointer (some ⟨p, 0, none⟩)), .iface ty v] w fun e w' => e = .returned (.tuple #[]) ∧ ∃ ys, St w' ys ∧ ys.Perm (x :: xs) ∧ Hp lt (n + 1) ys ∧ Fr w w' := by
  have HH := Lib.hid H
  have HO := Lib.hid o
  have HP := Lib.hid hp
  subst hn
  have HU := Lib.hid (hu.up x)
  obtain ⟨n, hn⟩ : ∃ n, xs.length = n := ⟨_, rfl⟩
  have hl : (xs ++ [x]).length = n + 1 := by simp [hn]
  rw [hn] at HU ⊢
  have HL := Lib.hid hl
  clear _hs hu H o hp hn hl
  go_enter Tryz.func23, Tryz.ntmps23
  go_wp2_with fail
  refine HP.out.mono ?_; rintro e w1 ⟨rfl, s1, f1⟩
  have S1 := Lib.hid s1
  have F1 := Lib.hid f1
  clear s1 f1
  go_wp2_with fail
  have hc := HH.out.len w1 _ S1.out
  have hsm := HH.out.small w1 _ S1.out
  rw [HL.out] at hc hsm
  refine hc.mono ?_; clear hc; rintro e w2 ⟨rfl, s2, f2⟩
  have S2 := Lib.hid s2
  have F2 := Lib.hid f2
  clear s2 f2
  have hq : ((n + 1 : Nat) : Int) = (n : Int) + 1 := by omega
  rw [hq]
  clear hq
  go_wp2_with fail
  refine (heap_up HH.out HO.out (n + 1) (xs ++ [x]) n w2 S2.out HL.out (by omega) HU.out).mono ?_; rintro e w3 ⟨rfl, ys, s3, p3, h3, f3⟩
  have S3 := Lib.hid s3
  have F3 := Lib.hid f3
  have H3 := Lib.hid h3
  clear s3 f3 h3
  go_wp2_with fail
  go_end0
  exact ⟨rfl, ys, S3.out, p3.trans (List.perm_append_comm (l₁ := xs) (l₂ := [x])), H3.out, HH.out.trans _ _ _ (HH.out.trans _ _ _ F1.out F2.out) F3.out⟩

theorem pop_hp {n : Nat} {xs zs : List α} {b : Bool} (hu : Hp lt (n + 1) xs) (hl : xs.length = n + 1) (hb : b = true → Hp lt n zs)
    (hf : b = false → zs = swp xs 0 n ∧ ∀ k, 0 < k → k < n → (k - 1) / 2 = 0 → lt ((swp xs 0 n).getD k default) ((swp xs 0 n).getD 0 default) = false) : Hp lt n zs := by
  cases b with
  | true => exact hb rfl
  | false =>
    obtain ⟨rfl, h⟩ := hf rfl
    exact (hu.dn hl).stop h
theorem pop_perm {n : Nat} {xs zs : List α} (hl : xs.length = n + 1) (hp : zs.Perm (swp xs 0 n)) (hz : zs.getD n default = (swp xs 0 n).getD n default) : (xs.getD 0 default :: zs.take n).Perm xs := by
  have h1 : (swp xs 0 n).getD n default = xs.getD 0 default := by rw [swp_getD _ _ _ _ (by omega) (by omega), if_pos rfl]
  have hzl : zs.length = n + 1 := by rw [hp.length_eq, swp_length, hl]
  have h2 : zs = zs.take n ++ [xs.getD 0 default] := by
    have hg : zs.getD n default = zs[n]'(by omega) := by simp [List.getD_eq_getElem?_getD, List.getElem?_eq_getElem (show n < zs.length by omega)]
    rw [← h1, ← hz, hg]
    have := List.take_append_drop n zs
    rw [List.drop_eq_getElem_cons (by omega), List.drop_eq_nil_of_le (by omega)] at this
    exact this.symm
  have h3 : (xs.getD 0 default :: zs.take n).Perm zs := by
    conv => rhs; rw [h2]
    exact (List.perm_append_comm (l₁ := zs.take n) (l₂ := [xs.getD 0 default])).symm
  exact (h3.trans hp).trans (swp_perm xs 0 n (by omega) (by omega))

set_option maxHeartbeats 1000000 in
theorem heap_pop (H : Heaped α 24 112 115 (.pointer (some ⟨p, 0, none⟩)) lt St Fr) (o : Ord lt) (n : Nat) (xs : List α) (V : α → Value) (w : World) (hs : St w xs) (hn : xs.length = n + 1) (hu : Hp lt (n + 1) xs)
    (hp : ∀ w ys, St w ys → ys.length = n + 1 → Calls Tryz.prog 113 #[.pointer (some ⟨p, 0, none⟩)] w fun e w' => e = .returned (V (ys.getD n default)) ∧ St w' (ys.take n) ∧ Fr w w') :
    Calls Tryz.prog 25 #[.iface 56 (.pointer (some ⟨p, 0, none⟩))] w fun e w' => e = .returned (V (xs.getD 0 default)) ∧ ∃ ys, St w' ys ∧ (xs.getD 0 default :: ys).Perm xs ∧ Hp lt n ys ∧ Fr w w' := by
  have HH := Lib.hid H
  have HO := Lib.hid o
  have HP := Lib.hid hp
  have HL := Lib.hid hn
  have HU := Lib.hid hu
  have HS := Lib.hid hs
  clear hs hu H o hp hn
  go_enter Tryz.func25, Tryz.ntmps25
  go_wp2_with fail
  have hc := HH.out.len w _ HS.out
  have hsm := HH.out.small w _ HS.out
  rw [HL.out] at hc hsm
  refine hc.mono ?_; clear hc; rintro e w1 ⟨rfl, s1, f1⟩
  have S1 := Lib.hid s1
  have F1 := Lib.hid f1
  clear s1 f1
  have hq : ((n + 1 : Nat) : Int) = (n : Int) + 1 := by omega
  rw [hq]
  clear hq
  go_wp2_with fail
  refine (HH.out.swap w1 xs 0 n S1.out (by rw [HL.out]; omega) (by rw [HL.out]; omega)).mono ?_; rintro e w2 ⟨rfl, s2, f2⟩
  have S2 := Lib.hid s2
  have F2 := Lib.hid f2
  clear s2 f2
  go_wp2_with fail
  refine (heap_down HH.out HO.out n (n + 1) (swp xs 0 n) 0 w2 S2.out (by rw [swp_length, HL.out]) (by omega) (by omega) (HU.out.dn HL.out).ex).mono ?_; rintro e w3 ⟨b, zs, rfl, s3, p3, k3, ⟨h3, h3'⟩, f3⟩
  have S3 := Lib.hid s3
  have F3 := Lib.hid f3
  have P3 := Lib.hid (pop_perm HL.out p3 (k3 n (Nat.le_refl _)))
  have Z3 := Lib.hid (show zs.length = n + 1 by rw [p3.length_eq, swp_length, HL.out])
  have X3 := Lib.hid (show zs.getD n default = xs.getD 0 default by rw [k3 n (Nat.le_refl _), swp_getD _ _ _ _ (by rw [HL.out]; omega) (by rw [HL.out]; omega), if_pos rfl])
  have H3 := Lib.hid (pop_hp HU.out HL.out h3 h3')
  clear s3 f3 h3 h3' p3 k3
  go_wp2_with fail
  refine (HP.out w3 zs S3.out Z3.out).mono ?_; rintro e w4 ⟨rfl, s4, f4⟩
  rw [X3.out]
  have S4 := Lib.hid s4
  have F4 := Lib.hid f4
  clear s4 f4
  go_wp2_with fail
  go_ret
  exact ⟨rfl, zs.take n, S4.out, P3.out, H3.out.take, HH.out.trans _ _ _ (HH.out.trans _ _ _ (HH.out.trans _ _ _ F1.out F2.out) F3.out) F4.out⟩
end
end Go.Proofs.YteddiknlcdbhjaaGreat

namespace Go.Proofs.YteddiknlcdbhjaaGreat
open Go.RowKit

section
variable {w w' : World} {B s n cap g : Nat} {e : TypeId} {v : Value} {xs : List Value} {S : List Nat}

theorem own_upd_of_grown {v : Value} (h : w.grownBy w' v.ownBlock) : Upd v.ownBlock.toList w w' :=
  (Upd.refl _ w).grown h fun k hk => .inl (by rw [hk]; simp)
theorem own_form (h : w.ownsRow B e s v n xs) (hn : 0 < n) :
    ∃ g cap cur, v = .slice (some ⟨g, 0, none⟩) n cap ∧ B ≤ g ∧ Blk w g e cur ∧ n ≤ cap ∧ cap ≤ maxLen ∧ cur.size = cap * s ∧ cur.toList.take (n * s) = xs := by
  obtain ⟨_, h2⟩ := h
  rcases h2 with ⟨_, h2⟩ | ⟨g, cap, cur, h1, h2, h3, h4, h5, h6, h7⟩
  · omega
  · exact ⟨g, cap, cur, h1, h2, h3, h4, h5, h6, h7⟩
theorem own_open (h : w.ownsRow B e s (.slice (some ⟨g, 0, none⟩) n cap) n xs) :
    ∃ cur, B ≤ g ∧ Blk w g e cur ∧ n ≤ cap ∧ cap ≤ maxLen ∧ cur.size = cap * s ∧ cur.toList.take (n * s) = xs := by
  obtain ⟨_, h2⟩ := h
  rcases h2 with ⟨h2, _⟩ | ⟨g', cap', cur, h1, h2, h3, h4, h5, h6, h7⟩
  · cases h2
  · injection h1 with h1 _ h1'
    injection h1 with h1
    injection h1 with h1
    subst h1 h1'
    exact ⟨cur, h2, h3, h4, h5, h6, h7⟩
theorem own_len (h : w.ownsRow B e s v n xs) : xs.length = n * s := h.1
theorem own_cell (h : w.ownsRow B e s (.slice (some ⟨g, 0, none⟩) n cap) n xs) (j : Nat) (u : Value) (hj : xs[j]? = some u) : w.cell? ⟨g, j, none⟩ = some u := by
  obtain ⟨cur, _, hb, _, _, _, ht⟩ := own_open h
  have hl : j < n * s := by have := (List.getElem?_eq_some_iff.1 hj).1; rw [h.1] at this; exact this
  rw [hb.cell, ← hj, ← ht, List.getElem?_take, if_pos hl, Array.getElem?_toList]
theorem own_frozen (h : w.ownsRow B e s (.slice (some ⟨g, 0, none⟩) n cap) n xs) (j : Nat) : w.frozen? ⟨g, j, none⟩ = false := by
  obtain ⟨cur, _, hb, _⟩ := own_open h
  exact hb.frozen j
theorem own_lt (h : w.ownsRow B e s v n xs) {b : Nat} (hb : v.ownBlock = some b) : B ≤ b ∧ b < w.heap.size := by
  obtain ⟨_, h2⟩ := h
  rcases h2 with ⟨h2, _⟩ | ⟨g', cap', cur, h1, h2, h3, h4, h5, h6, h7⟩
  · subst h2; simp [Value.ownBlock] at hb
  · subst h1
    simp only [Value.ownBlock, Option.some.injEq] at hb
    subst hb
    exact ⟨h2, Blk.lt h3⟩
theorem own_type (h : w.ownsRow B e s v n xs) {b : Nat} {t : TypeId} {cs : Array Value} (hb : Blk w b t cs) (hne : t ≠ e) : v.ownBlock ≠ some b := by
  intro hv
  obtain ⟨_, h2⟩ := h
  rcases h2 with ⟨h2, _⟩ | ⟨g', cap', cur, h1, h2, h3, h4, h5, h6, h7⟩
  · subst h2; simp [Value.ownBlock] at hv
  · subst h1
    simp only [Value.ownBlock, Option.some.injEq] at hv
    subst hv
    exact (Blk.ne_ hb h3 hne) rfl
theorem own_upd (h : w.ownsRow B e s v n xs) (hu : Upd S w w') (hne : ∀ b, v.ownBlock = some b → b ∉ S) : w'.ownsRow B e s v n xs := by
  obtain ⟨h1, h2⟩ := h
  refine ⟨h1, ?_⟩
  rcases h2 with h2 | ⟨g, cap, cur, rfl, h2, h3, h4, h5, h6, h7⟩
  · exact .inl h2
  · exact .inr ⟨g, cap, cur, rfl, h2, Blk.upd h3 hu (hne g rfl), h4, h5, h6, h7⟩
theorem own_upd0 (h : w.ownsRow B e s v n xs) (hu : Upd [] w w') : w'.ownsRow B e s v n xs := own_upd h hu fun _ _ => by simp
theorem own_set (h : w.ownsRow B e s (.slice (some ⟨g, 0, none⟩) n cap) n xs) (j : Nat) (u : Value) :
    (w.setCell ⟨g, j, none⟩ u).ownsRow B e s (.slice (some ⟨g, 0, none⟩) n cap) n (xs.set j u) := by
  obtain ⟨cur, h2, h3, h4, h5, h6, h7⟩ := own_open h
  refine ⟨by rw [List.length_set, h.1], .inr ⟨g, cap, _, rfl, h2, h3.set_ j u, h4, h5, by simpa using h6, ?_⟩⟩
  rw [← h7, Array.toList_setIfInBounds, List.take_set]
theorem own_take (h : w.ownsRow B e s (.slice (some ⟨g, 0, none⟩) n cap) n xs) (m : Nat) (hm : m ≤ n) :
    w.ownsRow B e s (.slice (some ⟨g, 0, none⟩) m cap) m (xs.take (m * s)) := by
  obtain ⟨cur, h2, h3, h4, h5, h6, h7⟩ := own_open h
  have hms : m * s ≤ n * s := Nat.mul_le_mul_right s hm
  refine ⟨by rw [List.length_take, h.1]; omega, .inr ⟨g, cap, _, rfl, h2, h3, by omega, h5, h6, ?_⟩⟩
  rw [← h7, List.take_take, Nat.min_eq_left hms]
theorem own_nil (w : World) (B : Nat) (e : TypeId) (s : Nat) : w.ownsRow B e s (.slice none 0 0) 0 [] := ⟨by simp, .inl ⟨rfl, rfl⟩⟩
theorem own_base {B' : Nat} (h : w.ownsRow B e s v n xs) (hb : B' ≤ B) : w.ownsRow B' e s v n xs := by
  obtain ⟨h1, h2⟩ := h
  refine ⟨h1, ?_⟩
  rcases h2 with h2 | ⟨g, cap, cur, rfl, h2, h3⟩
  · exact .inl h2
  · exact .inr ⟨g, cap, cur, rfl, by omega, h3⟩
/-- The cells of an element that lies in a block of its own, as append's law asks for them. -/
theorem news_of_blk {q : Nat} {cs : Array Value} (h : Blk w q e cs) : ∀ j u, cs.toList[j]? = some u → w.cell? ((⟨q, 0, none⟩ : Addr).add j) = some u := fun j u hu => by
  rw [add_head, h.cell, ← Array.getElem?_toList]; exact hu
end
end Go.Proofs.YteddiknlcdbhjaaGreat

namespace Go.Proofs.YteddiknlcdbhjaaGreat
open Go.RowKit

/-- What append asks of the element's type: its number, its cells, its bytes. -/
structure Elem (P : Program) (t e : TypeId) (s bytes : Nat) : Prop where
  und : P.underlying t = some (.slice e)
  info : ∃ i z, P.info? e = some i ∧ i.zero = some z ∧ i.size = s ∧ i.bytes = bytes ∧ z.cells.size = s
  pos : 0 < s
theorem Elem.mk' {P : Program} {t e : TypeId} {s bytes : Nat} {z : Value} (und : P.underlying t = some (.slice e)) (info : (P.info? e).map (fun i => (i.zero, i.size, i.bytes)) = some (some z, s, bytes)) (hz : z.cells.size = s) (pos : 0 < s) : Elem P t e s bytes := by
  obtain ⟨i, h1, h2, h3, h4⟩ := info_parts info
  exact ⟨und, ⟨i, z, h1, h2, h3, h4, hz⟩, pos⟩

/-- A slice value that reads as these cells. -/
def Src (w : World) (s : Nat) (x : Value) (m : Nat) (news : List Value) : Prop :=
  news.length = m * s ∧ ∃ A c, x = .slice A m c ∧ ∀ j u, news[j]? = some u → ∃ ad : Addr, A = some ad ∧ ad.block < w.heap.size ∧ w.cell? (ad.add j) = some u
theorem add_more (a : Addr) (i j : Nat) : a.add (i + (j + 1)) = ⟨(a.add i).block, (a.add i).off + (j + 1), none⟩ := by
  unfold Addr.add
  by_cases h : i = 0
  · subst h; simp
  · simp [h]; omega
theorem block_add (a : Addr) (n : Nat) : (a.add n).block = a.block := by unfold Addr.add; split <;> rfl

section
variable {w w' : World} {B s n m cap g : Nat} {e : TypeId} {v x : Value} {xs news : List Value}
theorem Src.upd {S : List Nat} (h : Src w s x m news) (hu : Upd S w w') (hS : ∀ b, x.ownBlock = some b → b ∉ S) : Src w' s x m news := by
  obtain ⟨h1, A, c, rfl, h2⟩ := h
  refine ⟨h1, A, c, rfl, fun j u hj => ?_⟩
  obtain ⟨ad, rfl, hl, hc⟩ := h2 j u hj
  refine ⟨ad, rfl, Nat.lt_of_lt_of_le hl hu.size, (World.cell?_of_block ?_).trans hc⟩
  exact hu.keep _ (by rw [block_add]; exact hl) (by rw [block_add]; exact hS _ rfl)
theorem Src.upd0 (h : Src w s x m news) (hu : Upd [] w w') : Src w' s x m news := h.upd hu (by simp)
theorem Src.of_own (h : w.ownsRow B e s v n xs) : Src w s v n xs := by
  refine ⟨h.1, ?_⟩
  rcases h.2 with ⟨rfl, rfl⟩ | ⟨g, cap, cur, rfl, _, hb, _, _, _, _⟩
  · have : xs = [] := List.eq_nil_of_length_eq_zero (by simpa using h.1)
    subst this
    exact ⟨none, 0, rfl, by simp⟩
  · exact ⟨_, cap, rfl, fun j u hj => ⟨_, rfl, Blk.lt hb, by rw [add_head]; exact own_cell h j u hj⟩⟩
theorem Src.of_blk {q : Nat} {cs : Array Value} {t : TypeId} (h : Blk w q t cs) (c : Nat) (hl : cs.size = m * s) : Src w s (.slice (some ⟨q, 0, none⟩) m c) m cs.toList :=
  ⟨by simpa using hl, _, c, rfl, fun j u hj => ⟨_, rfl, h.lt, by rw [add_head, h.cell, ← Array.getElem?_toList]; exact hj⟩⟩
theorem own_slice (h : w.ownsRow B e s v n xs) : ∃ A c, v = .slice A n c ∧ n ≤ c ∧ c ≤ maxLen := by
  rcases h.2 with ⟨rfl, rfl⟩ | ⟨g, cap, cur, rfl, _, _, h4, h5, _⟩
  · exact ⟨_, _, rfl, Nat.le_refl _, by simp [maxLen]⟩
  · exact ⟨_, _, rfl, h4, h5⟩
/-- x[:k] of a slice that reads as some cells. -/
theorem Src.take {A : Option Addr} {c : Nat} (h : Src w s (.slice A n c) n xs) (k : Nat) (hk : k ≤ n) (c' : Nat) : Src w s (.slice A k c') k (xs.take (k * s)) := by
  obtain ⟨h1, A', c2, he, h2⟩ := h
  injection he with hA _ _
  subst hA
  refine ⟨by rw [List.length_take, h1]; exact Nat.min_eq_left (Nat.mul_le_mul_right s hk), _, c', rfl, fun j u hj => ?_⟩
  rw [List.getElem?_take] at hj
  split at hj
  · exact h2 j u hj
  · cases hj
/-- x[k:]. -/
theorem Src.drop {A : Option Addr} {c : Nat} (h : Src w s (.slice A n c) n xs) (k : Nat) (hk : k ≤ n) (hc : n ≤ c) (c' : Nat) : Src w s (.slice (if c = k then A else A.map (·.add (k * s))) (n - k) c') (n - k) (xs.drop (k * s)) := by
  obtain ⟨h1, A', c2, he, h2⟩ := h
  injection he with hA _ _
  subst hA
  have hl : (xs.drop (k * s)).length = (n - k) * s := by rw [List.length_drop, h1, Nat.sub_mul]
  refine ⟨hl, _, c', rfl, fun j u hj => ?_⟩
  have hj' := (List.getElem?_eq_some_iff.1 hj).1
  have hck : c ≠ k := by
    intro e
    have : n = k := by omega
    subst this
    rw [hl] at hj'
    simp at hj'
  rw [if_neg hck]
  rw [List.getElem?_drop] at hj
  obtain ⟨ad, rfl, hb, hcell⟩ := h2 _ u hj
  exact ⟨_, rfl, by rw [block_add]; exact hb, by show w.cell? ((ad.add (k * s)).add j) = some u; rw [Go.Deep.add_add]; exact hcell⟩
end

section
variable {P : Program} (w : World) {B s n m c bytes : Nat} {t e : TypeId} {v x : Value} {xs news : List Value}
theorem run_app (ET : Elem P t e s bytes) (ty : TypeId) (hown : w.ownsRow B e s v n xs) (hs : Src w s x m news) (h1 : ∀ u ∈ news, u.oneCell' = true) (h63 : n + m ≤ maxLen) (hby : (n + m) * bytes ≤ 140737488355328) (hB : B ≤ w.heap.size) :
    ∃ v' w', (Builtin.append_ #[t, t] ty #[v, x]).run P w = .ok v' w' ∧ w'.ownsRow B e s v' (n + m) (xs ++ news) ∧ Upd v.ownBlock.toList w w' ∧ (v'.ownBlock = v.ownBlock ∨ v'.ownBlock = some w.heap.size) := by
  obtain ⟨i, z, hi, hz, hz1, hz2, hzs⟩ := ET.info
  obtain ⟨hl, A, cx, rfl, hc⟩ := hs
  rcases A with _ | ad
  · have hn : news = [] := by
      cases news with
      | nil => rfl
      | cons u r => obtain ⟨ad, h, _⟩ := hc 0 u rfl; cases h
    subst hn
    have hm : m = 0 := by
      have hp := ET.pos
      rcases Nat.eq_zero_or_pos m with h | h
      · exact h
      · have := Nat.mul_pos h hp
        simp at hl
        omega
    subst hm
    refine ⟨v, w, ?_, by simpa using hown, .refl _ _, .inl rfl⟩
    rcases hown.2 with ⟨rfl, rfl⟩ | ⟨g, cap, cur, rfl, _, _, hnc, _⟩
    · simp [Builtin.append_, run_underlying ET.und, sizeOf, typeInfo, hi, Builtin.lenOf, Builtin.firstCells]
    · simp [Builtin.append_, run_underlying ET.und, sizeOf, typeInfo, hi, Builtin.lenOf, Builtin.firstCells, hnc, storeCells]
  · have hcells : ∀ j u, news[j]? = some u → w.cell? (ad.add j) = some u := fun j u hj => by
      obtain ⟨ad', h, _, h2⟩ := hc j u hj
      cases h
      exact h2
    obtain ⟨v', w', hr, h2, h3, _, h5⟩ := run_append_own_at (P := P) w B t ty e i z s bytes ET.und hi hz hz1 hz2 hzs ET.pos v n xs hown ad m cx news hl hcells h1 h63 hby hB
    exact ⟨v', w', hr, h2, own_upd_of_grown h3, h5⟩

theorem wp_app {o : Oper} {a : Act} {K : Act → World → Prop} {Q : Exit → Act → World → Prop} (s' x' : Operand) (t : TypeId) (ho : o.op = .call { callee := .builtin .append, args := #[s', x'], argTypes := #[t, t] })
    (ET : Elem P t e s bytes) (v x : Value) (hs : a.eval s' = v) (hx : a.eval x' = x) (hown : w.ownsRow B e s v n xs) (hsrc : Src w s x m news) (h1 : ∀ u ∈ news, u.oneCell' = true) (h63 : n + m ≤ maxLen) (hby : (n + m) * bytes ≤ 140737488355328) (hB : B ≤ w.heap.size)
    (h : ∀ v' w', w'.ownsRow B e s v' (n + m) (xs ++ news) → Upd v.ownBlock.toList w w' → (v'.ownBlock = v.ownBlock ∨ v'.ownBlock = some w.heap.size) → K (a.put o.dst v') w') : o.wp P a w K Q := by
  obtain ⟨v', w', hr, h2, h3, h4⟩ := run_app (P := P) w ET o.type hown hsrc h1 h63 hby hB
  unfold Oper.wp execOp
  simp only [ho, resolve, invoke, builtin, Sem.run_bind, Sem.run_pure, Result.andThen_ok, List.map_toArray, List.map_cons, List.map_nil, hs, hx, hr]
  exact h v' w' h2 h3 h4
/-- In a plain region. -/
theorem wpList_app {ops : Array Oper} {rest : List Oper} {o : Oper} {a : Act} {Q : Exit → Act → World → Prop} (hgd : o.guard = none) (s' x' : Operand) (t : TypeId) (ho : o.op = .call { callee := .builtin .append, args := #[s', x'], argTypes := #[t, t] })
    (ET : Elem P t e s bytes) (v x : Value) (hs : a.eval s' = v) (hx : a.eval x' = x) (hown : w.ownsRow B e s v n xs) (hsrc : Src w s x m news) (h1 : ∀ u ∈ news, u.oneCell' = true) (h63 : n + m ≤ maxLen) (hby : (n + m) * bytes ≤ 140737488355328) (hB : B ≤ w.heap.size)
    (h : ∀ v' w', w'.ownsRow B e s v' (n + m) (xs ++ news) → Upd v.ownBlock.toList w w' → (v'.ownBlock = v.ownBlock ∨ v'.ownBlock = some w.heap.size) → wpList P ops Q rest (a.put o.dst v') w') : wpList P ops Q (o :: rest) a w :=
  wpList_plain hgd fun _ hK => wp_app w s' x' t ho ET v x hs hx hown hsrc h1 h63 hby hB fun v' w' h2 h3 h4 => hK _ _ (h v' w' h2 h3 h4)
/-- At a step of a region that draws its order. -/
theorem step_app {ops : Array Oper} {o : Oper} {a : Act} {K : Act → World → Prop} {Q : Exit → Act → World → Prop} {E : Prop} (hgd : o.guard = none) (s' x' : Operand) (t : TypeId) (ho : o.op = .call { callee := .builtin .append, args := #[s', x'], argTypes := #[t, t] })
    (ET : Elem P t e s bytes) (v x : Value) (hs : a.eval s' = v) (hx : a.eval x' = x) (hown : w.ownsRow B e s v n xs) (hsrc : Src w s x m news) (h1 : ∀ u ∈ news, u.oneCell' = true) (h63 : n + m ≤ maxLen) (hby : (n + m) * bytes ≤ 140737488355328) (hB : B ≤ w.heap.size)
    (h : ∀ v' w', w'.ownsRow B e s v' (n + m) (xs ++ news) → Upd v.ownBlock.toList w w' → (v'.ownBlock = v.ownBlock ∨ v'.ownBlock = some w.heap.size) → K (a.put o.dst v') w') :
    if Region.wanted o (yielded ops a.tmps) = true then Oper.wp P o a w K Q else E := by
  rw [if_pos (by simp [Region.wanted, hgd])]
  exact wp_app w s' x' t ho ET v x hs hx hown hsrc h1 h63 hby hB h
end

section
variable {P : Program} {s n c k bytes : Nat} {t e : TypeId} {A : Option Addr}
/-- x[:k]. -/
theorem cut_head (ET : Elem P t e s bytes) (A : Option Addr) (n c k : Nat) (hk : k ≤ n) (hc : n ≤ c) :
    ∃ X, (∀ W, (Instr.slice t (.slice A n c) none (some (.int .i64 k)) none).run P W = .ok X W) ∧ Value.ownBlock X = Value.ownBlock (.slice A n c) ∧ ∀ W xs, Src W s (.slice A n c) n xs → Src W s X k (xs.take (k * s)) := by
  obtain ⟨i, z, hi, hz, hz1, hz2, hzs⟩ := ET.info
  refine ⟨.slice A k c, fun W => ?_, by cases A <;> rfl, fun W xs h => h.take k hk c⟩
  have h2 : k ≤ c := by omega
  have h3 : (if c = 0 then A else Option.map (fun x => x.add 0) A) = A := by
    have : (fun x : Addr => x.add 0) = id := by funext x; rfl
    rw [this]; simp
  simp [Instr.slice, run_underlying ET.und, Instr.sliceBounds, Instr.sliceBound, asIntOf, h2, sizeOf, typeInfo, hi, h3]
/-- x[k:]. -/
theorem cut_tail (ET : Elem P t e s bytes) (A : Option Addr) (n c k : Nat) (hk : k ≤ n) (hc : n ≤ c) :
    ∃ X, (∀ W, (Instr.slice t (.slice A n c) (some (.int .i64 k)) none none).run P W = .ok X W) ∧ Value.ownBlock X = Value.ownBlock (.slice A n c) ∧ ∀ W xs, Src W s (.slice A n c) n xs → Src W s X (n - k) (xs.drop (k * s)) := by
  obtain ⟨i, z, hi, hz, hz1, hz2, hzs⟩ := ET.info
  refine ⟨.slice (if c = k then A else A.map (·.add (k * s))) (n - k) (c - k), fun W => ?_, ?_, fun W xs h => h.drop k hk hc (c - k)⟩
  · simp [Instr.slice, run_underlying ET.und, Instr.sliceBounds, Instr.sliceBound, asIntOf, sizeOf, typeInfo, hi, hz1]
    omega
  · cases A with
    | none => simp [Value.ownBlock]
    | some a =>
      by_cases h : c = k
      · simp [h, Value.ownBlock]
      · simp [h, Value.ownBlock, block_add]
/-- What a slice literal of no elements makes. -/
theorem own_made {W : World} {H B : Nat} (s : Nat) (h : Blk W H e #[]) (hB : B ≤ H) : W.ownsRow B e s (.slice (some ⟨H, 0, none⟩) 0 0) 0 [] :=
  ⟨by simp, .inr ⟨H, 0, #[], rfl, hB, h, Nat.le_refl _, by simp [maxLen], by simp, by simp⟩⟩
end
end Go.Proofs.YteddiknlcdbhjaaGreat

namespace Go.Proofs.YteddiknlcdbhjaaGreat
open Go Go.RowKit Go.MapKept

abbrev KEnt (κ : Type) := κ × Value × Nat
def kent {κ : Type} (kv : κ → Value) (p : KEnt κ) : MapEntry := { key := kv p.1, val := p.2.1, born := p.2.2 }
/-- What is asked of a key's type: finding, checking, staying. -/
structure KLaw {κ : Type} [DecidableEq κ] (P : Program) (kt : TypeId) (kv : κ → Value) : Prop where
  find : ∀ (k : κ) (L : List (KEnt κ)) (W : World), (Instr.findKey kt (kv k) (L.map (kent kv))).run P W = .ok ((L.findIdx? (fun p => p.1 == k)).map (fun j => (j, (L.getD j (k, undef, 0)).2.1))) W
  check : ∀ (em : Bool) (k : κ) (W : World), (Instr.checkKey em 10000 kt (kv k)).run P W = .ok () W
  stays : ∀ (k : κ) (W : World), (Instr.keyThatStays (kv k) (kv k)).run P W = .ok (kv k) W
structure KRaw {κ : Type} (w : World) (kv : κ → Value) (b : Nat) (L : List (KEnt κ)) (c : Nat) : Prop where
  blk : w.heap[b]? = some (.map (L.map (kent kv)).toArray c)
  keys : (L.map (·.1)).Nodup
  stamps : (L.map (·.2.2)).Nodup
  lt : ∀ p ∈ L, p.2.2 < c
def findK {κ : Type} [DecidableEq κ] (L : List (KEnt κ)) (k : κ) : Option Value := (L.find? (fun p => p.1 == k)).map (·.2.1)
/-- Block b is a map with these values, n in all. -/
def KMap {κ : Type} [DecidableEq κ] (w : World) (kv : κ → Value) (b : Nat) (f : κ → Option Value) (n : Nat) : Prop := ∃ L c, KRaw w kv b L c ∧ (∀ k, f k = findK L k) ∧ L.length = n

section
variable {κ : Type} {P : Program} {w w' : World} {kv : κ → Value} {b : Nat} {L : List (KEnt κ)} {c : Nat} {f : κ → Option Value} {n : Nat}
theorem run_getObj_blkK {b : Nat} {es : Array MapEntry} {c : Nat} (h : w.heap[b]? = some (.map es c)) : (getObj b).run P w = .ok (.map es c) w := by
  simp [getObj, Sem.run, h]
theorem KRaw.lt' (h : KRaw w kv b L c) : b < w.heap.size := by
  rcases Nat.lt_or_ge b w.heap.size with hl | hg
  · exact hl
  · have := h.blk
    rw [Array.getElem?_eq_none hg] at this
    cases this
theorem upd_setBlkK {b : Nat} (o : Obj) (hb : b < w.heap.size) : Upd [b] w { w with heap := w.heap.setIfInBounds b o } :=
  ⟨rfl, rfl, rfl, by simp, fun k hk hn => by
    have : b ≠ k := fun e => hn (by simp [e])
    simp [this]⟩
theorem set_sameK {α : Type} {l : List α} {j : Nat} {x : α} (hj : j < l.length) (h : l[j] = x) : l.set j x = l := by
  subst h
  exact List.set_getElem_self hj
theorem KRaw.set {j : Nat} {k : κ} (h : KRaw w kv b L c) (hj : j < L.length) (hk : L[j].1 = k) (v : Value) : KRaw { w with heap := w.heap.setIfInBounds b (.map ((L.set j (k, v, L[j].2.2)).map (kent kv)).toArray c) } kv b (L.set j (k, v, L[j].2.2)) c := by
  refine ⟨(heap_set h.blk).1, ?_, ?_, ?_⟩
  · rw [List.map_set, set_sameK (by simpa using hj) (by simpa using hk)]
    exact h.keys
  · rw [List.map_set, set_sameK (by simpa using hj) (by simp)]
    exact h.stamps
  · intro p hp
    rcases List.mem_or_eq_of_mem_set hp with hp | rfl
    · exact h.lt p hp
    · exact h.lt L[j] (List.getElem_mem hj)
theorem KRaw.push {k : κ} (h : KRaw w kv b L c) (hk : ∀ p ∈ L, p.1 ≠ k) (v : Value) : KRaw { w with heap := w.heap.setIfInBounds b (.map ((L ++ [(k, v, c)]).map (kent kv)).toArray (c + 1)) } kv b (L ++ [(k, v, c)]) (c + 1) := by
  refine ⟨(heap_set h.blk).1, ?_, ?_, ?_⟩
  · rw [List.map_append, List.nodup_append]
    refine ⟨h.keys, by simp, ?_⟩
    intro a ha x hx
    simp at hx
    subst hx
    obtain ⟨p, hp, rfl⟩ := List.mem_map.1 ha
    exact hk p hp
  · rw [List.map_append, List.nodup_append]
    refine ⟨h.stamps, by simp, ?_⟩
    intro a ha x hx
    simp at hx
    subst hx
    obtain ⟨p, hp, rfl⟩ := List.mem_map.1 ha
    have := h.lt p hp
    omega
  · intro p hp
    rcases List.mem_append.1 hp with hp | hp
    · have := h.lt p hp; omega
    · simp at hp; subst hp; simp
theorem modify_entK {j : Nat} {k : κ} (hj : j < L.length) (hk : L[j].1 = k) (g : MapEntry → MapEntry) (v : Value) (hg : g (kent kv L[j]) = kent kv (k, v, L[j].2.2)) : (L.map (kent kv)).toArray.modify j g = ((L.set j (k, v, L[j].2.2)).map (kent kv)).toArray := by
  apply Array.ext_getElem?
  intro i
  rw [Array.getElem?_modify]
  simp only [List.getElem?_toArray, List.getElem?_map, List.getElem?_set]
  by_cases h : j = i
  · subst h
    simp [hj, hg]
  · simp [h]
end
section
variable {κ : Type} [DecidableEq κ] {P : Program} {w w' : World} {kv : κ → Value} {b : Nat} {L : List (KEnt κ)} {c : Nat} {f : κ → Option Value} {n : Nat}
theorem KMap.lt (h : KMap w kv b f n) : b < w.heap.size := by
  obtain ⟨L, c, h, _⟩ := h
  exact h.lt'
theorem KMap.upd {S : List Nat} (h : KMap w kv b f n) (hu : Upd S w w') (hb : b ∉ S) : KMap w' kv b f n := by
  obtain ⟨L, c, h, h1, h2⟩ := h
  exact ⟨L, c, ⟨(hu.keep b h.lt' hb).trans h.blk, h.keys, h.stamps, h.lt⟩, h1, h2⟩
theorem KMap.drew (h : KMap w kv b f n) : KMap w.drew kv b f n := by
  obtain ⟨L, c, h, h1, h2⟩ := h
  exact ⟨L, c, ⟨h.blk, h.keys, h.stamps, h.lt⟩, h1, h2⟩
theorem KMap.new (w : World) (kv : κ → Value) : KMap (w.alloc (.map #[] 0)) kv w.heap.size (fun _ => none) 0 :=
  ⟨[], 0, ⟨by simpa using heap_alloc_new w (.map #[] 0), by simp, by simp, by simp⟩, fun _ => rfl, rfl⟩
theorem KMap.congr {g : κ → Option Value} (h : KMap w kv b f n) (hg : ∀ k, f k = g k) : KMap w kv b g n := by
  obtain ⟨L, c, h, h1, h2⟩ := h
  exact ⟨L, c, h, fun k => (hg k).symm.trans (h1 k), h2⟩

theorem findK_idx {k : κ} : findK L k = (L.findIdx? (fun p => p.1 == k)).map (fun j => (L.getD j (k, undef, 0)).2.1) := by
  induction L with
  | nil => rfl
  | cons p L ih =>
    unfold findK at ih ⊢
    rw [List.find?_cons, List.findIdx?_cons]
    cases h : p.1 == k with
    | true => simp
    | false =>
      simp only [Bool.false_eq_true, if_false]
      rw [ih]
      cases L.findIdx? (fun p => p.1 == k) <;> simp
theorem run_lookup_k {mt kt et : TypeId} {z : Value} (hm : P.underlying mt = some (.map kt et)) (hk : KLaw P kt kv) (hz : (zeroValue et).run P w = .ok z w) (h : KMap w kv b f n) (k : κ) :
    (Instr.lookup mt (.map (some b)) (kv k) true).run P w = .ok (.tuple #[(f k).getD z, .bool (f k).isSome]) w := by
  obtain ⟨L, c, h, hf, _⟩ := h
  rw [hf, findK_idx]
  unfold Instr.lookup
  simp only [Sem.run_bind, run_underlying hm, Result.andThen, run_getObj_blkK h.blk, Sem.run_pure, hk.check]
  have e : (Instr.findKey kt (kv k) (L.map (kent kv)).toArray.toList).run P w = _ := hk.find k L w
  rw [e]
  simp only
  cases L.findIdx? (fun p => p.1 == k) with
  | none => simp [Sem.run_bind, hz, Result.andThen]
  | some j => simp [Result.andThen]
theorem run_lookup_k' {mt kt et : TypeId} {z : Value} (hm : P.underlying mt = some (.map kt et)) (hk : KLaw P kt kv) (hz : (zeroValue et).run P w = .ok z w) (h : KMap w kv b f n) (k : κ) :
    (Instr.lookup mt (.map (some b)) (kv k) false).run P w = .ok ((f k).getD z) w := by
  obtain ⟨L, c, h, hf, _⟩ := h
  rw [hf, findK_idx]
  unfold Instr.lookup
  simp only [Sem.run_bind, run_underlying hm, Result.andThen, run_getObj_blkK h.blk, Sem.run_pure, hk.check]
  have e : (Instr.findKey kt (kv k) (L.map (kent kv)).toArray.toList).run P w = _ := hk.find k L w
  rw [e]
  simp only
  cases L.findIdx? (fun p => p.1 == k) with
  | none => simp [Sem.run_bind, hz, Result.andThen]
  | some j => simp [Result.andThen]

def putK (f : κ → Option Value) (k : κ) (v : Value) : κ → Option Value := fun x => if x = k then some v else f x
def delK (f : κ → Option Value) (k : κ) : κ → Option Value := fun x => if x = k then none else f x
theorem find_some_memK {k : κ} {j : Nat} (h : L.findIdx? (fun p => p.1 == k) = some j) : ∃ hj : j < L.length, L[j].1 = k := by
  rw [List.findIdx?_eq_some_iff_getElem] at h
  obtain ⟨hj, h1, _⟩ := h
  exact ⟨hj, by simpa using h1⟩
theorem find_noneK {k : κ} (h : L.findIdx? (fun p => p.1 == k) = none) : ∀ p ∈ L, p.1 ≠ k := by
  rw [List.findIdx?_eq_none_iff] at h
  intro p hp
  simpa using h p hp
theorem findK_none {k : κ} (h : ∀ p ∈ L, p.1 ≠ k) : findK L k = none := by
  unfold findK
  rw [List.find?_eq_none.2 (fun p hp => by simpa using h p hp)]
  rfl
/-- What a list of entries with unlike keys has. -/
theorem findK_mem (hn : (L.map (·.1)).Nodup) {p : KEnt κ} (hp : p ∈ L) : findK L p.1 = some p.2.1 := by
  induction L with
  | nil => simp at hp
  | cons a L ih =>
    rw [List.map_cons, List.nodup_cons] at hn
    unfold findK at ih ⊢
    rw [List.find?_cons]
    rcases List.mem_cons.1 hp with rfl | hp
    · simp
    · have : (a.1 == p.1) = false := by
        have : a.1 ≠ p.1 := fun e => hn.1 (e ▸ List.mem_map.2 ⟨p, hp, rfl⟩)
        simpa using this
      rw [this]
      exact ih hn.2 hp
theorem findK_append {M : List (KEnt κ)} (k : κ) : findK (L ++ M) k = (findK L k).or (findK M k) := by
  unfold findK
  rw [List.find?_append]
  cases L.find? (fun p => p.1 == k) <;> simp
theorem findK_set {j : Nat} {k : κ} (hn : (L.map (·.1)).Nodup) (hj : j < L.length) (hk : L[j].1 = k) (v : Value) (s : Nat) (x : κ) : findK (L.set j (k, v, s)) x = if x = k then some v else findK L x := by
  induction L generalizing j with
  | nil => simp at hj
  | cons a L ih =>
    rw [List.map_cons, List.nodup_cons] at hn
    cases j with
    | zero =>
      simp only [List.getElem_cons_zero] at hk
      rw [List.set_cons_zero]
      unfold findK
      rw [List.find?_cons, List.find?_cons, hk]
      by_cases h : x = k
      · subst h; simp
      · have : (k == x) = false := by simpa using fun e => h e.symm
        simp only [this]
        rw [if_neg h]
    | succ j =>
      rw [List.set_cons_succ]
      unfold findK at ih ⊢
      rw [List.find?_cons, List.find?_cons]
      by_cases h : a.1 = x
      · subst h
        have : a.1 ≠ k := fun e => hn.1 (by
          have hj' : j < L.length := by simpa using hj
          refine List.mem_map.2 ⟨L[j], List.getElem_mem hj', ?_⟩
          simpa [e] using hk)
        simp [this]
      · have : (a.1 == x) = false := by simpa using h
        rw [this]
        simp only
        exact ih hn.2 (by simpa using hj) (by simpa using hk)
theorem run_mapUpdate_k {mt kt et : TypeId} (hm : P.underlying mt = some (.map kt et)) (hk : KLaw P kt kv) (h : KMap w kv b f n) (k : κ) (v : Value) :
    ∃ w', (Instr.mapUpdate mt (.map (some b)) (kv k) v).run P w = .ok () w' ∧ KMap w' kv b (putK f k v) (if (f k).isSome then n else n + 1) ∧ Upd [b] w w' := by
  obtain ⟨L, c, h, hf, hn⟩ := h
  have hfk := hf k
  rw [findK_idx] at hfk
  unfold Instr.mapUpdate
  simp only [Sem.run_bind, run_underlying hm, Result.andThen, run_getObj_blkK h.blk, hk.check]
  have e : (Instr.findKey kt (kv k) (L.map (kent kv)).toArray.toList).run P w = _ := hk.find k L w
  rw [e]
  simp only
  cases hi : L.findIdx? (fun p => p.1 == k) with
  | none =>
    have hno := find_noneK hi
    rw [hi] at hfk
    rw [hfk]
    refine ⟨_, by simp only [Option.map_none]; exact run_setObj_map _ h.blk, ⟨L ++ [(k, v, c)], c + 1, ?_, fun x => ?_, by simp [hn]⟩, upd_setBlkK _ h.lt'⟩
    · have := h.push hno v
      rw [List.map_append] at this
      rw [List.push_toArray]
      exact this
    · unfold putK
      rw [findK_append, hf]
      by_cases hx : x = k
      · subst hx
        rw [if_pos rfl, findK_none hno]
        simp [findK]
      · rw [if_neg hx]
        have : findK [(k, v, c)] x = none := findK_none (by simp; exact fun e => hx e.symm)
        rw [this]
        simp
  | some j =>
    obtain ⟨hj, hjk⟩ := find_some_memK hi
    rw [hi] at hfk
    have hke : (((L.map (kent kv)).toArray[j]?).map (·.key)).getD (kv k) = kv k := by
      simp [hj, kent, hjk]
    refine ⟨_, ?_, ⟨L.set j (k, v, L[j].2.2), c, h.set hj hjk v, fun x => ?_, by rw [hfk]; simp [hn]⟩, upd_setBlkK _ h.lt'⟩
    · simp only [Option.map_some, Sem.run_bind, Result.andThen, hke, hk.stays]
      rw [modify_entK hj hjk _ v (by simp [kent])]
      exact run_setObj_map _ h.blk
    · unfold putK
      rw [findK_set h.keys hj hjk, hf]
theorem run_delete_k {mt kt et ty : TypeId} {ats : Array TypeId} (ha : ats[0]? = some mt) (hm : P.underlying mt = some (.map kt et)) (hk : KLaw P kt kv) (h : KMap w kv b f n) (k : κ) :
    ∃ w', (Builtin.delete_ ats ty #[.map (some b), kv k]).run P w = .ok (.tuple #[]) w' ∧ KMap w' kv b (delK f k) (if (f k).isSome then n - 1 else n) ∧ Upd [b] w w' := by
  obtain ⟨L, c, h, hf, hn⟩ := h
  have hfk := hf k
  rw [findK_idx] at hfk
  unfold Builtin.delete_
  rw [ha]
  simp only [List.getElem?_toArray, List.getElem?_cons_zero, List.getElem?_cons_succ, Sem.run_bind, run_underlying hm, Result.andThen, run_getObj_blkK h.blk, hk.check]
  have e : (Instr.findKey kt (kv k) (L.map (kent kv)).toArray.toList).run P w = _ := hk.find k L w
  rw [e]
  simp only
  cases hi : L.findIdx? (fun p => p.1 == k) with
  | none =>
    have hno := find_noneK hi
    rw [hi] at hfk
    rw [hfk]
    refine ⟨_, by simp only [Option.map_none, Sem.run_bind, run_setObj_map _ h.blk, Result.andThen, Sem.run_pure], ⟨L, c, ⟨(heap_set h.blk).1, h.keys, h.stamps, h.lt⟩, fun x => ?_, by simp [hn]⟩, upd_setBlkK _ h.lt'⟩
    unfold delK
    by_cases hx : x = k
    · subst hx; rw [if_pos rfl, findK_none hno]
    · rw [if_neg hx, hf]
  | some j =>
    obtain ⟨hj, hjk⟩ := find_some_memK hi
    rw [hi] at hfk
    have e1 : (L.map (kent kv)).toArray.eraseIdxIfInBounds j = ((L.eraseIdx j).map (kent kv)).toArray := by
      have : (L.map (kent kv)).eraseIdx j = (L.eraseIdx j).map (kent kv) := by
        rw [List.eraseIdx_eq_take_drop_succ, List.eraseIdx_eq_take_drop_succ, List.map_append, List.map_take, List.map_drop]
      simp [Array.eraseIdxIfInBounds, hj, List.eraseIdx_toArray, this]
    refine ⟨{ w with heap := w.heap.setIfInBounds b (.map ((L.eraseIdx j).map (kent kv)).toArray c) }, by simp only [Option.map_some, Sem.run_bind, run_setObj_map _ h.blk, Result.andThen, Sem.run_pure]; rw [e1], ⟨L.eraseIdx j, c, ⟨(heap_set h.blk).1, ?_, ?_, fun p hp => h.lt p (List.mem_of_mem_eraseIdx hp)⟩, fun x => ?_, by rw [hfk, List.length_eraseIdx_of_lt hj, hn]; rfl⟩, upd_setBlkK _ h.lt'⟩
    · exact h.keys.sublist ((List.eraseIdx_sublist L j).map _)
    · exact h.stamps.sublist ((List.eraseIdx_sublist L j).map _)
    · unfold delK
      have hL : L = L.take j ++ L[j] :: L.drop (j + 1) := by rw [← List.drop_eq_getElem_cons hj, List.take_append_drop]
      have hE : L.eraseIdx j = L.take j ++ L.drop (j + 1) := List.eraseIdx_eq_take_drop_succ ..
      have hnd := h.keys
      rw [hL, List.map_append, List.map_cons, hjk] at hnd
      rw [List.nodup_append, List.nodup_cons] at hnd
      obtain ⟨_, ⟨n1, _⟩, n3⟩ := hnd
      rw [hf, hE]
      conv => lhs; rw [hL]
      rw [findK_append, findK_append]
      by_cases hx : x = k
      · subst hx
        rw [if_pos rfl, findK_none (L := L.take j) (fun p hp e => n3 _ (List.mem_map.2 ⟨p, hp, rfl⟩) _ (List.mem_cons_self ..) e), findK_none (L := L.drop (j + 1)) (fun p hp e => n1 (List.mem_map.2 ⟨p, hp, e⟩))]
        rfl
      · rw [if_neg hx]
        have : findK (L[j] :: L.drop (j + 1)) x = findK (L.drop (j + 1)) x := by
          unfold findK
          rw [List.find?_cons]
          have : (L[j].1 == x) = false := by rw [hjk]; simpa using fun e => hx e.symm
          rw [this]
        rw [this]
/-- An assignment's first half: the entry is found, or made. -/
theorem run_mapEntry_k {mt kt et : TypeId} {z : Value} (hm : P.underlying mt = some (.map kt et)) (hk : KLaw P kt kv) (hz : ∀ w, (zeroValue et).run P w = .ok z w) (h : KMap w kv b f n) (k : κ) :
    ∃ (w' : World) (s : Nat), (Instr.mapEntry mt (.map (some b)) (kv k)).run P w = .ok (.tuple #[(f k).getD z, goInt s]) w' ∧ (∃ L c, KRaw w' kv b L c ∧ (∃ v, (k, v, s) ∈ L) ∧ (∀ x, findK L x = if x = k then some ((f k).getD z) else f x) ∧ L.length = if (f k).isSome then n else n + 1) ∧ Upd [b] w w' := by
  obtain ⟨L, c, h, hf, hn⟩ := h
  have hfk := hf k
  rw [findK_idx] at hfk
  unfold Instr.mapEntry
  simp only [Sem.run_bind, run_underlying hm, Result.andThen, run_getObj_blkK h.blk, hk.check]
  have e : (Instr.findKey kt (kv k) (L.map (kent kv)).toArray.toList).run P w = _ := hk.find k L w
  rw [e]
  simp only
  cases hi : L.findIdx? (fun p => p.1 == k) with
  | none =>
    have hno := find_noneK hi
    rw [hi] at hfk
    rw [hfk]
    refine ⟨_, c, by simp only [Option.map_none, Sem.run_bind, hz, Result.andThen, run_setObj_map _ h.blk, Sem.run_pure]; rfl, ⟨L ++ [(k, z, c)], c + 1, ?_, ⟨z, by simp⟩, fun x => ?_, by simp [hn]⟩, upd_setBlkK _ h.lt'⟩
    · have := h.push hno z
      rw [List.map_append] at this
      rw [List.push_toArray]
      exact this
    · rw [findK_append, ← hf]
      by_cases hx : x = k
      · subst hx
        rw [if_pos rfl, hf, findK_none hno]
        simp [findK]
      · rw [if_neg hx]
        have : findK [(k, z, c)] x = none := findK_none (by simp; exact fun e => hx e.symm)
        rw [this]
        simp
  | some j =>
    obtain ⟨hj, hjk⟩ := find_some_memK hi
    rw [hi] at hfk
    have hke : (((L.map (kent kv)).toArray[j]?).map (·.key)).getD (kv k) = kv k := by
      simp [hj, kent, hjk]
    have hbo : (((L.map (kent kv)).toArray[j]?).map (fun x => (x.born : Int))).getD 0 = (L[j].2.2 : Int) := by
      simp [hj, kent]
    have hgd : L.getD j (k, undef, 0) = L[j] := by simp [List.getD_eq_getElem?_getD, hj]
    refine ⟨_, L[j].2.2, ?_, ⟨L.set j (k, L[j].2.1, L[j].2.2), c, h.set hj hjk L[j].2.1, ⟨L[j].2.1, List.mem_iff_getElem.2 ⟨j, by simpa using hj, by simp⟩⟩, fun x => ?_, by rw [hfk]; simp [hn]⟩, upd_setBlkK _ h.lt'⟩
    · simp only [Option.map_some, Sem.run_bind, Result.andThen, hke, hk.stays]
      rw [modify_entK hj hjk _ L[j].2.1 (by simp [kent]), run_setObj_map _ h.blk]
      simp only [Sem.run_pure, hbo, hfk, hgd, Option.map_some, Option.getD_some]
    · rw [findK_set h.keys hj hjk, ← hf, hfk]
      simp only [Option.map_some, Option.getD_some, hgd]
/-- Its second half. -/
theorem run_entryStore_k {mt : TypeId} {s : Nat} {k : κ} {v0 : Value} (h : KRaw w kv b L c) (hs : (k, v0, s) ∈ L) (v : Value) :
    ∃ w', (Instr.entryStore mt (.map (some b)) (goInt s) v).run P w = .ok () w' ∧ KMap w' kv b (fun x => if x = k then some v else findK L x) L.length ∧ Upd [b] w w' := by
  obtain ⟨j, hj, hjs⟩ := List.mem_iff_getElem.1 hs
  have hidx : (L.map (kent kv)).toArray.findIdx? (fun e => (e.born : Int) == (s : Int)) = some j := by
    rw [List.findIdx?_toArray, List.findIdx?_eq_some_iff_getElem]
    refine ⟨by simpa using hj, by simp [kent, hjs], fun i hi => ?_⟩
    simp only [List.getElem_map, kent]
    have hne : L[i].2.2 ≠ s := by
      intro e
      have := List.pairwise_iff_getElem.1 h.stamps i j (by simp; omega) (by simpa using hj) hi
      simp [e, hjs] at this
    simp
    omega
  refine ⟨{ w with heap := w.heap.setIfInBounds b (.map ((L.set j (k, v, L[j].2.2)).map (kent kv)).toArray c) }, ?_, ⟨L.set j (k, v, L[j].2.2), c, h.set hj (by rw [hjs]) v, fun x => ?_, by simp⟩, upd_setBlkK _ h.lt'⟩
  · unfold Instr.entryStore
    simp only [Sem.run_bind, Result.andThen, run_getObj_blkK h.blk]
    have : (asInt (goInt s)).run P w = .ok (s : Int) w := by simp [asInt, asIntOf, goInt, Result.andThen]
    rw [this]
    simp only
    rw [hidx]
    simp only
    rw [modify_entK hj (by rw [hjs]) _ v (by simp [kent, hjs])]
    exact run_setObj_map _ h.blk
  · rw [findK_set h.keys hj (by rw [hjs])]
end
end Go.Proofs.YteddiknlcdbhjaaGreat

namespace Go.Proofs.YteddiknlcdbhjaaGreat
open Go Go.RowKit Go.MapKept

section
variable {P : Program} {κ : Type} [DecidableEq κ] {kt : TypeId} {kv : κ → Value}
theorem findAsking_k (heq : ∀ a b W, (Op.equal kt (kv a) (kv b)).run P W = .ok (decide (a = b)) W) (k : κ) (W : World) : ∀ (L : List (KEnt κ)) (i : Nat), (Instr.findAsking kt (kv k) (L.map (kent kv)) i).run P W = .ok ((L.findIdx? (fun p => p.1 == k)).map (fun j => (i + j, (L.getD j (k, undef, 0)).2.1))) W
  | [], i => rfl
  | p :: L, i => by
    rw [List.map_cons]
    unfold Instr.findAsking
    simp only [Sem.run_bind, kent, heq, Result.andThen]
    by_cases h : k = p.1
    · subst h
      simp [List.findIdx?_cons]
    · have h2 : (p.1 == k) = false := by simpa using fun e => h e.symm
      simp only [h, decide_false, Bool.false_eq_true, if_false]
      rw [findAsking_k heq k W L (i + 1), List.findIdx?_cons, h2]
      cases L.findIdx? (fun p => p.1 == k) with
      | none => rfl
      | some j => simp; omega
theorem klaw_of (hwide : (match P.underlying kt with | some (.array _ _) | some (.struct _) => true | _ => false) = true) (heq : ∀ a b W, (Op.equal kt (kv a) (kv b)).run P W = .ok (decide (a = b)) W)
    (hch : ∀ (em : Bool) (k : κ) (W : World), (Instr.checkKey em 10000 kt (kv k)).run P W = .ok () W) (hb : ∀ k, Instr.sameBits 10000 (kv k) (kv k) = true) : KLaw P kt kv where
  find k L W := by
    rw [run_findKey_eq W hwide, findAsking_k heq]
    simp
  check := hch
  stays k W := by
    unfold Instr.keyThatStays
    rw [if_pos (hb k)]
    simp
end
def kIII (q0 q1 q2 : IntKind) (p : Int × Int × Int) : Value := .agg #[.int q0 p.1, .int q1 p.2.1, .int q2 p.2.2]
def kII (q : IntKind) (p : Int × Int) : Value := .agg #[.int q p.1, .int q p.2]
theorem sameBits_kIII (q0 q1 q2 : IntKind) (p : Int × Int × Int) : Instr.sameBits 10000 (kIII q0 q1 q2 p) (kIII q0 q1 q2 p) = true := by
  simp [kIII, Instr.sameBits]
theorem sameBits_kII (q : IntKind) (p : Int × Int) : Instr.sameBits 10000 (kII q p) (kII q p) = true := by
  simp [kII, Instr.sameBits]
section
variable {P : Program}
theorem plain_int {t : TypeId} {q : IntKind} (h : P.underlying t = some (.int q)) : P.plainKey t = true := by simp [Program.plainKey, h]
theorem run_equal_kIII (d : Nat) {t : TypeId} {f0 f1 f2 : Field} {q0 q1 q2 : IntKind} (W : World) (hu : P.underlying t = some (.struct #[f0, f1, f2])) (hs : P.stoodInHeld t = false)
    (n0 : f0.name ≠ "_") (n1 : f1.name ≠ "_") (n2 : f2.name ≠ "_") (o0 : f0.offset = 0) (o1 : f1.offset = 1) (o2 : f2.offset = 2) (h0 : P.underlying f0.type = some (.int q0)) (h1 : P.underlying f1.type = some (.int q1)) (h2 : P.underlying f2.type = some (.int q2)) (a b : Int × Int × Int) :
    (Op.equalIn (d + 1 + 1) t (kIII q0 q1 q2 a) (kIII q0 q1 q2 b)).run P W = .ok (decide (a = b)) W := by
  have p0 : ∀ x y z : Int, (part f0.type #[.int q0 x, .int q1 y, .int q2 z] f0.offset).run P W = .ok (.int q0 x) W := fun x y z => run_part_plain W (plain_int h0) (by rw [o0]; rfl)
  have p1 : ∀ x y z : Int, (part f1.type #[.int q0 x, .int q1 y, .int q2 z] f1.offset).run P W = .ok (.int q1 y) W := fun x y z => run_part_plain W (plain_int h1) (by rw [o1]; rfl)
  have p2 : ∀ x y z : Int, (part f2.type #[.int q0 x, .int q1 y, .int q2 z] f2.offset).run P W = .ok (.int q2 z) W := fun x y z => run_part_plain W (plain_int h2) (by rw [o2]; rfl)
  have e0 : ∀ x y : Int, (Op.equalIn (d + 1) f0.type (.int q0 x) (.int q0 y)).run P W = .ok (x == y) W := fun x y => by simp [Op.equalIn, run_underlying h0, Result.andThen]
  have e1 : ∀ x y : Int, (Op.equalIn (d + 1) f1.type (.int q1 x) (.int q1 y)).run P W = .ok (x == y) W := fun x y => by simp [Op.equalIn, run_underlying h1, Result.andThen]
  have e2 : ∀ x y : Int, (Op.equalIn (d + 1) f2.type (.int q2 x) (.int q2 y)).run P W = .ok (x == y) W := fun x y => by simp [Op.equalIn, run_underlying h2, Result.andThen]
  have hp : (program).run P W = .ok P W := rfl
  unfold kIII
  conv => lhs; unfold Op.equalIn
  simp only [Sem.run_bind, run_underlying hu, Result.andThen_ok, hp, hs, Bool.false_eq_true, if_false]
  simp only [List.forIn_toArray, List.forIn_cons, List.forIn_nil, n0, n1, n2, ne_eq, not_false_eq_true, if_true, Sem.run_bind, p0, p1, p2, e0, e1, e2, Result.andThen_ok]
  obtain ⟨a0, a1, a2⟩ := a
  obtain ⟨b0, b1, b2⟩ := b
  by_cases g0 : a0 = b0
  · by_cases g1 : a1 = b1
    · by_cases g2 : a2 = b2
      · simp [g0, g1, g2, Result.andThen, p1, p2, e1, e2]
      · simp [g0, g1, g2, Result.andThen, p1, p2, e1, e2]
    · simp [g0, g1, Result.andThen, p1, e1]
  · simp [g0, Result.andThen]
theorem run_check_kIII (d : Nat) {t : TypeId} {f0 f1 f2 : Field} {q0 q1 q2 : IntKind} (W : World) (hu : P.underlying t = some (.struct #[f0, f1, f2]))
    (n0 : f0.name ≠ "_") (n1 : f1.name ≠ "_") (n2 : f2.name ≠ "_") (o0 : f0.offset = 0) (o1 : f1.offset = 1) (o2 : f2.offset = 2) (h0 : P.underlying f0.type = some (.int q0)) (h1 : P.underlying f1.type = some (.int q1)) (h2 : P.underlying f2.type = some (.int q2)) (em : Bool) (a : Int × Int × Int) :
    (Instr.checkKey em (d + 1 + 1) t (kIII q0 q1 q2 a)).run P W = .ok () W := by
  have p0 : ∀ x y z : Int, (part f0.type #[.int q0 x, .int q1 y, .int q2 z] f0.offset).run P W = .ok (.int q0 x) W := fun x y z => run_part_plain W (plain_int h0) (by rw [o0]; rfl)
  have p1 : ∀ x y z : Int, (part f1.type #[.int q0 x, .int q1 y, .int q2 z] f1.offset).run P W = .ok (.int q1 y) W := fun x y z => run_part_plain W (plain_int h1) (by rw [o1]; rfl)
  have p2 : ∀ x y z : Int, (part f2.type #[.int q0 x, .int q1 y, .int q2 z] f2.offset).run P W = .ok (.int q2 z) W := fun x y z => run_part_plain W (plain_int h2) (by rw [o2]; rfl)
  have e0 : ∀ x : Int, (Instr.checkKey em (d + 1) f0.type (.int q0 x)).run P W = .ok () W := fun x => run_checkKey h0 (show IsKey (.int q0) (.int q0 x) by simp [IsKey]) em d
  have e1 : ∀ x : Int, (Instr.checkKey em (d + 1) f1.type (.int q1 x)).run P W = .ok () W := fun x => run_checkKey h1 (show IsKey (.int q1) (.int q1 x) by simp [IsKey]) em d
  have e2 : ∀ x : Int, (Instr.checkKey em (d + 1) f2.type (.int q2 x)).run P W = .ok () W := fun x => run_checkKey h2 (show IsKey (.int q2) (.int q2 x) by simp [IsKey]) em d
  unfold kIII
  conv => lhs; unfold Instr.checkKey
  simp only [Sem.run_bind, run_underlying hu, Result.andThen_ok]
  simp only [List.forIn_toArray, List.forIn_cons, List.forIn_nil, n0, n1, n2, ne_eq, not_false_eq_true, if_true, Sem.run_bind, p0, p1, p2, e0, e1, e2, Result.andThen_ok, Sem.run_pure]
theorem run_equal_kII (d : Nat) {t e : TypeId} {q : IntKind} (W : World) (hu : P.underlying t = some (.array 2 e)) (hc : P.cellsOf e = 1) (he : P.underlying e = some (.int q)) (a b : Int × Int) :
    (Op.equalIn (d + 1 + 1) t (kII q a) (kII q b)).run P W = .ok (decide (a = b)) W := by
  obtain ⟨i, hi⟩ := info_of_underlying he
  have p0 : ∀ x y : Int, (part e #[.int q x, .int q y] (0 * 1)).run P W = .ok (.int q x) W := fun x y => run_part_plain W (plain_int he) rfl
  have p1 : ∀ x y : Int, (part e #[.int q x, .int q y] 1).run P W = .ok (.int q y) W := fun x y => run_part_plain W (plain_int he) rfl
  have e0 : ∀ x y : Int, (Op.equalIn (d + 1) e (.int q x) (.int q y)).run P W = .ok (x == y) W := fun x y => by simp [Op.equalIn, run_underlying he, Result.andThen]
  unfold kII
  rw [run_equalIn_array W (d + 1) _ _ hu hi, hc]
  show (Op.eqItems (d + 1) e 1 _ _ [0, 1]).run P W = _
  simp only [Op.eqItems, Sem.run_bind, p0, Nat.one_mul, p1, e0, Result.andThen_ok]
  obtain ⟨a0, a1⟩ := a
  obtain ⟨b0, b1⟩ := b
  by_cases g0 : a0 = b0
  · by_cases g1 : a1 = b1
    · simp [g0, g1, p1, e0]
    · simp [g0, g1, p1, e0]
  · simp [g0]
theorem run_check_kII (d : Nat) {t e : TypeId} {q : IntKind} (W : World) (hu : P.underlying t = some (.array 2 e)) (hc : P.cellsOf e = 1) (he : P.underlying e = some (.int q)) (em : Bool) (a : Int × Int) :
    (Instr.checkKey em (d + 1 + 1) t (kII q a)).run P W = .ok () W := by
  obtain ⟨i, hi⟩ := info_of_underlying he
  have p0 : ∀ x y : Int, (part e #[.int q x, .int q y] (0 * 1)).run P W = .ok (.int q x) W := fun x y => run_part_plain W (plain_int he) rfl
  have p1 : ∀ x y : Int, (part e #[.int q x, .int q y] (1 * 1)).run P W = .ok (.int q y) W := fun x y => run_part_plain W (plain_int he) rfl
  have e0 : ∀ x : Int, (Instr.checkKey em (d + 1) e (.int q x)).run P W = .ok () W := fun x => run_checkKey he (show IsKey (.int q) (.int q x) by simp [IsKey]) em d
  have hz : (sizeOf e).run P W = .ok 1 W := by rw [run_sizeOf W hi, hc]
  unfold kII
  conv => lhs; unfold Instr.checkKey
  simp only [Sem.run_bind, run_underlying hu, Result.andThen_ok]
  simp only [Std.Legacy.Range.forIn_eq_forIn_range', Std.Legacy.Range.size, Nat.sub_zero, Nat.add_one_sub_one, Nat.div_one, List.range', Nat.reduceAdd, List.forIn_cons, List.forIn_nil, Sem.run_bind, hz, p0, p1, e0, Result.andThen_ok, Sem.run_pure]
end
end Go.Proofs.YteddiknlcdbhjaaGreat

/-
  General lemmas, no program in sight: blocks known whole, which blocks may have turned, comparing two interface values of one integer type.
  Slices that the call owns: what their cells hold, what a store, a reslice, a step that leaves their block alone makes of them. No program in sight.
  append onto a slice that the call owns, of whatever source; slices of slices. No program in sight.
  Maps whose keys are integers: what they hold, what a look-up, a store, a delete, an assignment's two halves make of them. No program in sight.
  Lists of things that have so many cells each, laid flat; what a slice of them reads as, owns; which blocks a thing's turns may turn. No program in sight.
  From a walk that ends 'true, and nothing that was there has turned' to what a law's row asks. No program in sight.
-/
import Derived.Below
import Derived.Laws.OwnMore
import Derived.Deep.Draws
import Derived.Laws.Rows
import Derived.LaidEql
import Derived.WalkKit
import Derived.WalkSpells
import Derived.WalkLawsBesides
import Derived.Handy
import Derived.Lib.Hide
import Derived.Deep.AppendLies
import Derived.Maps.AppendAt
import Derived.RegionTactic
import Derived.OwnWalk
import Derived.Deep.Slices
import Derived.Deep.Fields
import Derived.MapKept
import Derived.Maps.Own
import Derived.ProofKit
import Derived.Carry
import Derived.OpenShut
set_option linter.unusedVariables false
namespace Go.Proofs.YtfbeaklplefojaaGreatDoor
open Go.RowKit

theorem add_head (b j : Nat) : (⟨b, 0, none⟩ : Addr).add j = ⟨b, j, none⟩ := by
  unfold Addr.add
  split
  · rename_i h; subst h; rfl
  · simp
theorem add_at (b i j : Nat) : (⟨b, i, none⟩ : Addr).add j = ⟨b, i + j, none⟩ := by
  unfold Addr.add
  split
  · rename_i h; subst h; rfl
  · simp

/-- Block g is just the cells cs of element type t, none frozen. -/
def Blk (w : World) (g : Nat) (t : TypeId) (cs : Array Value) : Prop := w.heap[g]? = some (.cells cs t (0, 0))

section
variable {w w' : World} {g : Nat} {t : TypeId} {cs : Array Value}
theorem Blk.lt (h : Blk w g t cs) : g < w.heap.size := by
  rcases Nat.lt_or_ge g w.heap.size with hlt | hge
  · exact hlt
  · unfold Blk at h; rw [Array.getElem?_eq_none hge] at h; cases h
theorem Blk.cell (h : Blk w g t cs) (i : Nat) : w.cell? ⟨g, i, none⟩ = cs[i]? := cell_of_row w g i cs t (0, 0) h
theorem Blk.frozen (h : Blk w g t cs) (i : Nat) : w.frozen? ⟨g, i, none⟩ = false := by
  unfold Blk at h
  simp [World.frozen?, h]
theorem Blk.new (w : World) (t : TypeId) (cs : Array Value) : Blk (w.alloc (.cells cs t)) w.heap.size t cs := heap_alloc_new w _
theorem Blk.drew (h : Blk w g t cs) : Blk w.drew g t cs := h
theorem Blk.drewN (h : Blk w g t cs) (n : Nat) : Blk (w.drewN n) g t cs := h
theorem Blk.alloc (h : Blk w g t cs) (o : Obj) : Blk (w.alloc o) g t cs := (Below.heap_alloc w o g h.lt).trans h
theorem Blk.set_ (h : Blk w g t cs) (i : Nat) (u : Value) : Blk (w.setCell ⟨g, i, none⟩ u) g t (cs.setIfInBounds i u) := by
  unfold Blk at h ⊢
  simp [World.setCell, Array.getElem?_modify, h]
theorem Blk.set_eq {cs' : Array Value} {i : Nat} {u : Value} (h : Blk w g t cs) (e : cs.setIfInBounds i u = cs') : Blk (w.setCell ⟨g, i, none⟩ u) g t cs' := e ▸ h.set_ i u
theorem Blk.far (h : Blk w g t cs) {p : Addr} (hp : g ≠ p.block) (u : Value) : Blk (w.setCell p u) g t cs := (Below.heap_setCell w p u g hp).trans h
theorem Blk.below {B : Nat} (h : Blk w g t cs) (hb : Below B w w') (hg : g < B) : Blk w' g t cs := (hb.block g hg).trans h
theorem Blk.grown {row : Option Nat} (h : Blk w g t cs) (hb : w.grownBy w' row) (hg : some g ≠ row) : Blk w' g t cs := (hb.block g h.lt hg).trans h
theorem Blk.ne_ {g' : Nat} {t' : TypeId} {cs' : Array Value} (h : Blk w g t cs) (h' : Blk w g' t' cs') (hne : t ≠ t') : g ≠ g' := by
  rintro rfl
  unfold Blk at h h'
  rw [h] at h'
  injection h' with h'
  injection h' with _ ht
  exact hne ht
/-- What a walk wants of a block that it loads from and stores into, with room for four new blocks behind it. -/
theorem Blk.facts (h : Blk w g t cs) : (∀ i, w.cell? ⟨g, i, none⟩ = cs[i]?) ∧ (∀ i, w.frozen? ⟨g, i, none⟩ = false) ∧ g < w.heap.size ∧ g ≤ w.heap.size ∧ g ≤ w.heap.size + 1 ∧ g ≤ w.heap.size + 1 + 1 ∧ g ≤ w.heap.size + 1 + 1 + 1 :=
  ⟨h.cell, h.frozen, h.lt, by have := h.lt; omega, by have := h.lt; omega, by have := h.lt; omega, by have := h.lt; omega⟩
end

/-- From w to w' no old block has turned but those in S; the streams are as they were; no block has gone. -/
structure Upd (S : List Nat) (w w' : World) : Prop where
  os : w'.os = w.os
  tape : w'.tape = w.tape
  output : w'.output = w.output
  size : w.heap.size ≤ w'.heap.size
  keep : ∀ k, k < w.heap.size → k ∉ S → w'.heap[k]? = w.heap[k]?

section
variable {S : List Nat} {a w w' : World}
theorem Upd.refl (S : List Nat) (w : World) : Upd S w w := ⟨rfl, rfl, rfl, Nat.le_refl _, fun _ _ _ => rfl⟩
theorem Upd.trans {b c : World} (h : Upd S a b) (k : Upd S b c) : Upd S a c :=
  ⟨k.os.trans h.os, k.tape.trans h.tape, k.output.trans h.output, Nat.le_trans h.size k.size, fun i hi hn => (k.keep i (Nat.lt_of_lt_of_le hi h.size) hn).trans (h.keep i hi hn)⟩
/-- Two steps; the second one may turn other blocks too, as long as they are new. -/
theorem Upd.trans' {T : List Nat} {b c : World} (h : Upd S a b) (k : Upd T b c) (hT : ∀ x ∈ T, x ∈ S ∨ a.heap.size ≤ x) : Upd S a c :=
  ⟨k.os.trans h.os, k.tape.trans h.tape, k.output.trans h.output, Nat.le_trans h.size k.size, fun i hi hn =>
    (k.keep i (Nat.lt_of_lt_of_le hi h.size) (fun hm => (hT i hm).elim hn (by omega))).trans (h.keep i hi hn)⟩
theorem Upd.mono {T : List Nat} (h : Upd S w w') (hT : ∀ x ∈ S, x ∈ T ∨ w.heap.size ≤ x) : Upd T w w' :=
  ⟨h.os, h.tape, h.output, h.size, fun k hk hn => h.keep k hk (fun hm => (hT k hm).elim hn (by omega))⟩
theorem Upd.drew (h : Upd S a w) : Upd S a w.drew := ⟨h.os, h.tape, h.output, h.size, h.keep⟩
theorem Upd.drewN (h : Upd S a w) (n : Nat) : Upd S a (w.drewN n) := ⟨h.os, h.tape, h.output, h.size, h.keep⟩
theorem Upd.alloc (h : Upd S a w) (o : Obj) : Upd S a (w.alloc o) :=
  ⟨h.os, h.tape, h.output, Nat.le_trans h.size (by simp), fun i hi hne => (Below.heap_alloc w o i (Nat.lt_of_lt_of_le hi h.size)).trans (h.keep i hi hne)⟩
theorem Upd.setCell (h : Upd S a w) {p : Addr} (hp : p.block ∈ S ∨ a.heap.size ≤ p.block) (u : Value) : Upd S a (w.setCell p u) :=
  ⟨h.os, h.tape, h.output, by simpa [World.setCell] using h.size, fun i hi hne => (Below.heap_setCell w p u i (by
    rintro rfl
    exact hp.elim hne (by omega))).trans (h.keep i hi hne)⟩
theorem Upd.grown {row : Option Nat} (h : Upd S a w) (hg : w.grownBy w' row) (hr : ∀ k, row = some k → k ∈ S ∨ a.heap.size ≤ k) : Upd S a w' :=
  ⟨hg.os.trans h.os, hg.tape.trans h.tape, hg.output.trans h.output, Nat.le_trans h.size hg.size, fun i hi hne =>
    (hg.block i (Nat.lt_of_lt_of_le hi h.size) (fun e => (hr i e.symm).elim hne (by omega))).trans (h.keep i hi hne)⟩
theorem Upd.of_below {B : Nat} (h : Below B w w') (hB : w.heap.size ≤ B) : Upd S w w' := ⟨h.os, h.tape, h.output, h.size, fun k hk _ => h.block k (by omega)⟩
theorem Upd.below {B : Nat} (h : Upd S w w') (hB : B ≤ w.heap.size) (hS : ∀ x ∈ S, B ≤ x) : Below B w w' :=
  ⟨h.os, h.tape, h.output, h.size, fun k hk => h.keep k (by omega) (fun hm => by have := hS k hm; omega)⟩
theorem Blk.upd {g : Nat} {t : TypeId} {cs : Array Value} (h : Blk w g t cs) (hu : Upd S w w') (hg : g ∉ S) : Blk w' g t cs := (hu.keep g h.lt hg).trans h
end

/-- A slice value of n elements (one cell each) whose elements are the head of block b. -/
def Heads (w : World) (b : Nat) (e : TypeId) (xs : List Value) : Prop := ∃ cs : Array Value, Blk w b e cs ∧ cs.toList.take xs.length = xs
theorem Heads.cell {w : World} {b : Nat} {e : TypeId} {xs : List Value} (h : Heads w b e xs) (j : Nat) (u : Value) (hj : xs[j]? = some u) : w.cell? ⟨b, j, none⟩ = some u := by
  obtain ⟨cs, hb, ht⟩ := h
  have hl : j < xs.length := (List.getElem?_eq_some_iff.1 hj).1
  rw [hb.cell, ← hj, ← ht, List.getElem?_take, if_pos hl, Array.getElem?_toList]
theorem Heads.upd {S : List Nat} {w w' : World} {b : Nat} {e : TypeId} {xs : List Value} (h : Heads w b e xs) (hu : Upd S w w') (hb : b ∉ S) : Heads w' b e xs := by
  obtain ⟨cs, h1, h2⟩ := h
  exact ⟨cs, h1.upd hu hb, h2⟩
theorem Heads.lt {w : World} {b : Nat} {e : TypeId} {xs : List Value} (h : Heads w b e xs) : b < w.heap.size := by
  obtain ⟨cs, h1, h2⟩ := h
  exact h1.lt
/-- A row that the call owns and that is not nil. -/
theorem heads_of_own {w : World} {base : Nat} {e : TypeId} {n : Nat} {v : Value} {xs : List Value} (h : w.ownsRow base e 1 v n xs) (hv : v ≠ .slice none 0 0) :
    ∃ g c, v = .slice (some ⟨g, 0, none⟩) n c ∧ n ≤ c ∧ base ≤ g ∧ Heads w g e xs ∧ xs.length = n := by
  obtain ⟨hl, h2⟩ := h
  rcases h2 with ⟨h2, _⟩ | ⟨g, cap, cur, hv', hg, hh, hn, _, _, ht⟩
  · exact absurd h2 hv
  · refine ⟨g, cap, hv', hn, hg, ⟨cur, hh, ?_⟩, by omega⟩
    rw [hl]; exact ht

section
variable {P : Program} (w : World)
theorem run_equalIn_iface_int (d : Nat) {ti tn : TypeId} {ms : Array (String × TypeId)} {i : TypeInfo} {k : IntKind} (a b : Int)
    (hi : P.underlying ti = some (.interface ms)) (hn : P.underlying tn = some (.int k)) (hinfo : P.info? tn = some i) (hcomp : i.comparable = true) :
    (Op.equalIn (d + 2) ti (.iface tn (.int k a)) (.iface tn (.int k b))).run P w = .ok (a == b) w := by
  simp [Op.equalIn, run_underlying hi, run_underlying hn, typeInfo, hinfo, hcomp]
/-- 'x == y', both interface values of ONE integer type: as the numbers are. -/
theorem run_eql_iface_int {ti tn : TypeId} {ms : Array (String × TypeId)} {i : TypeInfo} {k : IntKind} (a b : Int)
    (hi : P.underlying ti = some (.interface ms)) (hn : P.underlying tn = some (.int k)) (hinfo : P.info? tn = some i) (hcomp : i.comparable = true) :
    (binOp .eql ti (.iface tn (.int k a)) (.iface tn (.int k b))).run P w = .ok (.bool (a == b)) w := by
  simp only [binOp]
  simp [Op.equal, Op.maxDepth, run_equalIn_iface_int w 9998 a b hi hn hinfo hcomp]
end
end Go.Proofs.YtfbeaklplefojaaGreatDoor

namespace Go.Proofs.YtfbeaklplefojaaGreatDoor
open Go.RowKit

section
variable {w w' : World} {B s n cap g : Nat} {e : TypeId} {v : Value} {xs : List Value} {S : List Nat}

theorem own_upd_of_grown {v : Value} (h : w.grownBy w' v.ownBlock) : Upd v.ownBlock.toList w w' :=
  (Upd.refl _ w).grown h fun k hk => .inl (by rw [hk]; simp)
theorem own_form (h : w.ownsRow B e s v n xs) (hn : 0 < n) :
    ∃ g cap cur, v = .slice (some ⟨g, 0, none⟩) n cap ∧ B ≤ g ∧ Blk w g e cur ∧ n ≤ cap ∧ cap ≤ maxLen ∧ cur.size = cap * s ∧ cur.toList.take (n * s) = xs := by
  obtain ⟨_, h2⟩ := h
  rcases h2 with ⟨_, h2⟩ | ⟨g, cap, cur, h1, h2, h3, h4, h5, h6, h7⟩
  · omega
  · exact ⟨g, cap, cur, h1, h2, h3, h4, h5, h6, h7⟩
theorem own_open (h : w.ownsRow B e s (.slice (some ⟨g, 0, none⟩) n cap) n xs) :
    ∃ cur, B ≤ g ∧ Blk w g e cur ∧ n ≤ cap ∧ cap ≤ maxLen ∧ cur.size = cap * s ∧ cur.toList.take (n * s) = xs := by
  obtain ⟨_, h2⟩ := h
  rcases h2 with ⟨h2, _⟩ | ⟨g', cap', cur, h1, h2, h3, h4, h5, h6, h7⟩
  · cases h2
  · injection h1 with h1 _ h1'
    injection h1 with h1
    injection h1 with h1
    subst h1 h1'
    exact ⟨cur, h2, h3, h4, h5, h6, h7⟩
theorem own_len (h : w.ownsRow B e s v n xs) : xs.length = n * s := h.1
theorem own_cell (h : w.ownsRow B e s (.slice (some ⟨g, 0, none⟩) n cap) n xs) (j : Nat) (u : Value) (hj : xs[j]? = some u) : w.cell? ⟨g, j, none⟩ = some u := by
  obtain ⟨cur, _, hb, _, _, _, ht⟩ := own_open h
  have hl : j < n * s := by have := (List.getElem?_eq_some_iff.1 hj).1; rw [h.1] at this; exact this
  rw [hb.cell, ← hj, ← ht, List.getElem?_take, if_pos hl, Array.getElem?_toList]
theorem own_frozen (h : w.ownsRow B e s (.slice (some ⟨g, 0, none⟩) n cap) n xs) (j : Nat) : w.frozen? ⟨g, j, none⟩ = false := by
  obtain ⟨cur, _, hb, _⟩ := own_open h
  exact hb.frozen j
theorem own_lt (h : w.ownsRow B e s v n xs) {b : Nat} (hb : v.ownBlock = some b) : B ≤ b ∧ b < w.heap.size := by
  obtain ⟨_, h2⟩ := h
  rcases h2 with ⟨h2, _⟩ | ⟨g', cap', cur, h1, h2, h3, h4, h5, h6, h7⟩
  · subst h2; simp [Value.ownBlock] at hb
  · subst h1
    simp only [Value.ownBlock, Option.some.injEq] at hb
    subst hb
    exact ⟨h2, Blk.lt h3⟩
theorem own_type (h : w.ownsRow B e s v n xs) {b : Nat} {t : TypeId} {cs : Array Value} (hb : Blk w b t cs) (hne : t ≠ e) : v.ownBlock ≠ some b := by
  intro hv
  obtain ⟨_, h2⟩ := h
  rcases h2 with ⟨h2, _⟩ | ⟨g', cap', cur, h1, h2, h3, h4, h5, h6, h7⟩
  · subst h2; simp [Value.ownBlock] at hv
  · subst h1
    simp only [Value.ownBlock, Option.some.injEq] at hv
    subst hv
    exact (Blk.ne_ hb h3 hne) rfl
theorem own_upd (h : w.ownsRow B e s v n xs) (hu : Upd S w w') (hne : ∀ b, v.ownBlock = some b → b ∉ S) : w'.ownsRow B e s v n xs := by
  obtain ⟨h1, h2⟩ := h
  refine ⟨h1, ?_⟩
  rcases h2 with h2 | ⟨g, cap, cur, rfl, h2, h3, h4, h5, h6, h7⟩
  · exact .inl h2
  · exact .inr ⟨g, cap, cur, rfl, h2, Blk.upd h3 hu (hne g rfl), h4, h5, h6, h7⟩
theorem own_upd0 (h : w.ownsRow B e s v n xs) (hu : Upd [] w w') : w'.ownsRow B e s v n xs := own_upd h hu fun _ _ => by simp
theorem own_set (h : w.ownsRow B e s (.slice (some ⟨g, 0, none⟩) n cap) n xs) (j : Nat) (u : Value) :
    (w.setCell ⟨g, j, none⟩ u).ownsRow B e s (.slice (some ⟨g, 0, none⟩) n cap) n (xs.set j u) := by
  obtain ⟨cur, h2, h3, h4, h5, h6, h7⟩ := own_open h
  refine ⟨by rw [List.length_set, h.1], .inr ⟨g, cap, _, rfl, h2, h3.set_ j u, h4, h5, by simpa using h6, ?_⟩⟩
  rw [← h7, Array.toList_setIfInBounds, List.take_set]
theorem own_take (h : w.ownsRow B e s (.slice (some ⟨g, 0, none⟩) n cap) n xs) (m : Nat) (hm : m ≤ n) :
    w.ownsRow B e s (.slice (some ⟨g, 0, none⟩) m cap) m (xs.take (m * s)) := by
  obtain ⟨cur, h2, h3, h4, h5, h6, h7⟩ := own_open h
  have hms : m * s ≤ n * s := Nat.mul_le_mul_right s hm
  refine ⟨by rw [List.length_take, h.1]; omega, .inr ⟨g, cap, _, rfl, h2, h3, by omega, h5, h6, ?_⟩⟩
  rw [← h7, List.take_take, Nat.min_eq_left hms]
theorem own_nil (w : World) (B : Nat) (e : TypeId) (s : Nat) : w.ownsRow B e s (.slice none 0 0) 0 [] := ⟨by simp, .inl ⟨rfl, rfl⟩⟩
theorem own_base {B' : Nat} (h : w.ownsRow B e s v n xs) (hb : B' ≤ B) : w.ownsRow B' e s v n xs := by
  obtain ⟨h1, h2⟩ := h
  refine ⟨h1, ?_⟩
  rcases h2 with h2 | ⟨g, cap, cur, rfl, h2, h3⟩
  · exact .inl h2
  · exact .inr ⟨g, cap, cur, rfl, by omega, h3⟩
/-- The cells of an element that lies in a block of its own, as append's law asks for them. -/
theorem news_of_blk {q : Nat} {cs : Array Value} (h : Blk w q e cs) : ∀ j u, cs.toList[j]? = some u → w.cell? ((⟨q, 0, none⟩ : Addr).add j) = some u := fun j u hu => by
  rw [add_head, h.cell, ← Array.getElem?_toList]; exact hu
end
end Go.Proofs.YtfbeaklplefojaaGreatDoor

namespace Go.Proofs.YtfbeaklplefojaaGreatDoor
open Go.RowKit

/-- What append asks of the element's type: its number, its cells, its bytes. -/
structure Elem (P : Program) (t e : TypeId) (s bytes : Nat) : Prop where
  und : P.underlying t = some (.slice e)
  info : ∃ i z, P.info? e = some i ∧ i.zero = some z ∧ i.size = s ∧ i.bytes = bytes ∧ z.cells.size = s
  pos : 0 < s
theorem Elem.mk' {P : Program} {t e : TypeId} {s bytes : Nat} {z : Value} (und : P.underlying t = some (.slice e)) (info : (P.info? e).map (fun i => (i.zero, i.size, i.bytes)) = some (some z, s, bytes)) (hz : z.cells.size = s) (pos : 0 < s) : Elem P t e s bytes := by
  obtain ⟨i, h1, h2, h3, h4⟩ := info_parts info
  exact ⟨und, ⟨i, z, h1, h2, h3, h4, hz⟩, pos⟩

/-- A slice value that reads as these cells. -/
def Src (w : World) (s : Nat) (x : Value) (m : Nat) (news : List Value) : Prop :=
  news.length = m * s ∧ ∃ A c, x = .slice A m c ∧ ∀ j u, news[j]? = some u → ∃ ad : Addr, A = some ad ∧ ad.block < w.heap.size ∧ w.cell? (ad.add j) = some u
theorem add_more (a : Addr) (i j : Nat) : a.add (i + (j + 1)) = ⟨(a.add i).block, (a.add i).off + (j + 1), none⟩ := by
  unfold Addr.add
  by_cases h : i = 0
  · subst h; simp
  · simp [h]; omega
theorem block_add (a : Addr) (n : Nat) : (a.add n).block = a.block := by unfold Addr.add; split <;> rfl

section
variable {w w' : World} {B s n m cap g : Nat} {e : TypeId} {v x : Value} {xs news : List Value}
theorem Src.upd {S : List Nat} (h : Src w s x m news) (hu : Upd S w w') (hS : ∀ b, x.ownBlock = some b → b ∉ S) : Src w' s x m news := by
  obtain ⟨h1, A, c, rfl, h2⟩ := h
  refine ⟨h1, A, c, rfl, fun j u hj => ?_⟩
  obtain ⟨ad, rfl, hl, hc⟩ := h2 j u hj
  refine ⟨ad, rfl, Nat.lt_of_lt_of_le hl hu.size, (World.cell?_of_block ?_).trans hc⟩
  exact hu.keep _ (by rw [block_add]; exact hl) (by rw [block_add]; exact hS _ rfl)
theorem Src.upd0 (h : Src w s x m news) (hu : Upd [] w w') : Src w' s x m news := h.upd hu (by simp)
theorem Src.of_own (h : w.ownsRow B e s v n xs) : Src w s v n xs := by
  refine ⟨h.1, ?_⟩
  rcases h.2 with ⟨rfl, rfl⟩ | ⟨g, cap, cur, rfl, _, hb, _, _, _, _⟩
  · have : xs = [] := List.eq_nil_of_length_eq_zero (by simpa using h.1)
    subst this
    exact ⟨none, 0, rfl, by simp⟩
  · exact ⟨_, cap, rfl, fun j u hj => ⟨_, rfl, Blk.lt hb, by rw [add_head]; exact own_cell h j u hj⟩⟩
theorem Src.of_blk {q : Nat} {cs : Array Value} {t : TypeId} (h : Blk w q t cs) (c : Nat) (hl : cs.size = m * s) : Src w s (.slice (some ⟨q, 0, none⟩) m c) m cs.toList :=
  ⟨by simpa using hl, _, c, rfl, fun j u hj => ⟨_, rfl, h.lt, by rw [add_head, h.cell, ← Array.getElem?_toList]; exact hj⟩⟩
theorem own_slice (h : w.ownsRow B e s v n xs) : ∃ A c, v = .slice A n c ∧ n ≤ c ∧ c ≤ maxLen := by
  rcases h.2 with ⟨rfl, rfl⟩ | ⟨g, cap, cur, rfl, _, _, h4, h5, _⟩
  · exact ⟨_, _, rfl, Nat.le_refl _, by simp [maxLen]⟩
  · exact ⟨_, _, rfl, h4, h5⟩
/-- x[:k] of a slice that reads as some cells. -/
theorem Src.take {A : Option Addr} {c : Nat} (h : Src w s (.slice A n c) n xs) (k : Nat) (hk : k ≤ n) (c' : Nat) : Src w s (.slice A k c') k (xs.take (k * s)) := by
  obtain ⟨h1, A', c2, he, h2⟩ := h
  injection he with hA _ _
  subst hA
  refine ⟨by rw [List.length_take, h1]; exact Nat.min_eq_left (Nat.mul_le_mul_right s hk), _, c', rfl, fun j u hj => ?_⟩
  rw [List.getElem?_take] at hj
  split at hj
  · exact h2 j u hj
  · cases hj
/-- x[k:]. -/
theorem Src.drop {A : Option Addr} {c : Nat} (h : Src w s (.slice A n c) n xs) (k : Nat) (hk : k ≤ n) (hc : n ≤ c) (c' : Nat) : Src w s (.slice (if c = k then A else A.map (·.add (k * s))) (n - k) c') (n - k) (xs.drop (k * s)) := by
  obtain ⟨h1, A', c2, he, h2⟩ := h
  injection he with hA _ _
  subst hA
  have hl : (xs.drop (k * s)).length = (n - k) * s := by rw [List.length_drop, h1, Nat.sub_mul]
  refine ⟨hl, _, c', rfl, fun j u hj => ?_⟩
  have hj' := (List.getElem?_eq_some_iff.1 hj).1
  have hck : c ≠ k := by
    intro e
    have : n = k := by omega
    subst this
    rw [hl] at hj'
    simp at hj'
  rw [if_neg hck]
  rw [List.getElem?_drop] at hj
  obtain ⟨ad, rfl, hb, hcell⟩ := h2 _ u hj
  exact ⟨_, rfl, by rw [block_add]; exact hb, by show w.cell? ((ad.add (k * s)).add j) = some u; rw [Go.Deep.add_add]; exact hcell⟩
end

section
variable {P : Program} (w : World) {B s n m c bytes : Nat} {t e : TypeId} {v x : Value} {xs news : List Value}
theorem run_app (ET : Elem P t e s bytes) (ty : TypeId) (hown : w.ownsRow B e s v n xs) (hs : Src w s x m news) (h1 : ∀ u ∈ news, u.oneCell' = true) (h63 : n + m ≤ maxLen) (hby : (n + m) * bytes ≤ 140737488355328) (hB : B ≤ w.heap.size) :
    ∃ v' w', (Builtin.append_ #[t, t] ty #[v, x]).run P w = .ok v' w' ∧ w'.ownsRow B e s v' (n + m) (xs ++ news) ∧ Upd v.ownBlock.toList w w' ∧ (v'.ownBlock = v.ownBlock ∨ v'.ownBlock = some w.heap.size) := by
  obtain ⟨i, z, hi, hz, hz1, hz2, hzs⟩ := ET.info
  obtain ⟨hl, A, cx, rfl, hc⟩ := hs
  rcases A with _ | ad
  · have hn : news = [] := by
      cases news with
      | nil => rfl
      | cons u r => obtain ⟨ad, h, _⟩ := hc 0 u rfl; cases h
    subst hn
    have hm : m = 0 := by
      have hp := ET.pos
      rcases Nat.eq_zero_or_pos m with h | h
      · exact h
      · have := Nat.mul_pos h hp
        simp at hl
        omega
    subst hm
    refine ⟨v, w, ?_, by simpa using hown, .refl _ _, .inl rfl⟩
    rcases hown.2 with ⟨rfl, rfl⟩ | ⟨g, cap, cur, rfl, _, _, hnc, _⟩
    · simp [Builtin.append_, run_underlying ET.und, sizeOf, typeInfo, hi, Builtin.lenOf, Builtin.firstCells]
    · simp [Builtin.append_, run_underlying ET.und, sizeOf, typeInfo, hi, Builtin.lenOf, Builtin.firstCells, hnc, storeCells]
  · have hcells : ∀ j u, news[j]? = some u → w.cell? (ad.add j) = some u := fun j u hj => by
      obtain ⟨ad', h, _, h2⟩ := hc j u hj
      cases h
      exact h2
    obtain ⟨v', w', hr, h2, h3, _, h5⟩ := run_append_own_at (P := P) w B t ty e i z s bytes ET.und hi hz hz1 hz2 hzs ET.pos v n xs hown ad m cx news hl hcells h1 h63 hby hB
    exact ⟨v', w', hr, h2, own_upd_of_grown h3, h5⟩

theorem wp_app {o : Oper} {a : Act} {K : Act → World → Prop} {Q : Exit → Act → World → Prop} (s' x' : Operand) (t : TypeId) (ho : o.op = .call { callee := .builtin .append, args := #[s', x'], argTypes := #[t, t] })
    (ET : Elem P t e s bytes) (v x : Value) (hs : a.eval s' = v) (hx : a.eval x' = x) (hown : w.ownsRow B e s v n xs) (hsrc : Src w s x m news) (h1 : ∀ u ∈ news, u.oneCell' = true) (h63 : n + m ≤ maxLen) (hby : (n + m) * bytes ≤ 140737488355328) (hB : B ≤ w.heap.size)
    (h : ∀ v' w', w'.ownsRow B e s v' (n + m) (xs ++ news) → Upd v.ownBlock.toList w w' → (v'.ownBlock = v.ownBlock ∨ v'.ownBlock = some w.heap.size) → K (a.put o.dst v') w') : o.wp P a w K Q := by
  obtain ⟨v', w', hr, h2, h3, h4⟩ := run_app (P := P) w ET o.type hown hsrc h1 h63 hby hB
  unfold Oper.wp execOp
  simp only [ho, resolve, invoke, builtin, Sem.run_bind, Sem.run_pure, Result.andThen_ok, List.map_toArray, List.map_cons, List.map_nil, hs, hx, hr]
  exact h v' w' h2 h3 h4
/-- In a plain region. -/
theorem wpList_app {ops : Array Oper} {rest : List Oper} {o : Oper} {a : Act} {Q : Exit → Act → World → Prop} (hgd : o.guard = none) (s' x' : Operand) (t : TypeId) (ho : o.op = .call { callee := .builtin .append, args := #[s', x'], argTypes := #[t, t] })
    (ET : Elem P t e s bytes) (v x : Value) (hs : a.eval s' = v) (hx : a.eval x' = x) (hown : w.ownsRow B e s v n xs) (hsrc : Src w s x m news) (h1 : ∀ u ∈ news, u.oneCell' = true) (h63 : n + m ≤ maxLen) (hby : (n + m) * bytes ≤ 140737488355328) (hB : B ≤ w.heap.size)
    (h : ∀ v' w', w'.ownsRow B e s v' (n + m) (xs ++ news) → Upd v.ownBlock.toList w w' → (v'.ownBlock = v.ownBlock ∨ v'.ownBlock = some w.heap.size) → wpList P ops Q rest (a.put o.dst v') w') : wpList P ops Q (o :: rest) a w :=
  wpList_plain hgd fun _ hK => wp_app w s' x' t ho ET v x hs hx hown hsrc h1 h63 hby hB fun v' w' h2 h3 h4 => hK _ _ (h v' w' h2 h3 h4)
/-- At a step of a region that draws its order. -/
theorem step_app {ops : Array Oper} {o : Oper} {a : Act} {K : Act → World → Prop} {Q : Exit → Act → World → Prop} {E : Prop} (hgd : o.guard = none) (s' x' : Operand) (t : TypeId) (ho : o.op = .call { callee := .builtin .append, args := #[s', x'], argTypes := #[t, t] })
    (ET : Elem P t e s bytes) (v x : Value) (hs : a.eval s' = v) (hx : a.eval x' = x) (hown : w.ownsRow B e s v n xs) (hsrc : Src w s x m news) (h1 : ∀ u ∈ news, u.oneCell' = true) (h63 : n + m ≤ maxLen) (hby : (n + m) * bytes ≤ 140737488355328) (hB : B ≤ w.heap.size)
    (h : ∀ v' w', w'.ownsRow B e s v' (n + m) (xs ++ news) → Upd v.ownBlock.toList w w' → (v'.ownBlock = v.ownBlock ∨ v'.ownBlock = some w.heap.size) → K (a.put o.dst v') w') :
    if Region.wanted o (yielded ops a.tmps) = true then Oper.wp P o a w K Q else E := by
  rw [if_pos (by simp [Region.wanted, hgd])]
  exact wp_app w s' x' t ho ET v x hs hx hown hsrc h1 h63 hby hB h
end

section
variable {P : Program} {s n c k bytes : Nat} {t e : TypeId} {A : Option Addr}
/-- x[:k]. -/
theorem cut_head (ET : Elem P t e s bytes) (A : Option Addr) (n c k : Nat) (hk : k ≤ n) (hc : n ≤ c) :
    ∃ X, (∀ W, (Instr.slice t (.slice A n c) none (some (.int .i64 k)) none).run P W = .ok X W) ∧ Value.ownBlock X = Value.ownBlock (.slice A n c) ∧ ∀ W xs, Src W s (.slice A n c) n xs → Src W s X k (xs.take (k * s)) := by
  obtain ⟨i, z, hi, hz, hz1, hz2, hzs⟩ := ET.info
  refine ⟨.slice A k c, fun W => ?_, by cases A <;> rfl, fun W xs h => h.take k hk c⟩
  have h2 : k ≤ c := by omega
  have h3 : (if c = 0 then A else Option.map (fun x => x.add 0) A) = A := by
    have : (fun x : Addr => x.add 0) = id := by funext x; rfl
    rw [this]; simp
  simp [Instr.slice, run_underlying ET.und, Instr.sliceBounds, Instr.sliceBound, asIntOf, h2, sizeOf, typeInfo, hi, h3]
/-- x[k:]. -/
theorem cut_tail (ET : Elem P t e s bytes) (A : Option Addr) (n c k : Nat) (hk : k ≤ n) (hc : n ≤ c) :
    ∃ X, (∀ W, (Instr.slice t (.slice A n c) (some (.int .i64 k)) none none).run P W = .ok X W) ∧ Value.ownBlock X = Value.ownBlock (.slice A n c) ∧ ∀ W xs, Src W s (.slice A n c) n xs → Src W s X (n - k) (xs.drop (k * s)) := by
  obtain ⟨i, z, hi, hz, hz1, hz2, hzs⟩ := ET.info
  refine ⟨.slice (if c = k then A else A.map (·.add (k * s))) (n - k) (c - k), fun W => ?_, ?_, fun W xs h => h.drop k hk hc (c - k)⟩
  · simp [Instr.slice, run_underlying ET.und, Instr.sliceBounds, Instr.sliceBound, asIntOf, sizeOf, typeInfo, hi, hz1]
    omega
  · cases A with
    | none => simp [Value.ownBlock]
    | some a =>
      by_cases h : c = k
      · simp [h, Value.ownBlock]
      · simp [h, Value.ownBlock, block_add]
/-- What a slice literal of no elements makes. -/
theorem own_made {W : World} {H B : Nat} (s : Nat) (h : Blk W H e #[]) (hB : B ≤ H) : W.ownsRow B e s (.slice (some ⟨H, 0, none⟩) 0 0) 0 [] :=
  ⟨by simp, .inr ⟨H, 0, #[], rfl, hB, h, Nat.le_refl _, by simp [maxLen], by simp, by simp⟩⟩
end
end Go.Proofs.YtfbeaklplefojaaGreatDoor

namespace Go.Proofs.YtfbeaklplefojaaGreatDoor
open Go Go.RowKit Go.MapKept

abbrev IEnt := Int × Value × Nat
def ent (q : IntKind) (p : IEnt) : MapEntry := { key := .int q p.1, val := p.2.1, born := p.2.2 }
structure IRaw (w : World) (q : IntKind) (b : Nat) (L : List IEnt) (c : Nat) : Prop where
  blk : w.heap[b]? = some (.map (L.map (ent q)).toArray c)
  keys : (L.map (·.1)).Nodup
  stamps : (L.map (·.2.2)).Nodup
  lt : ∀ p ∈ L, p.2.2 < c
def findI (L : List IEnt) (k : Int) : Option Value := (L.find? (fun p => p.1 == k)).map (·.2.1)
/-- Block b is a map with these values, n in all. -/
def IMap (w : World) (q : IntKind) (b : Nat) (f : Int → Option Value) (n : Nat) : Prop := ∃ L c, IRaw w q b L c ∧ (∀ k, f k = findI L k) ∧ L.length = n

section
variable {P : Program} {w w' : World} {q : IntKind} {b : Nat} {L : List IEnt} {c : Nat} {f : Int → Option Value} {n : Nat}
theorem IRaw.lt' (h : IRaw w q b L c) : b < w.heap.size := by
  rcases Nat.lt_or_ge b w.heap.size with hl | hg
  · exact hl
  · have := h.blk
    rw [Array.getElem?_eq_none hg] at this
    cases this
theorem IMap.lt (h : IMap w q b f n) : b < w.heap.size := by
  obtain ⟨L, c, h, _⟩ := h
  exact h.lt'
theorem IMap.upd {S : List Nat} (h : IMap w q b f n) (hu : Upd S w w') (hb : b ∉ S) : IMap w' q b f n := by
  obtain ⟨L, c, h, h1, h2⟩ := h
  exact ⟨L, c, ⟨(hu.keep b h.lt' hb).trans h.blk, h.keys, h.stamps, h.lt⟩, h1, h2⟩
theorem IMap.drew (h : IMap w q b f n) : IMap w.drew q b f n := by
  obtain ⟨L, c, h, h1, h2⟩ := h
  exact ⟨L, c, ⟨h.blk, h.keys, h.stamps, h.lt⟩, h1, h2⟩
theorem IMap.new (w : World) (q : IntKind) : IMap (w.alloc (.map #[] 0)) q w.heap.size (fun _ => none) 0 :=
  ⟨[], 0, ⟨by simpa using heap_alloc_new w (.map #[] 0), by simp, by simp, by simp⟩, fun _ => rfl, rfl⟩
theorem IMap.congr {g : Int → Option Value} (h : IMap w q b f n) (hg : ∀ k, f k = g k) : IMap w q b g n := by
  obtain ⟨L, c, h, h1, h2⟩ := h
  exact ⟨L, c, h, fun k => (hg k).symm.trans (h1 k), h2⟩

theorem findNow_ent (k : Int) : ∀ (L : List IEnt) (i : Nat), Instr.findNow (.int q) (.int q k) (L.map (ent q)) i = some ((L.findIdx? (fun p => p.1 == k)).map (fun j => (i + j, (L.getD j (0, undef, 0)).2.1)))
  | [], i => rfl
  | p :: L, i => by
    rw [List.map_cons]
    unfold Instr.findNow
    have e : Instr.sameNow (.int q) (.int q k) (ent q p).key = some (k == p.1) := by simp [Instr.sameNow, ent]
    rw [e]
    by_cases h : p.1 = k
    · subst h
      simp [ent, List.findIdx?_cons]
    · have h1 : (k == p.1) = false := by simpa using fun e => h e.symm
      have h2 : (p.1 == k) = false := by simpa using h
      rw [h1]
      simp only
      rw [findNow_ent k L (i + 1), List.findIdx?_cons, h2]
      cases L.findIdx? (fun p => p.1 == k) with
      | none => rfl
      | some j => simp; omega
theorem findI_idx {k : Int} : findI L k = (L.findIdx? (fun p => p.1 == k)).map (fun j => (L.getD j (0, undef, 0)).2.1) := by
  induction L with
  | nil => rfl
  | cons p L ih =>
    unfold findI at ih ⊢
    rw [List.find?_cons, List.findIdx?_cons]
    cases h : p.1 == k with
    | true => simp
    | false =>
      simp only [Bool.false_eq_true, if_false]
      rw [ih]
      cases L.findIdx? (fun p => p.1 == k) <;> simp
theorem run_findKey_int {kt : TypeId} (hk : P.underlying kt = some (.int q)) (k : Int) (L : List IEnt) (W : World) : (Instr.findKey kt (.int q k) (L.map (ent q))).run P W = .ok ((L.findIdx? (fun p => p.1 == k)).map (fun j => (j, (L.getD j (0, undef, 0)).2.1))) W := by
  unfold Instr.findKey
  simp only [Sem.run_bind, run_underlying hk, Result.andThen]
  rw [findNow_ent]
  simp
theorem run_getObj_blk {b : Nat} {es : Array MapEntry} {c : Nat} (h : w.heap[b]? = some (.map es c)) : (getObj b).run P w = .ok (.map es c) w := by
  simp [getObj, Sem.run, h]
theorem run_lookup_int {mt kt et : TypeId} {z : Value} (hm : P.underlying mt = some (.map kt et)) (hk : P.underlying kt = some (.int q)) (hz : (zeroValue et).run P w = .ok z w) (h : IMap w q b f n) (k : Int) :
    (Instr.lookup mt (.map (some b)) (.int q k) true).run P w = .ok (.tuple #[(f k).getD z, .bool (f k).isSome]) w := by
  obtain ⟨L, c, h, hf, _⟩ := h
  rw [hf, findI_idx]
  unfold Instr.lookup
  simp only [Sem.run_bind, run_underlying hm, Result.andThen, run_getObj_blk h.blk, Sem.run_pure, run_checkKey hk (show IsKey (.int q) (.int q k) by simp [IsKey])]
  have e : (Instr.findKey kt (.int q k) (L.map (ent q)).toArray.toList).run P w = _ := run_findKey_int hk k L w
  rw [e]
  simp only
  cases L.findIdx? (fun p => p.1 == k) with
  | none => simp [Sem.run_bind, hz, Result.andThen]
  | some j => simp [Result.andThen]
theorem run_lookup_int' {mt kt et : TypeId} {z : Value} (hm : P.underlying mt = some (.map kt et)) (hk : P.underlying kt = some (.int q)) (hz : (zeroValue et).run P w = .ok z w) (h : IMap w q b f n) (k : Int) :
    (Instr.lookup mt (.map (some b)) (.int q k) false).run P w = .ok ((f k).getD z) w := by
  obtain ⟨L, c, h, hf, _⟩ := h
  rw [hf, findI_idx]
  unfold Instr.lookup
  simp only [Sem.run_bind, run_underlying hm, Result.andThen, run_getObj_blk h.blk, Sem.run_pure, run_checkKey hk (show IsKey (.int q) (.int q k) by simp [IsKey])]
  have e : (Instr.findKey kt (.int q k) (L.map (ent q)).toArray.toList).run P w = _ := run_findKey_int hk k L w
  rw [e]
  simp only
  cases L.findIdx? (fun p => p.1 == k) with
  | none => simp [Sem.run_bind, hz, Result.andThen]
  | some j => simp [Result.andThen]

def putI (f : Int → Option Value) (k : Int) (v : Value) : Int → Option Value := fun x => if x = k then some v else f x
def delI (f : Int → Option Value) (k : Int) : Int → Option Value := fun x => if x = k then none else f x
theorem upd_setBlk {b : Nat} (o : Obj) (hb : b < w.heap.size) : Upd [b] w { w with heap := w.heap.setIfInBounds b o } :=
  ⟨rfl, rfl, rfl, by simp, fun k hk hn => by
    have : b ≠ k := fun e => hn (by simp [e])
    simp [this]⟩
theorem find_some_mem {k : Int} {j : Nat} (h : L.findIdx? (fun p => p.1 == k) = some j) : ∃ hj : j < L.length, L[j].1 = k := by
  rw [List.findIdx?_eq_some_iff_getElem] at h
  obtain ⟨hj, h1, _⟩ := h
  exact ⟨hj, by simpa using h1⟩
theorem find_none {k : Int} (h : L.findIdx? (fun p => p.1 == k) = none) : ∀ p ∈ L, p.1 ≠ k := by
  rw [List.findIdx?_eq_none_iff] at h
  intro p hp
  simpa using h p hp
theorem findI_none {k : Int} (h : ∀ p ∈ L, p.1 ≠ k) : findI L k = none := by
  unfold findI
  rw [List.find?_eq_none.2 (fun p hp => by simpa using h p hp)]
  rfl
/-- What a list of entries with unlike keys has. -/
theorem findI_mem (hn : (L.map (·.1)).Nodup) {p : IEnt} (hp : p ∈ L) : findI L p.1 = some p.2.1 := by
  induction L with
  | nil => simp at hp
  | cons a L ih =>
    rw [List.map_cons, List.nodup_cons] at hn
    unfold findI at ih ⊢
    rw [List.find?_cons]
    rcases List.mem_cons.1 hp with rfl | hp
    · simp
    · have : (a.1 == p.1) = false := by
        have : a.1 ≠ p.1 := fun e => hn.1 (e ▸ List.mem_map.2 ⟨p, hp, rfl⟩)
        simpa using this
      rw [this]
      exact ih hn.2 hp
theorem findI_append {M : List IEnt} (k : Int) : findI (L ++ M) k = (findI L k).or (findI M k) := by
  unfold findI
  rw [List.find?_append]
  cases L.find? (fun p => p.1 == k) <;> simp
theorem findI_set {j : Nat} {k : Int} (hn : (L.map (·.1)).Nodup) (hj : j < L.length) (hk : L[j].1 = k) (v : Value) (s : Nat) (x : Int) : findI (L.set j (k, v, s)) x = if x = k then some v else findI L x := by
  induction L generalizing j with
  | nil => simp at hj
  | cons a L ih =>
    rw [List.map_cons, List.nodup_cons] at hn
    cases j with
    | zero =>
      simp only [List.getElem_cons_zero] at hk
      rw [List.set_cons_zero]
      unfold findI
      rw [List.find?_cons, List.find?_cons, hk]
      by_cases h : x = k
      · subst h; simp
      · have : (k == x) = false := by simpa using fun e => h e.symm
        simp only [this]
        rw [if_neg h]
    | succ j =>
      rw [List.set_cons_succ]
      unfold findI at ih ⊢
      rw [List.find?_cons, List.find?_cons]
      by_cases h : a.1 = x
      · subst h
        have : a.1 ≠ k := fun e => hn.1 (by
          have hj' : j < L.length := by simpa using hj
          refine List.mem_map.2 ⟨L[j], List.getElem_mem hj', ?_⟩
          simpa [e] using hk)
        simp [this]
      · have : (a.1 == x) = false := by simpa using h
        rw [this]
        simp only
        exact ih hn.2 (by simpa using hj) (by simpa using hk)
theorem set_same {α : Type} {l : List α} {j : Nat} {x : α} (hj : j < l.length) (h : l[j] = x) : l.set j x = l := by
  subst h
  exact List.set_getElem_self hj
theorem IRaw.set {j : Nat} {k : Int} (h : IRaw w q b L c) (hj : j < L.length) (hk : L[j].1 = k) (v : Value) : IRaw { w with heap := w.heap.setIfInBounds b (.map ((L.set j (k, v, L[j].2.2)).map (ent q)).toArray c) } q b (L.set j (k, v, L[j].2.2)) c := by
  refine ⟨(heap_set h.blk).1, ?_, ?_, ?_⟩
  · rw [List.map_set, set_same (by simpa using hj) (by simpa using hk)]
    exact h.keys
  · rw [List.map_set, set_same (by simpa using hj) (by simp)]
    exact h.stamps
  · intro p hp
    rcases List.mem_or_eq_of_mem_set hp with hp | rfl
    · exact h.lt p hp
    · exact h.lt L[j] (List.getElem_mem hj)
theorem IRaw.push {k : Int} (h : IRaw w q b L c) (hk : ∀ p ∈ L, p.1 ≠ k) (v : Value) : IRaw { w with heap := w.heap.setIfInBounds b (.map ((L ++ [(k, v, c)]).map (ent q)).toArray (c + 1)) } q b (L ++ [(k, v, c)]) (c + 1) := by
  refine ⟨(heap_set h.blk).1, ?_, ?_, ?_⟩
  · rw [List.map_append, List.nodup_append]
    refine ⟨h.keys, by simp, ?_⟩
    intro a ha x hx
    simp at hx
    subst hx
    obtain ⟨p, hp, rfl⟩ := List.mem_map.1 ha
    exact hk p hp
  · rw [List.map_append, List.nodup_append]
    refine ⟨h.stamps, by simp, ?_⟩
    intro a ha x hx
    simp at hx
    subst hx
    obtain ⟨p, hp, rfl⟩ := List.mem_map.1 ha
    have := h.lt p hp
    omega
  · intro p hp
    rcases List.mem_append.1 hp with hp | hp
    · have := h.lt p hp; omega
    · simp at hp; subst hp; simp
theorem modify_ent {j : Nat} {k : Int} (hj : j < L.length) (hk : L[j].1 = k) (g : MapEntry → MapEntry) (v : Value) (hg : g (ent q L[j]) = ent q (k, v, L[j].2.2)) : (L.map (ent q)).toArray.modify j g = ((L.set j (k, v, L[j].2.2)).map (ent q)).toArray := by
  apply Array.ext_getElem?
  intro i
  rw [Array.getElem?_modify]
  simp only [List.getElem?_toArray, List.getElem?_map, List.getElem?_set]
  by_cases h : j = i
  · subst h
    simp [hj, hg]
  · simp [h]
theorem run_keyStays (k : Int) (W : World) : (Instr.keyThatStays (.int q k) (.int q k)).run P W = .ok (.int q k) W := by
  unfold Instr.keyThatStays
  have : Instr.sameBits 10000 (.int q k) (.int q k) = true := by simp [Instr.sameBits]
  rw [if_pos this]
  simp
theorem run_mapUpdate_int {mt kt et : TypeId} (hm : P.underlying mt = some (.map kt et)) (hk : P.underlying kt = some (.int q)) (h : IMap w q b f n) (k : Int) (v : Value) :
    ∃ w', (Instr.mapUpdate mt (.map (some b)) (.int q k) v).run P w = .ok () w' ∧ IMap w' q b (putI f k v) (if (f k).isSome then n else n + 1) ∧ Upd [b] w w' := by
  obtain ⟨L, c, h, hf, hn⟩ := h
  have hfk := hf k
  rw [findI_idx] at hfk
  unfold Instr.mapUpdate
  simp only [Sem.run_bind, run_underlying hm, Result.andThen, run_getObj_blk h.blk, run_checkKey hk (show IsKey (.int q) (.int q k) by simp [IsKey])]
  have e : (Instr.findKey kt (.int q k) (L.map (ent q)).toArray.toList).run P w = _ := run_findKey_int hk k L w
  rw [e]
  simp only
  cases hi : L.findIdx? (fun p => p.1 == k) with
  | none =>
    have hno := find_none hi
    rw [hi] at hfk
    rw [hfk]
    refine ⟨_, by simp only [Option.map_none]; exact run_setObj_map _ h.blk, ⟨L ++ [(k, v, c)], c + 1, ?_, fun x => ?_, by simp [hn]⟩, upd_setBlk _ h.lt'⟩
    · have := h.push hno v
      rw [List.map_append] at this
      rw [List.push_toArray]
      exact this
    · unfold putI
      rw [findI_append, hf]
      by_cases hx : x = k
      · subst hx
        rw [if_pos rfl, findI_none hno]
        simp [findI]
      · rw [if_neg hx]
        have : findI [(k, v, c)] x = none := findI_none (by simp; exact fun e => hx e.symm)
        rw [this]
        simp
  | some j =>
    obtain ⟨hj, hjk⟩ := find_some_mem hi
    rw [hi] at hfk
    have hke : (((L.map (ent q)).toArray[j]?).map (·.key)).getD (.int q k) = .int q k := by
      simp [hj, ent, hjk]
    refine ⟨_, ?_, ⟨L.set j (k, v, L[j].2.2), c, h.set hj hjk v, fun x => ?_, by rw [hfk]; simp [hn]⟩, upd_setBlk _ h.lt'⟩
    · simp only [Option.map_some, Sem.run_bind, Result.andThen, hke, run_keyStays]
      rw [modify_ent hj hjk _ v (by simp [ent])]
      exact run_setObj_map _ h.blk
    · unfold putI
      rw [findI_set h.keys hj hjk, hf]
theorem run_delete_int {mt kt et ty : TypeId} {ats : Array TypeId} (ha : ats[0]? = some mt) (hm : P.underlying mt = some (.map kt et)) (hk : P.underlying kt = some (.int q)) (h : IMap w q b f n) (k : Int) :
    ∃ w', (Builtin.delete_ ats ty #[.map (some b), .int q k]).run P w = .ok (.tuple #[]) w' ∧ IMap w' q b (delI f k) (if (f k).isSome then n - 1 else n) ∧ Upd [b] w w' := by
  obtain ⟨L, c, h, hf, hn⟩ := h
  have hfk := hf k
  rw [findI_idx] at hfk
  unfold Builtin.delete_
  rw [ha]
  simp only [List.getElem?_toArray, List.getElem?_cons_zero, List.getElem?_cons_succ, Sem.run_bind, run_underlying hm, Result.andThen, run_getObj_blk h.blk, run_checkKey hk (show IsKey (.int q) (.int q k) by simp [IsKey])]
  have e : (Instr.findKey kt (.int q k) (L.map (ent q)).toArray.toList).run P w = _ := run_findKey_int hk k L w
  rw [e]
  simp only
  cases hi : L.findIdx? (fun p => p.1 == k) with
  | none =>
    have hno := find_none hi
    rw [hi] at hfk
    rw [hfk]
    refine ⟨_, by simp only [Option.map_none, Sem.run_bind, run_setObj_map _ h.blk, Result.andThen, Sem.run_pure], ⟨L, c, ⟨(heap_set h.blk).1, h.keys, h.stamps, h.lt⟩, fun x => ?_, by simp [hn]⟩, upd_setBlk _ h.lt'⟩
    unfold delI
    by_cases hx : x = k
    · subst hx; rw [if_pos rfl, findI_none hno]
    · rw [if_neg hx, hf]
  | some j =>
    obtain ⟨hj, hjk⟩ := find_some_mem hi
    rw [hi] at hfk
    have e1 : (L.map (ent q)).toArray.eraseIdxIfInBounds j = ((L.eraseIdx j).map (ent q)).toArray := by
      have : (L.map (ent q)).eraseIdx j = (L.eraseIdx j).map (ent q) := by
        rw [List.eraseIdx_eq_take_drop_succ, List.eraseIdx_eq_take_drop_succ, List.map_append, List.map_take, List.map_drop]
      simp [Array.eraseIdxIfInBounds, hj, List.eraseIdx_toArray, this]
    refine ⟨{ w with heap := w.heap.setIfInBounds b (.map ((L.eraseIdx j).map (ent q)).toArray c) }, by simp only [Option.map_some, Sem.run_bind, run_setObj_map _ h.blk, Result.andThen, Sem.run_pure]; rw [e1], ⟨L.eraseIdx j, c, ⟨(heap_set h.blk).1, ?_, ?_, fun p hp => h.lt p (List.mem_of_mem_eraseIdx hp)⟩, fun x => ?_, by rw [hfk, List.length_eraseIdx_of_lt hj, hn]; rfl⟩, upd_setBlk _ h.lt'⟩
    · exact h.keys.sublist ((List.eraseIdx_sublist L j).map _)
    · exact h.stamps.sublist ((List.eraseIdx_sublist L j).map _)
    · unfold delI
      have hL : L = L.take j ++ L[j] :: L.drop (j + 1) := by rw [← List.drop_eq_getElem_cons hj, List.take_append_drop]
      have hE : L.eraseIdx j = L.take j ++ L.drop (j + 1) := List.eraseIdx_eq_take_drop_succ ..
      have hnd := h.keys
      rw [hL, List.map_append, List.map_cons, hjk] at hnd
      rw [List.nodup_append, List.nodup_cons] at hnd
      obtain ⟨_, ⟨n1, _⟩, n3⟩ := hnd
      rw [hf, hE]
      conv => lhs; rw [hL]
      rw [findI_append, findI_append]
      by_cases hx : x = k
      · subst hx
        rw [if_pos rfl, findI_none (L := L.take j) (fun p hp e => n3 _ (List.mem_map.2 ⟨p, hp, rfl⟩) _ (List.mem_cons_self ..) e), findI_none (L := L.drop (j + 1)) (fun p hp e => n1 (List.mem_map.2 ⟨p, hp, e⟩))]
        rfl
      · rw [if_neg hx]
        have : findI (L[j] :: L.drop (j + 1)) x = findI (L.drop (j + 1)) x := by
          unfold findI
          rw [List.find?_cons]
          have : (L[j].1 == x) = false := by rw [hjk]; simpa using fun e => hx e.symm
          rw [this]
        rw [this]
/-- An assignment's first half: the entry is found, or made. -/
theorem run_mapEntry_int {mt kt et : TypeId} {z : Value} (hm : P.underlying mt = some (.map kt et)) (hk : P.underlying kt = some (.int q)) (hz : ∀ w, (zeroValue et).run P w = .ok z w) (h : IMap w q b f n) (k : Int) :
    ∃ (w' : World) (s : Nat), (Instr.mapEntry mt (.map (some b)) (.int q k)).run P w = .ok (.tuple #[(f k).getD z, goInt s]) w' ∧ (∃ L c, IRaw w' q b L c ∧ (∃ v, (k, v, s) ∈ L) ∧ (∀ x, findI L x = if x = k then some ((f k).getD z) else f x) ∧ L.length = if (f k).isSome then n else n + 1) ∧ Upd [b] w w' := by
  obtain ⟨L, c, h, hf, hn⟩ := h
  have hfk := hf k
  rw [findI_idx] at hfk
  unfold Instr.mapEntry
  simp only [Sem.run_bind, run_underlying hm, Result.andThen, run_getObj_blk h.blk, run_checkKey hk (show IsKey (.int q) (.int q k) by simp [IsKey])]
  have e : (Instr.findKey kt (.int q k) (L.map (ent q)).toArray.toList).run P w = _ := run_findKey_int hk k L w
  rw [e]
  simp only
  cases hi : L.findIdx? (fun p => p.1 == k) with
  | none =>
    have hno := find_none hi
    rw [hi] at hfk
    rw [hfk]
    refine ⟨_, c, by simp only [Option.map_none, Sem.run_bind, hz, Result.andThen, run_setObj_map _ h.blk, Sem.run_pure]; rfl, ⟨L ++ [(k, z, c)], c + 1, ?_, ⟨z, by simp⟩, fun x => ?_, by simp [hn]⟩, upd_setBlk _ h.lt'⟩
    · have := h.push hno z
      rw [List.map_append] at this
      rw [List.push_toArray]
      exact this
    · rw [findI_append, ← hf]
      by_cases hx : x = k
      · subst hx
        rw [if_pos rfl, hf, findI_none hno]
        simp [findI]
      · rw [if_neg hx]
        have : findI [(k, z, c)] x = none := findI_none (by simp; exact fun e => hx e.symm)
        rw [this]
        simp
  | some j =>
    obtain ⟨hj, hjk⟩ := find_some_mem hi
    rw [hi] at hfk
    have hke : (((L.map (ent q)).toArray[j]?).map (·.key)).getD (.int q k) = .int q k := by
      simp [hj, ent, hjk]
    have hbo : (((L.map (ent q)).toArray[j]?).map (fun x => (x.born : Int))).getD 0 = (L[j].2.2 : Int) := by
      simp [hj, ent]
    have hgd : L.getD j (0, undef, 0) = L[j] := by simp [List.getD_eq_getElem?_getD, hj]
    refine ⟨_, L[j].2.2, ?_, ⟨L.set j (k, L[j].2.1, L[j].2.2), c, h.set hj hjk L[j].2.1, ⟨L[j].2.1, List.mem_iff_getElem.2 ⟨j, by simpa using hj, by simp⟩⟩, fun x => ?_, by rw [hfk]; simp [hn]⟩, upd_setBlk _ h.lt'⟩
    · simp only [Option.map_some, Sem.run_bind, Result.andThen, hke, run_keyStays]
      rw [modify_ent hj hjk _ L[j].2.1 (by simp [ent]), run_setObj_map _ h.blk]
      simp only [Sem.run_pure, hbo, hfk, hgd, Option.map_some, Option.getD_some]
    · rw [findI_set h.keys hj hjk, ← hf, hfk]
      simp only [Option.map_some, Option.getD_some, hgd]
/-- Its second half. -/
theorem run_entryStore_int {mt : TypeId} {s : Nat} {k : Int} {v0 : Value} (h : IRaw w q b L c) (hs : (k, v0, s) ∈ L) (v : Value) :
    ∃ w', (Instr.entryStore mt (.map (some b)) (goInt s) v).run P w = .ok () w' ∧ IMap w' q b (fun x => if x = k then some v else findI L x) L.length ∧ Upd [b] w w' := by
  obtain ⟨j, hj, hjs⟩ := List.mem_iff_getElem.1 hs
  have hidx : (L.map (ent q)).toArray.findIdx? (fun e => (e.born : Int) == (s : Int)) = some j := by
    rw [List.findIdx?_toArray, List.findIdx?_eq_some_iff_getElem]
    refine ⟨by simpa using hj, by simp [ent, hjs], fun i hi => ?_⟩
    simp only [List.getElem_map, ent]
    have hne : L[i].2.2 ≠ s := by
      intro e
      have := List.pairwise_iff_getElem.1 h.stamps i j (by simp; omega) (by simpa using hj) hi
      simp [e, hjs] at this
    simp
    omega
  refine ⟨{ w with heap := w.heap.setIfInBounds b (.map ((L.set j (k, v, L[j].2.2)).map (ent q)).toArray c) }, ?_, ⟨L.set j (k, v, L[j].2.2), c, h.set hj (by rw [hjs]) v, fun x => ?_, by simp⟩, upd_setBlk _ h.lt'⟩
  · unfold Instr.entryStore
    simp only [Sem.run_bind, Result.andThen, run_getObj_blk h.blk]
    have : (asInt (goInt s)).run P w = .ok (s : Int) w := by simp [asInt, asIntOf, goInt, Result.andThen]
    rw [this]
    simp only
    rw [hidx]
    simp only
    rw [modify_ent hj (by rw [hjs]) _ v (by simp [ent, hjs])]
    exact run_setObj_map _ h.blk
  · rw [findI_set h.keys hj (by rw [hjs])]
end
end Go.Proofs.YtfbeaklplefojaaGreatDoor

namespace Go.Proofs.YtfbeaklplefojaaGreatDoor
open Go.RowKit

/-- How a thing lies in cells. -/
structure Enc (α : Type) where
  c : α → List Value
  s : Nat
  len : ∀ a, (c a).length = s
  one : ∀ a, ∀ u ∈ c a, u.oneCell' = true
  pos : 0 < s
def flat {α : Type} (E : Enc α) (L : List α) : List Value := L.flatMap E.c
section
variable {α : Type} {E : Enc α} {L M : List α} {a : α} {k j : Nat}
theorem flat_nil : flat E [] = [] := rfl
theorem flat_cons : flat E (a :: L) = E.c a ++ flat E L := by unfold flat; rw [List.flatMap_cons]
theorem flat_append : flat E (L ++ M) = flat E L ++ flat E M := by unfold flat; rw [List.flatMap_append]
theorem flat_one_ : flat E [a] = E.c a := by unfold flat; simp
theorem flat_len : (flat E L).length = L.length * E.s := by
  induction L with
  | nil => simp [flat]
  | cons a L ih => rw [flat_cons, List.length_append, ih, E.len, List.length_cons, Nat.add_mul]; omega
theorem flat_cells : ∀ u ∈ flat E L, u.oneCell' = true := by
  intro u hu
  obtain ⟨a, _, h⟩ := List.mem_flatMap.1 hu
  exact E.one a u h
theorem flat_get (h : L[k]? = some a) (hj : j < E.s) : (flat E L)[k * E.s + j]? = (E.c a)[j]? := by
  induction L generalizing k with
  | nil => simp at h
  | cons b L ih =>
    rw [flat_cons]
    cases k with
    | zero =>
      simp at h
      subst h
      rw [Nat.zero_mul, Nat.zero_add, List.getElem?_append_left (by rw [E.len]; exact hj)]
    | succ k =>
      rw [List.getElem?_append_right (by rw [E.len, Nat.add_mul]; omega), E.len, show (k + 1) * E.s + j - E.s = k * E.s + j by rw [Nat.add_mul]; omega]
      exact ih (by simpa using h)
theorem flat_take (k : Nat) : flat E (L.take k) = (flat E L).take (k * E.s) := by
  induction L generalizing k with
  | nil => simp [flat]
  | cons a L ih =>
    cases k with
    | zero => simp [flat]
    | succ k =>
      rw [List.take_succ_cons, flat_cons, flat_cons, ih, List.take_append, E.len, List.take_of_length_le (l := E.c a) (by rw [E.len, Nat.add_mul]; omega), show (k + 1) * E.s - E.s = k * E.s by rw [Nat.add_mul]; omega]
theorem flat_drop (k : Nat) : flat E (L.drop k) = (flat E L).drop (k * E.s) := by
  induction L generalizing k with
  | nil => simp [flat]
  | cons a L ih =>
    cases k with
    | zero => simp [flat]
    | succ k =>
      have h0 : (E.c a).drop ((k + 1) * E.s) = [] := List.drop_eq_nil_of_le (by rw [E.len, Nat.add_mul]; omega)
      rw [List.drop_succ_cons, flat_cons, ih, List.drop_append, E.len, h0, show (k + 1) * E.s - E.s = k * E.s by rw [Nat.add_mul]; omega]
      rfl
end
/-- A slice value that reads as these things. -/
def Rd {α : Type} (E : Enc α) (w : World) (v : Value) (L : List α) : Prop := Src w E.s v L.length (flat E L)
/-- A slice value that owns these things, in a block from B on. -/
def Ow {α : Type} (E : Enc α) (e : TypeId) (w : World) (B : Nat) (v : Value) (L : List α) : Prop := w.ownsRow B e E.s v L.length (flat E L)
section
variable {α : Type} {E : Enc α} {L M : List α} {a : α} {k j B : Nat} {e : TypeId} {w w' : World} {v : Value} {S : List Nat}
theorem Rd.nil (E : Enc α) (w : World) (c : Nat) : Rd E w (.slice none 0 c) [] := ⟨by simp [flat], none, c, rfl, by simp [flat]⟩
theorem Ow.nil (E : Enc α) (e : TypeId) (w : World) (B : Nat) : Ow E e w B (.slice none 0 0) [] := own_nil _ _ _ _
theorem Ow.rd (h : Ow E e w B v L) : Rd E w v L := Src.of_own h
theorem Rd.upd (h : Rd E w v L) (hu : Upd S w w') (hS : ∀ b, v.ownBlock = some b → b ∉ S) : Rd E w' v L := Src.upd h hu hS
theorem Rd.upd0 (h : Rd E w v L) (hu : Upd [] w w') : Rd E w' v L := Src.upd0 h hu
theorem Ow.upd (h : Ow E e w B v L) (hu : Upd S w w') (hS : ∀ b, v.ownBlock = some b → b ∉ S) : Ow E e w' B v L := own_upd h hu hS
theorem Ow.upd0 (h : Ow E e w B v L) (hu : Upd [] w w') : Ow E e w' B v L := own_upd0 h hu
theorem Rd.form (h : Rd E w v L) : ∃ A c, v = .slice A L.length c := by
  obtain ⟨_, A, c, e, _⟩ := h
  exact ⟨A, c, e⟩
theorem Ow.form (h : Ow E e w B v L) : ∃ A c, v = .slice A L.length c ∧ L.length ≤ c ∧ c ≤ maxLen := own_slice h
/-- The cells of the k-th one. -/
theorem Rd.at_ {A : Option Addr} {n c : Nat} (h : Rd E w (.slice A n c) L) (hk : L[k]? = some a) : ∃ ad : Addr, A = some ad ∧ ad.block < w.heap.size ∧ ∀ j u, (E.c a)[j]? = some u → w.cell? (ad.add (k * E.s + j)) = some u := by
  obtain ⟨h1, A', c', he, h2⟩ := h
  injection he with hA _ _
  subst hA
  have h0 := E.pos
  have hl := E.len a
  obtain ⟨u, hu⟩ : ∃ u, (E.c a)[0]? = some u := ⟨_, List.getElem?_eq_getElem (by omega)⟩
  obtain ⟨ad, rfl, hb, _⟩ := h2 (k * E.s + 0) u ((flat_get hk h0).trans hu)
  refine ⟨ad, rfl, hb, fun j u hj => ?_⟩
  have hjl : j < E.s := by have := (List.getElem?_eq_some_iff.1 hj).1; omega
  obtain ⟨ad', e, _, hc⟩ := h2 (k * E.s + j) u ((flat_get hk hjl).trans hj)
  cases e
  exact hc
theorem Ow.at_ {g n c : Nat} (h : Ow E e w B (.slice (some ⟨g, 0, none⟩) n c) L) (hk : L[k]? = some a) : ∀ j u, (E.c a)[j]? = some u → w.cell? ⟨g, k * E.s + j, none⟩ = some u := by
  intro j u hj
  have hjl : j < E.s := by have := (List.getElem?_eq_some_iff.1 hj).1; rw [E.len] at this; exact this
  have hn : n = L.length := by
    obtain ⟨A, c', he, _⟩ := own_slice h
    injection he
  subst hn
  exact own_cell h _ u ((flat_get hk hjl).trans hj)
theorem Rd.take {A : Option Addr} {n c : Nat} (h : Rd E w (.slice A n c) L) (k : Nat) (hk : k ≤ L.length) (c' : Nat) : Rd E w (.slice A k c') (L.take k) := by
  have hn : n = L.length := by
    obtain ⟨_, A', c2, he, _⟩ := h
    injection he
  subst hn
  unfold Rd
  rw [flat_take, List.length_take, Nat.min_eq_left hk]
  exact Src.take h k hk c'
theorem Rd.drop {A : Option Addr} {n c : Nat} (h : Rd E w (.slice A n c) L) (k : Nat) (hk : k ≤ L.length) (hc : n ≤ c) (c' : Nat) : Rd E w (.slice (if c = k then A else A.map (·.add (k * E.s))) (n - k) c') (L.drop k) := by
  have hn : n = L.length := by
    obtain ⟨_, A', c2, he, _⟩ := h
    injection he
  subst hn
  unfold Rd
  rw [flat_drop, List.length_drop]
  exact Src.drop h k hk hc c'
end

/-- From w to w' only blocks of F, and new ones, have turned; F' are of F, or new. -/
structure Frm (F F' : List Nat) (w w' : World) : Prop where
  upd : Upd F w w'
  sub : ∀ k ∈ F', k ∈ F ∨ w.heap.size ≤ k
def Disj (F G : List Nat) : Prop := ∀ k ∈ F, k ∉ G
section
variable {F F' F'' G : List Nat} {w w' w0 w1 : World} {B : Nat}
theorem Frm.refl (F : List Nat) (w : World) : Frm F F w w := ⟨.refl _ _, fun _ h => .inl h⟩
theorem Frm.trans (h : Frm F F' w w1) (h' : Frm F' F'' w1 w') : Frm F F'' w w' :=
  ⟨h.upd.trans' h'.upd h.sub, fun k hk => (h'.sub k hk).elim (h.sub k) (fun g => .inr (Nat.le_trans h.upd.size g))⟩
theorem Frm.of0 (h : Upd [] w w') : Frm F F w w' := ⟨h.mono (by simp), fun _ h => .inl h⟩
theorem Frm.pre (h0 : Upd [] w0 w) (h : Frm F F' w w') : Frm F F' w0 w' := (Frm.of0 h0).trans h
theorem Frm.post (h : Frm F F' w w') (h0 : Upd [] w' w1) : Frm F F' w w1 := h.trans (.of0 h0)
theorem Disj.symm (h : Disj F G) : Disj G F := fun k hk hf => h k hf hk
theorem Frm.disj (h : Frm F F' w w') (hd : Disj F G) (hG : ∀ k ∈ G, k < w.heap.size) : Disj F' G := fun k hk hg => (h.sub k hk).elim (fun hf => hd k hf hg) (fun hs => by have := hG k hg; omega)
theorem Frm.base (h : Frm F F' w w') (hB : ∀ k ∈ F, B ≤ k) (hw : B ≤ w.heap.size) : ∀ k ∈ F', B ≤ k := fun k hk => (h.sub k hk).elim (hB k) (fun hs => Nat.le_trans hw hs)
/-- What the call made, and turns: the rest stays. -/
theorem Frm.rest (h : Frm F F' w w') (h0 : Upd [] w0 w) (hF : ∀ k ∈ F, w0.heap.size ≤ k) : Upd [] w0 w' := h0.trans' h.upd (fun k hk => .inr (hF k hk))
theorem Upd.rest (h : Upd F w w') (h0 : Upd [] w0 w) (hF : ∀ k ∈ F, w0.heap.size ≤ k) : Upd [] w0 w' := h0.trans' h (fun k hk => .inr (hF k hk))
end
end Go.Proofs.YtfbeaklplefojaaGreatDoor

namespace Go.Proofs.YtfbeaklplefojaaGreatDoor
open Go.RowKit Go.WideShapes Go.ChangeShapes Go.Deep

section
variable {H : Type} {enc : TypeId × Value → H} {P : Program}
theorem trodAll_stays (hl : laidOutB P = true) {W W' : World} (hb : Below W.heap.size W W') {sp : Nat → Bool} :
    ∀ {ts : List TypeId} {vs : List Value} {ds : List (DataW H)} {ps : List MemPlace}, (∀ t ∈ ts, P.readableRec t = true ∧ t < P.types.size) →
      DataW.TrodAll enc P W 0 (fun _ => true) true ts vs ds ps → (∀ p ∈ ps, p.block < W.heap.size ∧ sp p.block = true) → DataW.TrodAll enc P W' 0 sp true ts vs ds ps
  | [], [], [], _, _, h, _ => h
  | _ :: _, _ :: _, _ :: _, _, ht, ⟨p, q, h1, h2, e⟩, hs =>
    ⟨p, q, WideElems.Trod_stays hl (ht _ (List.mem_cons_self ..)).1 (ht _ (List.mem_cons_self ..)).2 h1 (fun x hx => hb.same (hs x (by rw [e]; exact List.mem_append_left _ hx)).1) (fun x hx => (hs x (by rw [e]; exact List.mem_append_left _ hx)).2),
      trodAll_stays hl hb (fun t h => ht t (List.mem_cons_of_mem _ h)) h2 (fun x hx => hs x (by rw [e]; exact List.mem_append_right _ hx)), e⟩

theorem law_post {fn : Func} {s : ChangeSpec} {tb : TypeId} {W W' : World} {args : Array Value} {ds gs : List (DataW H)} {before : List MemPlace} (hl : laidOutB P = true)
    (ht : fn.params.toList.all (fun t => P.readableRec t && decide (t < P.types.size)) = true) (hv : s.vars = []) (hrt : fn.resultTypes = #[tb]) (hb : P.underlying tb = some .bool)
    (hspec : s.fn H (ds ++ []) = { results := [.lit (.bool true)], args := ds })
    (hW : DataW.Whole enc P fn.params.toList s.vars false W args.toList ds gs before) (hbel : Below W.heap.size W W') :
    s.post enc P fn false true false false W args (.bool true) W' := by
  have hW0 := hW
  have hlt := fun x hx => hW.lt (p := x) hx
  obtain ⟨p, q, hA, hV, rfl, hfz, hnd⟩ := hW
  have hg : gs = [] ∧ q = [] := by
    rw [hv] at hV
    exact trodVars_none hV
  obtain ⟨rfl, rfl⟩ := hg
  simp only [List.append_nil] at hW0 hlt
  refine ⟨ds, [], p, [], p, [], hW0, ?_, ?_, ?_, ?_, fun h => by cases h⟩
  · rw [hspec, hrt]
    exact trodAll_cons_mk (shut_bool hb true) trodAll_mk0
  · rw [hspec]
    refine trodAll_stays hl hbel (fun t h => ?_) hA (fun x hx => ⟨hlt x hx, by simpa using hlt x hx⟩)
    have := List.all_eq_true.1 ht t h
    simpa using this
  · rw [hspec, hv]
    rfl
  · exact hbel.frame _
end

section
variable {H : Type} {enc : TypeId × Value → H} {P : Program} {w : World} {base : Nat} {spare : Nat → Bool} {held : Bool}
/-- An argument that is a slice of structs whose fields are one cell each: its address, and for each element its cells, each with its own reading. -/
theorem rows_of_slice {t e : TypeId} {fs : Array Field} {v : Value} {d : DataW H} {ps : List MemPlace} {r : Reach} {b0 : Nat} (ht : P.underlying t = some (.slice e)) (he : P.underlying e = some (.struct fs))
    (hone : oneCellFields P fs = true) (hC : P.cellsOf e = fs.size) (hok : Value.okWide P w r b0 t v) (h : DataW.Trod enc P w base spare held t v d ps) :
    ∃ (A : Option Addr) (n c : Nat), v = .slice A n c ∧ n ≤ c ∧ c ≤ maxLen ∧ (∀ i, i < n → ∃ a, A = some a ∧ ∃ vs : List Value, vs.length = fs.size ∧ (∀ (j : Nat) (u : Value), vs[j]? = some u → w.cell? (a.add (i * fs.size + j)) = some u) ∧
      ∀ (j : Nat) (f : Field), fs[j]? = some f → ∃ (u : Value) (y : DataW H × List MemPlace) (k : Nat), vs[j]? = some u ∧ DataW.trod enc P w base spare held k f.type [u] = some y) := by
  obtain ⟨a0, len, cap, rfl⟩ := okWide_slice ht hok
  obtain ⟨fuel, hf⟩ := h
  rcases open_slice ht hf with ⟨h0, _⟩ | ⟨a, len', cap', m, k, D, Pl, hcs, hb, hl, hm, hmm, hx, hi⟩
  · simp only [Value.cells, List.cons.injEq, and_true] at h0
    injection h0 with h1 h2 h3
    subst h1 h2 h3
    exact ⟨_, _, _, rfl, Nat.le_refl _, by simp [maxLen], fun i hi => by omega⟩
  · simp only [Value.cells, List.cons.injEq, and_true] at hcs
    injection hcs with h1 h2 h3
    subst h1 h2 h3
    refine ⟨_, _, _, rfl, hl, hm, fun i hin => ⟨a, rfl, ?_⟩⟩
    have hin' : i < m := by rw [hmm]; split <;> omega
    obtain ⟨cs', hc, ht'⟩ := hi i hin'
    rw [hC] at hc
    obtain ⟨ys, n', _, _, hlen, hyl, hfld⟩ := DataW.trod_struct he ht'
    obtain ⟨_, hcl, hat⟩ := World.cells?_some hc
    refine ⟨cs', by omega, fun j u hu => ?_, fun j f hj => ?_⟩
    · have hjl : j < fs.size := by have := (List.getElem?_eq_some_iff.1 hu).1; omega
      rw [← Go.Deep.add_add, hat j hjl]
      exact hu
    · obtain ⟨ho, hk⟩ := hone_of hone j f hj
      have hjl : j < fs.size := (Array.getElem?_eq_some_iff.1 hj).1
      have hcj : cs'[j]? = some (cs'[j]'(by omega)) := List.getElem?_eq_getElem (by omega)
      have h1 := hfld j f hj
      rw [ho, hk, show (cs'.drop j).take 1 = [cs'[j]'(by omega)] by rw [List.drop_eq_getElem_cons (by omega)]; rfl] at h1
      have hys : ys[j]? = some (ys[j]'(by omega)) := List.getElem?_eq_getElem (by omega)
      exact ⟨_, _, _, hcj, h1.trans hys⟩
end
end Go.Proofs.YtfbeaklplefojaaGreatDoor

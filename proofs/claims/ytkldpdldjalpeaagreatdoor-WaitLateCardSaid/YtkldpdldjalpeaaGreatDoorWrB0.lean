/-
  General lemmas, no program in sight: blocks known whole, which blocks may have turned, comparing two interface values of one integer type.
  errors.Is over the program's own errors (a number, or a place that wraps a number), and the law's 'No': by contracts.
  The law's 'No': which number an error has.
  What a word's type is.
  Package words by contracts: an arena at block a, its words in block b.
  Package words by contracts: Load, Store, CAS, Words, and an arena that is none.
  Package words by contracts: accesses of an arena, however many there were.
  Slices that the call owns: what their cells hold, what a store, a reslice, a step that leaves their block alone makes of them. No program in sight.
  append onto a slice that the call owns, of whatever source; slices of slices. No program in sight.
  Maps whose keys are integers: what they hold, what a look-up, a store, a delete, an assignment's two halves make of them. No program in sight.
  Which blocks may have turned, said by a predicate. No program in sight.
  Bodies that do accesses one by one: what they want next, how a run goes through a log, what a step makes of them. No program in sight.
-/
import Derived.Below
import Derived.Laws.OwnMore
import Derived.Deep.Draws
import Derived.Laws.Rows
import Derived.LaidEql
import Derived.WalkKit
import Derived.WalkSpells
import Derived.WalkLawsBesides
import Derived.Handy
import Derived.Lib.Hide
import Derived.Test.YtkldpdldjalpeaaGreatDoorProg
import Derived.Stop.Asserts
import Derived.RowKitTokens
import Derived.OwnWalk
import Derived.Deep.AppendLies
import Derived.Maps.AppendAt
import Derived.RegionTactic
import Derived.Deep.Slices
import Derived.Deep.Fields
import Derived.MapKept
import Derived.Maps.Own
import Init
set_option linter.unusedVariables false
namespace Go.Proofs.YtkldpdldjalpeaaGreatDoor
open Go.RowKit

theorem add_head (b j : Nat) : (⟨b, 0, none⟩ : Addr).add j = ⟨b, j, none⟩ := by
  unfold Addr.add
  split
  · rename_i h; subst h; rfl
  · simp
theorem add_at (b i j : Nat) : (⟨b, i, none⟩ : Addr).add j = ⟨b, i + j, none⟩ := by
  unfold Addr.add
  split
  · rename_i h; subst h; rfl
  · simp

/-- Block g is just the cells cs of element type t, none frozen. -/
def Blk (w : World) (g : Nat) (t : TypeId) (cs : Array Value) : Prop := w.heap[g]? = some (.cells cs t (0, 0))

section
variable {w w' : World} {g : Nat} {t : TypeId} {cs : Array Value}
theorem Blk.lt (h : Blk w g t cs) : g < w.heap.size := by
  rcases Nat.lt_or_ge g w.heap.size with hlt | hge
  · exact hlt
  · unfold Blk at h; rw [Array.getElem?_eq_none hge] at h; cases h
theorem Blk.cell (h : Blk w g t cs) (i : Nat) : w.cell? ⟨g, i, none⟩ = cs[i]? := cell_of_row w g i cs t (0, 0) h
theorem Blk.frozen (h : Blk w g t cs) (i : Nat) : w.frozen? ⟨g, i, none⟩ = false := by
  unfold Blk at h
  simp [World.frozen?, h]
theorem Blk.new (w : World) (t : TypeId) (cs : Array Value) : Blk (w.alloc (.cells cs t)) w.heap.size t cs := heap_alloc_new w _
theorem Blk.drew (h : Blk w g t cs) : Blk w.drew g t cs := h
theorem Blk.drewN (h : Blk w g t cs) (n : Nat) : Blk (w.drewN n) g t cs := h
theorem Blk.alloc (h : Blk w g t cs) (o : Obj) : Blk (w.alloc o) g t cs := (Below.heap_alloc w o g h.lt).trans h
theorem Blk.set_ (h : Blk w g t cs) (i : Nat) (u : Value) : Blk (w.setCell ⟨g, i, none⟩ u) g t (cs.setIfInBounds i u) := by
  unfold Blk at h ⊢
  simp [World.setCell, Array.getElem?_modify, h]
theorem Blk.set_eq {cs' : Array Value} {i : Nat} {u : Value} (h : Blk w g t cs) (e : cs.setIfInBounds i u = cs') : Blk (w.setCell ⟨g, i, none⟩ u) g t cs' := e ▸ h.set_ i u
theorem Blk.far (h : Blk w g t cs) {p : Addr} (hp : g ≠ p.block) (u : Value) : Blk (w.setCell p u) g t cs := (Below.heap_setCell w p u g hp).trans h
theorem Blk.below {B : Nat} (h : Blk w g t cs) (hb : Below B w w') (hg : g < B) : Blk w' g t cs := (hb.block g hg).trans h
theorem Blk.grown {row : Option Nat} (h : Blk w g t cs) (hb : w.grownBy w' row) (hg : some g ≠ row) : Blk w' g t cs := (hb.block g h.lt hg).trans h
theorem Blk.ne_ {g' : Nat} {t' : TypeId} {cs' : Array Value} (h : Blk w g t cs) (h' : Blk w g' t' cs') (hne : t ≠ t') : g ≠ g' := by
  rintro rfl
  unfold Blk at h h'
  rw [h] at h'
  injection h' with h'
  injection h' with _ ht
  exact hne ht
/-- What a walk wants of a block that it loads from and stores into, with room for four new blocks behind it. -/
theorem Blk.facts (h : Blk w g t cs) : (∀ i, w.cell? ⟨g, i, none⟩ = cs[i]?) ∧ (∀ i, w.frozen? ⟨g, i, none⟩ = false) ∧ g < w.heap.size ∧ g ≤ w.heap.size ∧ g ≤ w.heap.size + 1 ∧ g ≤ w.heap.size + 1 + 1 ∧ g ≤ w.heap.size + 1 + 1 + 1 :=
  ⟨h.cell, h.frozen, h.lt, by have := h.lt; omega, by have := h.lt; omega, by have := h.lt; omega, by have := h.lt; omega⟩
end

/-- From w to w' no old block has turned but those in S; the streams are as they were; no block has gone. -/
structure Upd (S : List Nat) (w w' : World) : Prop where
  os : w'.os = w.os
  tape : w'.tape = w.tape
  output : w'.output = w.output
  size : w.heap.size ≤ w'.heap.size
  keep : ∀ k, k < w.heap.size → k ∉ S → w'.heap[k]? = w.heap[k]?

section
variable {S : List Nat} {a w w' : World}
theorem Upd.refl (S : List Nat) (w : World) : Upd S w w := ⟨rfl, rfl, rfl, Nat.le_refl _, fun _ _ _ => rfl⟩
theorem Upd.trans {b c : World} (h : Upd S a b) (k : Upd S b c) : Upd S a c :=
  ⟨k.os.trans h.os, k.tape.trans h.tape, k.output.trans h.output, Nat.le_trans h.size k.size, fun i hi hn => (k.keep i (Nat.lt_of_lt_of_le hi h.size) hn).trans (h.keep i hi hn)⟩
/-- Two steps; the second one may turn other blocks too, as long as they are new. -/
theorem Upd.trans' {T : List Nat} {b c : World} (h : Upd S a b) (k : Upd T b c) (hT : ∀ x ∈ T, x ∈ S ∨ a.heap.size ≤ x) : Upd S a c :=
  ⟨k.os.trans h.os, k.tape.trans h.tape, k.output.trans h.output, Nat.le_trans h.size k.size, fun i hi hn =>
    (k.keep i (Nat.lt_of_lt_of_le hi h.size) (fun hm => (hT i hm).elim hn (by omega))).trans (h.keep i hi hn)⟩
theorem Upd.mono {T : List Nat} (h : Upd S w w') (hT : ∀ x ∈ S, x ∈ T ∨ w.heap.size ≤ x) : Upd T w w' :=
  ⟨h.os, h.tape, h.output, h.size, fun k hk hn => h.keep k hk (fun hm => (hT k hm).elim hn (by omega))⟩
theorem Upd.drew (h : Upd S a w) : Upd S a w.drew := ⟨h.os, h.tape, h.output, h.size, h.keep⟩
theorem Upd.drewN (h : Upd S a w) (n : Nat) : Upd S a (w.drewN n) := ⟨h.os, h.tape, h.output, h.size, h.keep⟩
theorem Upd.alloc (h : Upd S a w) (o : Obj) : Upd S a (w.alloc o) :=
  ⟨h.os, h.tape, h.output, Nat.le_trans h.size (by simp), fun i hi hne => (Below.heap_alloc w o i (Nat.lt_of_lt_of_le hi h.size)).trans (h.keep i hi hne)⟩
theorem Upd.setCell (h : Upd S a w) {p : Addr} (hp : p.block ∈ S ∨ a.heap.size ≤ p.block) (u : Value) : Upd S a (w.setCell p u) :=
  ⟨h.os, h.tape, h.output, by simpa [World.setCell] using h.size, fun i hi hne => (Below.heap_setCell w p u i (by
    rintro rfl
    exact hp.elim hne (by omega))).trans (h.keep i hi hne)⟩
theorem Upd.grown {row : Option Nat} (h : Upd S a w) (hg : w.grownBy w' row) (hr : ∀ k, row = some k → k ∈ S ∨ a.heap.size ≤ k) : Upd S a w' :=
  ⟨hg.os.trans h.os, hg.tape.trans h.tape, hg.output.trans h.output, Nat.le_trans h.size hg.size, fun i hi hne =>
    (hg.block i (Nat.lt_of_lt_of_le hi h.size) (fun e => (hr i e.symm).elim hne (by omega))).trans (h.keep i hi hne)⟩
theorem Upd.of_below {B : Nat} (h : Below B w w') (hB : w.heap.size ≤ B) : Upd S w w' := ⟨h.os, h.tape, h.output, h.size, fun k hk _ => h.block k (by omega)⟩
theorem Upd.below {B : Nat} (h : Upd S w w') (hB : B ≤ w.heap.size) (hS : ∀ x ∈ S, B ≤ x) : Below B w w' :=
  ⟨h.os, h.tape, h.output, h.size, fun k hk => h.keep k (by omega) (fun hm => by have := hS k hm; omega)⟩
theorem Blk.upd {g : Nat} {t : TypeId} {cs : Array Value} (h : Blk w g t cs) (hu : Upd S w w') (hg : g ∉ S) : Blk w' g t cs := (hu.keep g h.lt hg).trans h
end

/-- A slice value of n elements (one cell each) whose elements are the head of block b. -/
def Heads (w : World) (b : Nat) (e : TypeId) (xs : List Value) : Prop := ∃ cs : Array Value, Blk w b e cs ∧ cs.toList.take xs.length = xs
theorem Heads.cell {w : World} {b : Nat} {e : TypeId} {xs : List Value} (h : Heads w b e xs) (j : Nat) (u : Value) (hj : xs[j]? = some u) : w.cell? ⟨b, j, none⟩ = some u := by
  obtain ⟨cs, hb, ht⟩ := h
  have hl : j < xs.length := (List.getElem?_eq_some_iff.1 hj).1
  rw [hb.cell, ← hj, ← ht, List.getElem?_take, if_pos hl, Array.getElem?_toList]
theorem Heads.upd {S : List Nat} {w w' : World} {b : Nat} {e : TypeId} {xs : List Value} (h : Heads w b e xs) (hu : Upd S w w') (hb : b ∉ S) : Heads w' b e xs := by
  obtain ⟨cs, h1, h2⟩ := h
  exact ⟨cs, h1.upd hu hb, h2⟩
theorem Heads.lt {w : World} {b : Nat} {e : TypeId} {xs : List Value} (h : Heads w b e xs) : b < w.heap.size := by
  obtain ⟨cs, h1, h2⟩ := h
  exact h1.lt
/-- A row that the call owns and that is not nil. -/
theorem heads_of_own {w : World} {base : Nat} {e : TypeId} {n : Nat} {v : Value} {xs : List Value} (h : w.ownsRow base e 1 v n xs) (hv : v ≠ .slice none 0 0) :
    ∃ g c, v = .slice (some ⟨g, 0, none⟩) n c ∧ n ≤ c ∧ base ≤ g ∧ Heads w g e xs ∧ xs.length = n := by
  obtain ⟨hl, h2⟩ := h
  rcases h2 with ⟨h2, _⟩ | ⟨g, cap, cur, hv', hg, hh, hn, _, _, ht⟩
  · exact absurd h2 hv
  · refine ⟨g, cap, hv', hn, hg, ⟨cur, hh, ?_⟩, by omega⟩
    rw [hl]; exact ht

section
variable {P : Program} (w : World)
theorem run_equalIn_iface_int (d : Nat) {ti tn : TypeId} {ms : Array (String × TypeId)} {i : TypeInfo} {k : IntKind} (a b : Int)
    (hi : P.underlying ti = some (.interface ms)) (hn : P.underlying tn = some (.int k)) (hinfo : P.info? tn = some i) (hcomp : i.comparable = true) :
    (Op.equalIn (d + 2) ti (.iface tn (.int k a)) (.iface tn (.int k b))).run P w = .ok (a == b) w := by
  simp [Op.equalIn, run_underlying hi, run_underlying hn, typeInfo, hinfo, hcomp]
/-- 'x == y', both interface values of ONE integer type: as the numbers are. -/
theorem run_eql_iface_int {ti tn : TypeId} {ms : Array (String × TypeId)} {i : TypeInfo} {k : IntKind} (a b : Int)
    (hi : P.underlying ti = some (.interface ms)) (hn : P.underlying tn = some (.int k)) (hinfo : P.info? tn = some i) (hcomp : i.comparable = true) :
    (binOp .eql ti (.iface tn (.int k a)) (.iface tn (.int k b))).run P w = .ok (.bool (a == b)) w := by
  simp only [binOp]
  simp [Op.equal, Op.maxDepth, run_equalIn_iface_int w 9998 a b hi hn hinfo hcomp]
end
end Go.Proofs.YtkldpdldjalpeaaGreatDoor

namespace Go.Proofs.YtkldpdldjalpeaaGreatDoor
open Go.RowKit Go.Extern.Stop Go.Stop Go.Extern

/-- The model's entry for a reflectlite type's Comparable. -/
def cmpEntry : Array Value → Sem Value := Extern.ReflectliteType.method fun t => do Extern.Rtype.noPackHeld "Comparable" t; pure (.bool (← typeInfo t).comparable)
theorem errnoTypeOf (v : Value) (w : World) : (Extern.ReflectliteType.typeOf #[.iface 65 v]).run Tryz.prog w = .ok (.iface 108 (.agg #[.pointer (some ⟨1, 65, none⟩)])) w := by kernel_rfl
theorem errnoComparable (w : World) : (cmpEntry #[.agg #[.pointer (some ⟨1, 65, none⟩)]]).run Tryz.prog w = .ok (.bool true) w := by kernel_rfl
theorem errnoComp : (Tryz.prog.info? 65).map (·.comparable) = some true := by kernel_rfl
theorem errnoNoIs (v : Value) (xT : TypeId) (w : World) : (Instr.typeAssert (.iface 65 v) xT 110 true).run Tryz.prog w = .ok (.tuple #[.nilIface, .bool false]) w := run_typeAssert_lacksB Tryz.underlying110 (by kernel_rfl) (by kernel_rfl) v xT w
theorem errnoNoUnwrap (v : Value) (xT : TypeId) (w : World) : (Instr.typeAssert (.iface 65 v) xT 113 true).run Tryz.prog w = .ok (.tuple #[.nilIface, .bool false]) w := run_typeAssert_lacksB Tryz.underlying113 (by kernel_rfl) (by kernel_rfl) v xT w
theorem errnoNoUnwraps (v : Value) (xT : TypeId) (w : World) : (Instr.typeAssert (.iface 65 v) xT 114 true).run Tryz.prog w = .ok (.tuple #[.nilIface, .bool false]) w := run_typeAssert_lacksB Tryz.underlying114 (by kernel_rfl) (by kernel_rfl) v xT w
theorem faultNoIs (v : Value) (xT : TypeId) (w : World) : (Instr.typeAssert (.iface 152 v) xT 110 true).run Tryz.prog w = .ok (.tuple #[.nilIface, .bool false]) w := run_typeAssert_lacksB Tryz.underlying110 (by kernel_rfl) (by kernel_rfl) v xT w
theorem faultHasUnwrap (v : Value) (xT : TypeId) (w : World) : (Instr.typeAssert (.iface 152 v) xT 113 true).run Tryz.prog w = .ok (.tuple #[.iface 152 v, .bool true]) w := run_typeAssert_hasB Tryz.underlying113 (by kernel_rfl) v xT w

set_option maxHeartbeats 1000000 in
/-- errors.Is of two numbers. -/
theorem is_errno (a b : Int) (w : World) :
    Calls Tryz.prog 33 #[.iface 65 (.int .i64 a), .iface 65 (.int .i64 b)] w fun e w' => e = .returned (.bool (a == b)) ∧ w = w' := by
  obtain ⟨i, hi, hcmp⟩ := Option.map_eq_some_iff.1 errnoComp
  have h8 := @run_callFunc_extern Tryz.prog 50 _ Extern.ReflectliteType.typeOf Tryz.func50 (by kernel_rfl) (by kernel_rfl) (by kernel_rfl) (by kernel_rfl)
  have h32 := @run_callFunc_extern Tryz.prog 115 _ cmpEntry Tryz.func115 (by kernel_rfl) (by kernel_rfl) (by kernel_rfl) (by kernel_rfl)
  have tT := errnoTypeOf
  have cT := errnoComparable
  have heq := run_eql_iface_int (P := Tryz.prog) w a b Tryz.underlying40 Tryz.underlying65 hi hcmp
  have n1 := errnoNoIs
  have n2 := errnoNoUnwrap
  have n3 := errnoNoUnwraps
  by_cases hab : a = b
  · subst hab
    have hb : (a == a) = true := by simp
    go_enter Tryz.func33, Tryz.ntmps33
    go_wp2
    refine wp_loop_rounds 1 ?_
    rw [rounds_succ]
    go_wp2
    go_ret
    exact ⟨by rw [hb]; rfl, rfl⟩
  · have hb : (a == b) = false := by simpa using hab
    clear hab
    go_enter Tryz.func33, Tryz.ntmps33
    go_wp2
    refine wp_loop_rounds 1 ?_
    rw [rounds_succ]
    go_wp2
    go_ret
    exact ⟨by rw [hb]; rfl, rfl⟩

set_option maxHeartbeats 1000000 in
/-- errors.Is of a place that wraps a number, and a number. -/
theorem is_fault (g : Nat) (a b : Int) (w : World) (hc : w.cell? ⟨g, 1, none⟩ = some (.int .i64 a)) :
    Calls Tryz.prog 33 #[.iface 152 (.pointer (some ⟨g, 0, none⟩)), .iface 65 (.int .i64 b)] w fun e w' => e = .returned (.bool (a == b)) ∧ w = w' := by
  obtain ⟨i, hi, hcmp⟩ := Option.map_eq_some_iff.1 errnoComp
  have h8 := @run_callFunc_extern Tryz.prog 50 _ Extern.ReflectliteType.typeOf Tryz.func50 (by kernel_rfl) (by kernel_rfl) (by kernel_rfl) (by kernel_rfl)
  have h32 := @run_callFunc_extern Tryz.prog 115 _ cmpEntry Tryz.func115 (by kernel_rfl) (by kernel_rfl) (by kernel_rfl) (by kernel_rfl)
  have tT := errnoTypeOf
  have cT := errnoComparable
  have heq := run_eql_iface_int (P := Tryz.prog) w a b Tryz.underlying40 Tryz.underlying65 hi hcmp
  have hty := run_eql_iface_types (P := Tryz.prog) 152 65 (.pointer (some ⟨g, 0, none⟩)) (.int .i64 b) Tryz.underlying40 (by decide) w
  have n1 := errnoNoIs
  have n2 := errnoNoUnwrap
  have n3 := errnoNoUnwraps
  have m1 := faultNoIs
  have m2 := faultHasUnwrap
  by_cases hab : a = b
  · subst hab
    have hb : (a == a) = true := by simp
    go_enter Tryz.func33, Tryz.ntmps33
    go_wp2
    refine wp_loop_rounds 2 ?_
    rw [rounds_succ]
    go_wp2
    rw [rounds_succ]
    go_wp2
    go_ret
    exact ⟨by rw [hb]; rfl, rfl⟩
  · have hb : (a == b) = false := by simpa using hab
    clear hab
    go_enter Tryz.func33, Tryz.ntmps33
    go_wp2
    refine wp_loop_rounds 2 ?_
    rw [rounds_succ]
    go_wp2
    rw [rounds_succ]
    go_wp2
    go_ret
    exact ⟨by rw [hb]; rfl, rfl⟩
end Go.Proofs.YtkldpdldjalpeaaGreatDoor

namespace Go.Proofs.YtkldpdldjalpeaaGreatDoor
open Go.RowKit

theorem no_nil (w : World) : Calls Tryz.prog 12 #[.nilIface] w fun e w' => e = .returned (.int .i64 0) ∧ w = w' := by
  go_enter Tryz.func12, Tryz.ntmps12
  go_wp2_with fail
  go_ret
  exact ⟨rfl, rfl⟩

set_option maxHeartbeats 400000 in
theorem no_errno (k : Int) (h1 : 1 ≤ k) (h2 : k ≤ 17) (w : World) : Calls Tryz.prog 12 #[.iface 65 (.int .i64 k)] w fun e w' => e = .returned (.int .i64 k) ∧ w = w' := by
  go_enter Tryz.func12, Tryz.ntmps12
  go_wp2_with fail
  go_loop [3] (fun n => ∃ j : Int, 1 ≤ j ∧ j ≤ k ∧ n = .int .i64 j) (fun n => (17 - intOf n).toNat)
  case atStart => exact ⟨1, by omega, by omega, rfl⟩
  case round =>
    obtain ⟨j, hj1, hj2, rfl⟩ := hrel
    by_cases hjk : j = k
    · subst hjk
      go_wp2_with ((go_at_call 33); (refine (is_errno _ _ _).mono ?_); (rintro e w' ⟨rfl, rfl⟩); (simp only [beq_self_eq_true]))
      go_ret
      exact ⟨rfl, rfl⟩
    · have hne : (k == j) = false := by simp; omega
      have hlt : j < k := by omega
      clear hjk hj2
      go_wp2_with ((go_at_call 33); (refine (is_errno _ _ _).mono ?_); (rintro e w' ⟨rfl, rfl⟩); (simp only [hne]))
      go_round
      case rel => exact ⟨j + 1, by omega, by omega, rfl⟩
      case measure => simp [intOf]; omega

set_option maxHeartbeats 400000 in
theorem no_fault (g : Nat) (k : Int) (h1 : 1 ≤ k) (h2 : k ≤ 17) (w : World) (hc : w.cell? ⟨g, 1, none⟩ = some (.int .i64 k)) : Calls Tryz.prog 12 #[.iface 152 (.pointer (some ⟨g, 0, none⟩))] w fun e w' => e = .returned (.int .i64 k) ∧ w = w' := by
  go_enter Tryz.func12, Tryz.ntmps12
  go_wp2_with fail
  go_loop [3] (fun n => ∃ j : Int, 1 ≤ j ∧ j ≤ k ∧ n = .int .i64 j) (fun n => (17 - intOf n).toNat)
  case atStart => exact ⟨1, by omega, by omega, rfl⟩
  case round =>
    obtain ⟨j, hj1, hj2, rfl⟩ := hrel
    by_cases hjk : j = k
    · subst hjk
      go_wp2_with ((go_at_call 33); (refine (is_fault _ _ _ _ hc).mono ?_); (rintro e w' ⟨rfl, rfl⟩); (simp only [beq_self_eq_true]))
      go_ret
      exact ⟨rfl, rfl⟩
    · have hne : (k == j) = false := by simp; omega
      have hlt : j < k := by omega
      clear hjk hj2
      go_wp2_with ((go_at_call 33); (refine (is_fault _ _ _ _ hc).mono ?_); (rintro e w' ⟨rfl, rfl⟩); (simp only [hne]))
      go_round
      case rel => exact ⟨j + 1, by omega, by omega, rfl⟩
      case measure => simp [intOf]; omega
end Go.Proofs.YtkldpdldjalpeaaGreatDoor

namespace Go.Proofs.YtkldpdldjalpeaaGreatDoor
open Go.RowKit

theorem u64_info : (Tryz.prog.info? 26).map (fun i => (i.zero, i.size, i.bytes)) = some (some (.int .u64 0), 1, 8) := by kernel_rfl
end Go.Proofs.YtkldpdldjalpeaaGreatDoor

namespace Go.Proofs.YtkldpdldjalpeaaGreatDoor
open Go.RowKit

/-- An arena: its struct is block a, its words are the head of block b. -/
structure Arena (w : World) (a b : Nat) (ws : List Int) (cnt : Int) : Prop where
  hdr : ∃ (c : Nat) (k at_ o nw : Int) (d : Bool), Blk w a 134 #[.slice (some ⟨b, 0, none⟩) ws.length c, .int .i64 cnt, .int .i64 k, .int .i64 at_, .int .u64 o, .int .u64 nw, .bool d]
  row : Heads w b 26 (ws.map (.int .u64))

theorem Arena.ne {w : World} {a b : Nat} {ws : List Int} {cnt : Int} (h : Arena w a b ws cnt) : a ≠ b := by
  obtain ⟨c, k, at_, o, nw, d, hb⟩ := h.hdr
  obtain ⟨cs, hr, _⟩ := h.row
  exact hb.ne_ hr (by decide)
theorem Arena.upd {w w' : World} {a b : Nat} {ws : List Int} {cnt : Int} {S : List Nat} (h : Arena w a b ws cnt) (hu : Upd S w w') (ha : a ∉ S) (hb : b ∉ S) : Arena w' a b ws cnt := by
  obtain ⟨c, k, at_, o, nw, d, h1⟩ := h.hdr
  exact ⟨⟨c, k, at_, o, nw, d, h1.upd hu ha⟩, h.row.upd hu hb⟩
theorem Arena.lt {w : World} {a b : Nat} {ws : List Int} {cnt : Int} (h : Arena w a b ws cnt) : a < w.heap.size ∧ b < w.heap.size := by
  obtain ⟨c, k, at_, o, nw, d, h1⟩ := h.hdr
  exact ⟨h1.lt, h.row.lt⟩

/-- The struct's cells behind an access. -/
def Noted (w w' : World) (a : Nat) (s : Value) (cnt : Int) : Prop := (∃ (k at_ o nw : Int) (d : Bool), Blk w' a 134 #[s, .int .i64 (cnt + 1), .int .i64 k, .int .i64 at_, .int .u64 o, .int .u64 nw, .bool d]) ∧ Upd [a] w w'

set_option maxHeartbeats 400000 in
theorem note_any (a : Nat) (s : Value) (cnt k0 at0 o0 nw0 : Int) (d0 : Bool) (k at_ o nw : Int) (d : Bool) (w : World) (hk : 1 ≤ k ∧ k ≤ 3) (hc : 0 ≤ cnt ∧ cnt ≤ 1000000)
    (hb : Blk w a 134 #[s, .int .i64 cnt, .int .i64 k0, .int .i64 at0, .int .u64 o0, .int .u64 nw0, .bool d0]) :
    Calls Tryz.prog 84 #[.pointer (some ⟨a, 0, none⟩), .agg #[.int .i64 k, .int .i64 at_, .int .u64 o, .int .u64 nw, .bool d]] w fun e w' => e = .returned (.tuple #[]) ∧ Noted w w' a s cnt := by
  have HB := hb
  have fa := hb.facts

  have hk' : k = 1 ∨ k = 2 ∨ k = 3 := by omega
  rcases hk' with rfl | rfl | rfl
  all_goals
    clear hk
    go_enter Tryz.func84, Tryz.ntmps84
    go_wp2
    go_end0
    refine ⟨rfl, ?_, ?_⟩
    · iterate 5 apply Exists.intro
      iterate 8 (first | (with_reducible exact HB) | (with_reducible apply Blk.alloc) | (with_reducible apply Blk.set_eq))
      all_goals rfl
    · repeat (first | (with_reducible exact Upd.refl _ _) | (with_reducible refine Upd.alloc ?_ _) | (with_reducible refine Upd.setCell ?_ (by simp) _))


theorem Heads.set {w : World} {b : Nat} {e : TypeId} {xs : List Value} (h : Heads w b e xs) (i : Nat) (u : Value) (hi : i < xs.length) : Heads (w.setCell ⟨b, i, none⟩ u) b e (xs.set i u) := by
  obtain ⟨cs, h1, h2⟩ := h
  refine ⟨_, h1.set_ i u, ?_⟩
  have hc : i < cs.size := by
    have := congrArg List.length h2
    simp at this
    omega
  rw [List.length_set, Array.toList_setIfInBounds, List.take_set, h2]

theorem word_nil (i : Int) (w : World) : Calls Tryz.prog 83 #[.pointer none, .int .i64 i] w fun e w' => e = .returned (.tuple #[.pointer none, .iface 65 (.int .i64 1)]) ∧ w = w' := by
  go_enter Tryz.func83, Tryz.ntmps83
  go_wp2
  go_ret2
  exact ⟨rfl, rfl⟩

set_option maxHeartbeats 400000 in
theorem word_ok (a b n c : Nat) (i : Int) (w : World) (hc : w.cell? ⟨a, 0, none⟩ = some (.slice (some ⟨b, 0, none⟩) n c)) (h0 : 0 ≤ i) (h1 : i < n) :
    Calls Tryz.prog 83 #[.pointer (some ⟨a, 0, none⟩), .int .i64 i] w fun e w' => e = .returned (.tuple #[.pointer (some ⟨b, i.toNat, none⟩), .nilIface]) ∧ w = w' := by
  have e1 := @Lib.run_eql_slice_nil Tryz.prog
  go_enter Tryz.func83, Tryz.ntmps83
  go_wp2
  go_ret2
  exact ⟨rfl, rfl⟩

/-- A place with an error's number, at a new block. -/
def IsFault (w w' : World) (v : Value) (at_ k : Int) : Prop := ∃ g, v = .iface 152 (.pointer (some ⟨g, 0, none⟩)) ∧ w.heap.size ≤ g ∧ Blk w' g 154 #[.int .i64 at_, .int .i64 k]

set_option maxHeartbeats 400000 in
theorem word_out (a b n c : Nat) (i : Int) (w : World) (hc : w.cell? ⟨a, 0, none⟩ = some (.slice (some ⟨b, 0, none⟩) n c)) (h0 : i < 0 ∨ n ≤ i) :
    Calls Tryz.prog 83 #[.pointer (some ⟨a, 0, none⟩), .int .i64 i] w fun e w' => ∃ v, e = .returned (.tuple #[.pointer none, v]) ∧ IsFault w w' v i 3 ∧ Upd [] w w' := by
  have e1 := @Lib.run_eql_slice_nil Tryz.prog
  go_enter Tryz.func83, Tryz.ntmps83
  go_wp2
  all_goals
    go_ret2
    exact ⟨_, rfl, ⟨_, rfl, Nat.le_refl _, Blk.new _ _ _⟩, (Upd.refl _ _).alloc _⟩

end Go.Proofs.YtkldpdldjalpeaaGreatDoor

namespace Go.Proofs.YtkldpdldjalpeaaGreatDoor
open Go.RowKit

theorem Arena.facts {w : World} {a b : Nat} {ws : List Int} {cnt : Int} (h : Arena w a b ws cnt) : ∃ c, w.cell? ⟨a, 0, none⟩ = some (.slice (some ⟨b, 0, none⟩) ws.length c) := by
  obtain ⟨c, k, at_, o, nw, d, h1⟩ := h.hdr
  exact ⟨c, by rw [h1.cell]; rfl⟩
theorem Arena.cellAt {w : World} {a b : Nat} {ws : List Int} {cnt : Int} (h : Arena w a b ws cnt) (j : Nat) (x : Int) (hx : ws[j]? = some x) : w.cell? ⟨b, j, none⟩ = some (.int .u64 x) :=
  h.row.cell j _ (by simp [hx])
theorem Arena.noted {w w' : World} {a b : Nat} {ws : List Int} {cnt : Int} (h : Arena w a b ws cnt) {c : Nat} (hn : Noted w w' a (.slice (some ⟨b, 0, none⟩) ws.length c) cnt) : Arena w' a b ws (cnt + 1) := by
  obtain ⟨⟨k, at_, o, nw, d, h1⟩, hu⟩ := hn
  exact ⟨⟨c, k, at_, o, nw, d, h1⟩, h.row.upd hu (by simpa using h.ne.symm)⟩

set_option maxHeartbeats 400000 in
theorem load_ok (a b : Nat) (ws : List Int) (cnt i x : Int) (w : World) (h : Arena w a b ws cnt) (hc : 0 ≤ cnt ∧ cnt ≤ 1000000) (h0 : 0 ≤ i) (hx : ws[i.toNat]? = some x) :
    Calls Tryz.prog 76 #[.pointer (some ⟨a, 0, none⟩), .int .i64 i] w fun e w' => e = .returned (.tuple #[.int .u64 x, .nilIface]) ∧ Arena w' a b ws (cnt + 1) ∧ Upd [a] w w' := by
  have hlen : i < ws.length := by have := (List.getElem?_eq_some_iff.1 hx).1; omega
  have hH := Lib.hid h
  obtain ⟨c, k, at_, o, nw, d, hb⟩ := h.hdr
  have f0 : w.cell? ⟨a, 0, none⟩ = some (.slice (some ⟨b, 0, none⟩) ws.length c) := by rw [hb.cell]; rfl
  have fx := h.cellAt _ _ hx
  have HX := Lib.hid hx
  clear h hx
  go_enter Tryz.func76, Tryz.ntmps76
  go_wp2_with (first
    | ((go_at_call 83); (refine (word_ok a b ws.length c i _ f0 h0 hlen).mono ?_); (rintro e w' ⟨rfl, rfl⟩))
    | ((go_at_call 84); (refine (note_any a _ cnt _ _ _ _ _ _ _ _ _ _ _ (by omega) hc hb).mono ?_); (rintro e w1 ⟨rfl, hn⟩); (have fx1 := (hH.out.noted hn).cellAt _ _ HX.out)))
  go_ret2
  exact ⟨rfl, hH.out.noted hn, hn.2⟩

theorem Heads.frozen {w : World} {b : Nat} {e : TypeId} {xs : List Value} (h : Heads w b e xs) (j : Nat) : w.frozen? ⟨b, j, none⟩ = false := by
  obtain ⟨cs, h1, _⟩ := h
  exact h1.frozen j

set_option maxHeartbeats 400000 in
theorem load_nil (i : Int) (w : World) : Calls Tryz.prog 76 #[.pointer none, .int .i64 i] w fun e w' => e = .returned (.tuple #[.int .u64 0, .iface 65 (.int .i64 1)]) ∧ w = w' := by
  go_enter Tryz.func76, Tryz.ntmps76
  go_wp2_with ((go_at_call 83); (refine (word_nil i _).mono ?_); (rintro e w' ⟨rfl, rfl⟩))
  go_ret2
  exact ⟨rfl, rfl⟩

set_option maxHeartbeats 400000 in
theorem load_out (a b : Nat) (ws : List Int) (cnt i : Int) (w : World) (h : Arena w a b ws cnt) (h0 : i < 0 ∨ ws.length ≤ i) :
    Calls Tryz.prog 76 #[.pointer (some ⟨a, 0, none⟩), .int .i64 i] w fun e w' => ∃ v, e = .returned (.tuple #[.int .u64 0, v]) ∧ IsFault w w' v i 3 ∧ Upd [] w w' := by
  obtain ⟨c, f0⟩ := h.facts
  go_enter Tryz.func76, Tryz.ntmps76
  go_wp2_with ((go_at_call 83); (refine (word_out a b ws.length c i _ f0 h0).mono ?_); (rintro e w1 ⟨v, rfl, ⟨g, rfl, hg, hb⟩, hu⟩))
  go_ret2
  exact ⟨_, rfl, ⟨g, rfl, hg, hb⟩, hu⟩

set_option maxHeartbeats 400000 in
theorem store_nil (i : Int) (x : Int) (w : World) : Calls Tryz.prog 72 #[.pointer none, .int .i64 i, .int .u64 x] w fun e w' => e = .returned (.iface 65 (.int .i64 1)) ∧ w = w' := by
  go_enter Tryz.func72, Tryz.ntmps72
  go_wp2_with ((go_at_call 83); (refine (word_nil i _).mono ?_); (rintro e w' ⟨rfl, rfl⟩))
  go_ret
  exact ⟨rfl, rfl⟩

set_option maxHeartbeats 400000 in
theorem store_out (a b : Nat) (ws : List Int) (cnt i : Int) (x : Int) (w : World) (h : Arena w a b ws cnt) (h0 : i < 0 ∨ ws.length ≤ i) :
    Calls Tryz.prog 72 #[.pointer (some ⟨a, 0, none⟩), .int .i64 i, .int .u64 x] w fun e w' => ∃ v, e = .returned (v) ∧ IsFault w w' v i 3 ∧ Upd [] w w' := by
  obtain ⟨c, f0⟩ := h.facts
  go_enter Tryz.func72, Tryz.ntmps72
  go_wp2_with ((go_at_call 83); (refine (word_out a b ws.length c i _ f0 h0).mono ?_); (rintro e w1 ⟨v, rfl, ⟨g, rfl, hg, hb⟩, hu⟩))
  go_ret
  exact ⟨_, rfl, ⟨g, rfl, hg, hb⟩, hu⟩

set_option maxHeartbeats 400000 in
theorem cas_nil (i : Int) (old x : Int) (w : World) : Calls Tryz.prog 77 #[.pointer none, .int .i64 i, .int .u64 old, .int .u64 x] w fun e w' => e = .returned (.tuple #[.bool false, .iface 65 (.int .i64 1)]) ∧ w = w' := by
  go_enter Tryz.func77, Tryz.ntmps77
  go_wp2_with ((go_at_call 83); (refine (word_nil i _).mono ?_); (rintro e w' ⟨rfl, rfl⟩))
  go_ret2
  exact ⟨rfl, rfl⟩

set_option maxHeartbeats 400000 in
theorem cas_out (a b : Nat) (ws : List Int) (cnt i : Int) (old x : Int) (w : World) (h : Arena w a b ws cnt) (h0 : i < 0 ∨ ws.length ≤ i) :
    Calls Tryz.prog 77 #[.pointer (some ⟨a, 0, none⟩), .int .i64 i, .int .u64 old, .int .u64 x] w fun e w' => ∃ v, e = .returned (.tuple #[.bool false, v]) ∧ IsFault w w' v i 3 ∧ Upd [] w w' := by
  obtain ⟨c, f0⟩ := h.facts
  go_enter Tryz.func77, Tryz.ntmps77
  go_wp2_with ((go_at_call 83); (refine (word_out a b ws.length c i _ f0 h0).mono ?_); (rintro e w1 ⟨v, rfl, ⟨g, rfl, hg, hb⟩, hu⟩))
  go_ret2
  exact ⟨_, rfl, ⟨g, rfl, hg, hb⟩, hu⟩

theorem Arena.noted' {w1 w' : World} {a b : Nat} {ws ws' : List Int} {cnt : Int} (h : Heads w1 b 26 (ws'.map (.int .u64))) {c : Nat} (hl : ws'.length = ws.length) (hne : a ≠ b) (hn : Noted w1 w' a (.slice (some ⟨b, 0, none⟩) ws.length c) cnt) : Arena w' a b ws' (cnt + 1) := by
  obtain ⟨⟨k, at_, o, nw, d, h1⟩, hu⟩ := hn
  exact ⟨⟨c, k, at_, o, nw, d, by rw [hl]; exact h1⟩, h.upd hu (by simpa using hne.symm)⟩
theorem Arena.stored {w : World} {a b : Nat} {ws : List Int} {cnt : Int} (h : Arena w a b ws cnt) (i : Nat) (x : Int) (hi : i < ws.length) : Arena (w.setCell ⟨b, i, none⟩ (.int .u64 x)) a b (ws.set i x) cnt := by
  obtain ⟨c, k, at_, o, nw, d, h1⟩ := h.hdr
  exact ⟨⟨c, k, at_, o, nw, d, by rw [List.length_set]; exact h1.far h.ne _⟩, by rw [List.map_set]; exact h.row.set i _ (by simpa using hi)⟩

set_option maxHeartbeats 400000 in
theorem store_ok (a b : Nat) (ws : List Int) (cnt i x y : Int) (w : World) (h : Arena w a b ws cnt) (hc : 0 ≤ cnt ∧ cnt ≤ 1000000) (h0 : 0 ≤ i) (hx : ws[i.toNat]? = some y) :
    Calls Tryz.prog 72 #[.pointer (some ⟨a, 0, none⟩), .int .i64 i, .int .u64 x] w fun e w' => e = .returned .nilIface ∧ Arena w' a b (ws.set i.toNat x) (cnt + 1) ∧ Upd [a, b] w w' := by
  have hlen : i < ws.length := by have := (List.getElem?_eq_some_iff.1 hx).1; omega
  have hH := Lib.hid h
  obtain ⟨c, k, at_, o, nw, d, hb⟩ := h.hdr
  have f0 : w.cell? ⟨a, 0, none⟩ = some (.slice (some ⟨b, 0, none⟩) ws.length c) := by rw [hb.cell]; rfl
  have fx := h.cellAt _ _ hx
  have HX := Lib.hid hx
  clear h hx
  go_enter Tryz.func72, Tryz.ntmps72
  go_wp2_with (first
    | ((go_at_call 83); (refine (word_ok a b ws.length c i _ f0 h0 hlen).mono ?_); (rintro e w' ⟨rfl, rfl⟩))
    | ((go_at_call 84); (refine (note_any a _ cnt _ _ _ _ _ _ _ _ _ _ _ (by omega) hc hb).mono ?_); (rintro e w1 ⟨rfl, hn⟩); (have hA := hH.out.noted hn); (have fb := hA.row.frozen); (have fx1 := hA.cellAt _ _ HX.out)))
  go_ret
  exact ⟨rfl, hA.stored _ _ (by omega), (hn.2.mono (by simp)).setCell (by simp) _⟩

set_option maxHeartbeats 800000 in
theorem cas_ok (a b : Nat) (ws : List Int) (cnt i old x y : Int) (w : World) (h : Arena w a b ws cnt) (hc : 0 ≤ cnt ∧ cnt ≤ 1000000) (h0 : 0 ≤ i) (hx : ws[i.toNat]? = some y) :
    Calls Tryz.prog 77 #[.pointer (some ⟨a, 0, none⟩), .int .i64 i, .int .u64 old, .int .u64 x] w fun e w' => e = .returned (.tuple #[.bool (y == old), .nilIface]) ∧ Arena w' a b (if y = old then ws.set i.toNat x else ws) (cnt + 1) ∧ Upd [a, b] w w' := by
  have hlen : i < ws.length := by have := (List.getElem?_eq_some_iff.1 hx).1; omega
  have hH := Lib.hid h
  have hne := h.ne
  obtain ⟨c, k, at_, o, nw, d, hb⟩ := h.hdr
  have f0 : w.cell? ⟨a, 0, none⟩ = some (.slice (some ⟨b, 0, none⟩) ws.length c) := by rw [hb.cell]; rfl
  have fx := h.cellAt _ _ hx
  have fb := h.row.frozen
  by_cases hyo : y = old
  · subst hyo
    have hyy : (y == y) = true := by simp
    have hS := (h.stored i.toNat x (by omega)).row
    have HX := Lib.hid (show (ws.set i.toNat x)[i.toNat]? = some x by rw [List.getElem?_set]; simp; omega)
    have fx' := (h.stored i.toNat x (by omega)).cellAt _ _ HX.out
    have hb' := hb.far (p := ⟨b, i.toNat, none⟩) hne (.int .u64 x)
    have HS := Lib.hid hS
    clear h hx hS
    go_enter Tryz.func77, Tryz.ntmps77
    go_wp2_with (first
      | ((go_at_call 83); (refine (word_ok a b ws.length c i _ f0 h0 hlen).mono ?_); (rintro e w' ⟨rfl, rfl⟩))
      | ((go_at_call 84); (refine (note_any a _ cnt _ _ _ _ _ _ _ _ _ _ _ (by omega) hc hb').mono ?_); (rintro e w1 ⟨rfl, hn⟩)))
    go_ret2
    exact ⟨rfl, Arena.noted' HS.out (by simp) hne hn, ((Upd.refl _ _).setCell (by simp) _).trans (hn.2.mono (by simp))⟩
  · have hyy : (y == old) = false := by simpa using hyo
    have HY := Lib.hid hyo
    clear h hx hyo
    go_enter Tryz.func77, Tryz.ntmps77
    go_wp2_with (first
      | ((go_at_call 83); (refine (word_ok a b ws.length c i _ f0 h0 hlen).mono ?_); (rintro e w' ⟨rfl, rfl⟩))
      | ((go_at_call 84); (refine (note_any a _ cnt _ _ _ _ _ _ _ _ _ _ _ (by omega) hc hb).mono ?_); (rintro e w1 ⟨rfl, hn⟩)))
    go_ret2
    refine ⟨rfl, ?_, hn.2.mono (by simp)⟩
    exact hH.out.noted hn
end Go.Proofs.YtkldpdldjalpeaaGreatDoor

namespace Go.Proofs.YtkldpdldjalpeaaGreatDoor
open Go.RowKit

def Ar (w : World) (a b : Nat) (ws : List Int) : Prop := ∃ cnt, Arena w a b ws cnt
theorem Ar.upd {w w' : World} {a b : Nat} {ws : List Int} {S : List Nat} (h : Ar w a b ws) (hu : Upd S w w') (ha : a ∉ S) (hb : b ∉ S) : Ar w' a b ws := by
  obtain ⟨c, h⟩ := h
  exact ⟨c, h.upd hu ha hb⟩
theorem Ar.ne {w : World} {a b : Nat} {ws : List Int} (h : Ar w a b ws) : a ≠ b := by
  obtain ⟨c, h⟩ := h
  exact h.ne
theorem Ar.lt {w : World} {a b : Nat} {ws : List Int} (h : Ar w a b ws) : a < w.heap.size ∧ b < w.heap.size := by
  obtain ⟨c, h⟩ := h
  exact h.lt
def NotedX (w w' : World) (a : Nat) (s : Value) : Prop := (∃ (cnt k at_ o nw : Int) (d : Bool), Blk w' a 134 #[s, .int .i64 cnt, .int .i64 k, .int .i64 at_, .int .u64 o, .int .u64 nw, .bool d]) ∧ Upd [a] w w'

set_option maxHeartbeats 400000 in
theorem note_x (a : Nat) (s : Value) (cnt k0 at0 o0 nw0 : Int) (d0 : Bool) (k at_ o nw : Int) (d : Bool) (w : World) (hk : 1 ≤ k ∧ k ≤ 3)
    (hb : Blk w a 134 #[s, .int .i64 cnt, .int .i64 k0, .int .i64 at0, .int .u64 o0, .int .u64 nw0, .bool d0]) :
    Calls Tryz.prog 84 #[.pointer (some ⟨a, 0, none⟩), .agg #[.int .i64 k, .int .i64 at_, .int .u64 o, .int .u64 nw, .bool d]] w fun e w' => e = .returned (.tuple #[]) ∧ NotedX w w' a s := by
  have HB := hb
  have fa := hb.facts
  have hk' : k = 1 ∨ k = 2 ∨ k = 3 := by omega
  rcases hk' with rfl | rfl | rfl
  all_goals
    clear hk
    go_enter Tryz.func84, Tryz.ntmps84
    go_wp2
    go_end0
    refine ⟨rfl, ?_, ?_⟩
    · iterate 6 apply Exists.intro
      iterate 8 (first | (with_reducible exact HB) | (with_reducible apply Blk.alloc) | (with_reducible apply Blk.set_eq))
      all_goals rfl
    · repeat (first | (with_reducible exact Upd.refl _ _) | (with_reducible refine Upd.alloc ?_ _) | (with_reducible refine Upd.setCell ?_ (by simp) _))

theorem Arena.notedX {w w' : World} {a b : Nat} {ws : List Int} {cnt : Int} (h : Arena w a b ws cnt) {c : Nat} (hn : NotedX w w' a (.slice (some ⟨b, 0, none⟩) ws.length c)) : Ar w' a b ws := by
  obtain ⟨⟨ct, k, at_, o, nw, d, h1⟩, hu⟩ := hn
  exact ⟨ct, ⟨c, k, at_, o, nw, d, h1⟩, h.row.upd hu (by simpa using h.ne.symm)⟩
theorem Arena.notedX' {w1 w' : World} {a b : Nat} {ws ws' : List Int} (h : Heads w1 b 26 (ws'.map (.int .u64))) {c : Nat} (hl : ws'.length = ws.length) (hne : a ≠ b) (hn : NotedX w1 w' a (.slice (some ⟨b, 0, none⟩) ws.length c)) : Ar w' a b ws' := by
  obtain ⟨⟨ct, k, at_, o, nw, d, h1⟩, hu⟩ := hn
  exact ⟨ct, ⟨c, k, at_, o, nw, d, by rw [hl]; exact h1⟩, h.upd hu (by simpa using hne.symm)⟩

set_option maxHeartbeats 400000 in
theorem load_x (a b : Nat) (ws : List Int) (i x : Int) (w : World) (h : Ar w a b ws) (h0 : 0 ≤ i) (hx : ws[i.toNat]? = some x) :
    Calls Tryz.prog 76 #[.pointer (some ⟨a, 0, none⟩), .int .i64 i] w fun e w' => e = .returned (.tuple #[.int .u64 x, .nilIface]) ∧ Ar w' a b ws ∧ Upd [a] w w' := by
  have hlen : i < ws.length := by have := (List.getElem?_eq_some_iff.1 hx).1; omega
  obtain ⟨cnt, h⟩ := h
  have hH := Lib.hid h
  obtain ⟨c, k, at_, o, nw, d, hb⟩ := h.hdr
  have f0 : w.cell? ⟨a, 0, none⟩ = some (.slice (some ⟨b, 0, none⟩) ws.length c) := by rw [hb.cell]; rfl
  have fx := h.cellAt _ _ hx
  have HX := Lib.hid hx
  clear h hx
  go_enter Tryz.func76, Tryz.ntmps76
  go_wp2_with (first
    | ((go_at_call 83); (refine (word_ok a b ws.length c i _ f0 h0 hlen).mono ?_); (rintro e w' ⟨rfl, rfl⟩))
    | ((go_at_call 84); (refine (note_x a _ cnt _ _ _ _ _ _ _ _ _ _ _ (by omega) hb).mono ?_); (rintro e w1 ⟨rfl, hn⟩); (have hA := hH.out.notedX hn); (have fx1 := hA.choose_spec.cellAt _ _ HX.out)))
  go_ret2
  exact ⟨rfl, hH.out.notedX hn, hn.2⟩

set_option maxHeartbeats 400000 in
theorem store_x (a b : Nat) (ws : List Int) (i x y : Int) (w : World) (h : Ar w a b ws) (h0 : 0 ≤ i) (hx : ws[i.toNat]? = some y) :
    Calls Tryz.prog 72 #[.pointer (some ⟨a, 0, none⟩), .int .i64 i, .int .u64 x] w fun e w' => e = .returned .nilIface ∧ Ar w' a b (ws.set i.toNat x) ∧ Upd [a, b] w w' := by
  have hlen : i < ws.length := by have := (List.getElem?_eq_some_iff.1 hx).1; omega
  obtain ⟨cnt, h⟩ := h
  have hH := Lib.hid h
  obtain ⟨c, k, at_, o, nw, d, hb⟩ := h.hdr
  have f0 : w.cell? ⟨a, 0, none⟩ = some (.slice (some ⟨b, 0, none⟩) ws.length c) := by rw [hb.cell]; rfl
  have fx := h.cellAt _ _ hx
  have HX := Lib.hid hx
  clear h hx
  go_enter Tryz.func72, Tryz.ntmps72
  go_wp2_with (first
    | ((go_at_call 83); (refine (word_ok a b ws.length c i _ f0 h0 hlen).mono ?_); (rintro e w' ⟨rfl, rfl⟩))
    | ((go_at_call 84); (refine (note_x a _ cnt _ _ _ _ _ _ _ _ _ _ _ (by omega) hb).mono ?_); (rintro e w1 ⟨rfl, hn⟩); (obtain ⟨cnt1, hA⟩ := hH.out.notedX hn); (have fb := hA.row.frozen); (have fx1 := hA.cellAt _ _ HX.out)))
  go_ret
  exact ⟨rfl, ⟨_, hA.stored _ _ (by omega)⟩, (hn.2.mono (by simp)).setCell (by simp) _⟩

set_option maxHeartbeats 800000 in
theorem cas_x (a b : Nat) (ws : List Int) (i old x y : Int) (w : World) (h : Ar w a b ws) (h0 : 0 ≤ i) (hx : ws[i.toNat]? = some y) :
    Calls Tryz.prog 77 #[.pointer (some ⟨a, 0, none⟩), .int .i64 i, .int .u64 old, .int .u64 x] w fun e w' => e = .returned (.tuple #[.bool (y == old), .nilIface]) ∧ Ar w' a b (if y = old then ws.set i.toNat x else ws) ∧ Upd [a, b] w w' := by
  have hlen : i < ws.length := by have := (List.getElem?_eq_some_iff.1 hx).1; omega
  obtain ⟨cnt, h⟩ := h
  have hH := Lib.hid h
  have hne := h.ne
  obtain ⟨c, k, at_, o, nw, d, hb⟩ := h.hdr
  have f0 : w.cell? ⟨a, 0, none⟩ = some (.slice (some ⟨b, 0, none⟩) ws.length c) := by rw [hb.cell]; rfl
  have fx := h.cellAt _ _ hx
  have fb := h.row.frozen
  by_cases hyo : y = old
  · subst hyo
    have hyy : (y == y) = true := by simp
    have hS := (h.stored i.toNat x (by omega)).row
    have HX := Lib.hid (show (ws.set i.toNat x)[i.toNat]? = some x by rw [List.getElem?_set]; simp; omega)
    have fx' := (h.stored i.toNat x (by omega)).cellAt _ _ HX.out
    have hb' := hb.far (p := ⟨b, i.toNat, none⟩) hne (.int .u64 x)
    have HS := Lib.hid hS
    clear h hx hS
    go_enter Tryz.func77, Tryz.ntmps77
    go_wp2_with (first
      | ((go_at_call 83); (refine (word_ok a b ws.length c i _ f0 h0 hlen).mono ?_); (rintro e w' ⟨rfl, rfl⟩))
      | ((go_at_call 84); (refine (note_x a _ cnt _ _ _ _ _ _ _ _ _ _ _ (by omega) hb').mono ?_); (rintro e w1 ⟨rfl, hn⟩)))
    go_ret2
    refine ⟨rfl, ?_, ((Upd.refl _ _).setCell (by simp) _).trans (hn.2.mono (by simp))⟩
    exact Arena.notedX' HS.out (by simp) hne hn
  · have hyy : (y == old) = false := by simpa using hyo
    have HY := Lib.hid hyo
    clear h hx hyo
    go_enter Tryz.func77, Tryz.ntmps77
    go_wp2_with (first
      | ((go_at_call 83); (refine (word_ok a b ws.length c i _ f0 h0 hlen).mono ?_); (rintro e w' ⟨rfl, rfl⟩))
      | ((go_at_call 84); (refine (note_x a _ cnt _ _ _ _ _ _ _ _ _ _ _ (by omega) hb).mono ?_); (rintro e w1 ⟨rfl, hn⟩)))
    go_ret2
    refine ⟨rfl, ?_, hn.2.mono (by simp)⟩
    exact hH.out.notedX hn
end Go.Proofs.YtkldpdldjalpeaaGreatDoor

namespace Go.Proofs.YtkldpdldjalpeaaGreatDoor
open Go.RowKit

section
variable {w w' : World} {B s n cap g : Nat} {e : TypeId} {v : Value} {xs : List Value} {S : List Nat}

theorem own_upd_of_grown {v : Value} (h : w.grownBy w' v.ownBlock) : Upd v.ownBlock.toList w w' :=
  (Upd.refl _ w).grown h fun k hk => .inl (by rw [hk]; simp)
theorem own_form (h : w.ownsRow B e s v n xs) (hn : 0 < n) :
    ∃ g cap cur, v = .slice (some ⟨g, 0, none⟩) n cap ∧ B ≤ g ∧ Blk w g e cur ∧ n ≤ cap ∧ cap ≤ maxLen ∧ cur.size = cap * s ∧ cur.toList.take (n * s) = xs := by
  obtain ⟨_, h2⟩ := h
  rcases h2 with ⟨_, h2⟩ | ⟨g, cap, cur, h1, h2, h3, h4, h5, h6, h7⟩
  · omega
  · exact ⟨g, cap, cur, h1, h2, h3, h4, h5, h6, h7⟩
theorem own_open (h : w.ownsRow B e s (.slice (some ⟨g, 0, none⟩) n cap) n xs) :
    ∃ cur, B ≤ g ∧ Blk w g e cur ∧ n ≤ cap ∧ cap ≤ maxLen ∧ cur.size = cap * s ∧ cur.toList.take (n * s) = xs := by
  obtain ⟨_, h2⟩ := h
  rcases h2 with ⟨h2, _⟩ | ⟨g', cap', cur, h1, h2, h3, h4, h5, h6, h7⟩
  · cases h2
  · injection h1 with h1 _ h1'
    injection h1 with h1
    injection h1 with h1
    subst h1 h1'
    exact ⟨cur, h2, h3, h4, h5, h6, h7⟩
theorem own_len (h : w.ownsRow B e s v n xs) : xs.length = n * s := h.1
theorem own_cell (h : w.ownsRow B e s (.slice (some ⟨g, 0, none⟩) n cap) n xs) (j : Nat) (u : Value) (hj : xs[j]? = some u) : w.cell? ⟨g, j, none⟩ = some u := by
  obtain ⟨cur, _, hb, _, _, _, ht⟩ := own_open h
  have hl : j < n * s := by have := (List.getElem?_eq_some_iff.1 hj).1; rw [h.1] at this; exact this
  rw [hb.cell, ← hj, ← ht, List.getElem?_take, if_pos hl, Array.getElem?_toList]
theorem own_frozen (h : w.ownsRow B e s (.slice (some ⟨g, 0, none⟩) n cap) n xs) (j : Nat) : w.frozen? ⟨g, j, none⟩ = false := by
  obtain ⟨cur, _, hb, _⟩ := own_open h
  exact hb.frozen j
theorem own_lt (h : w.ownsRow B e s v n xs) {b : Nat} (hb : v.ownBlock = some b) : B ≤ b ∧ b < w.heap.size := by
  obtain ⟨_, h2⟩ := h
  rcases h2 with ⟨h2, _⟩ | ⟨g', cap', cur, h1, h2, h3, h4, h5, h6, h7⟩
  · subst h2; simp [Value.ownBlock] at hb
  · subst h1
    simp only [Value.ownBlock, Option.some.injEq] at hb
    subst hb
    exact ⟨h2, Blk.lt h3⟩
theorem own_type (h : w.ownsRow B e s v n xs) {b : Nat} {t : TypeId} {cs : Array Value} (hb : Blk w b t cs) (hne : t ≠ e) : v.ownBlock ≠ some b := by
  intro hv
  obtain ⟨_, h2⟩ := h
  rcases h2 with ⟨h2, _⟩ | ⟨g', cap', cur, h1, h2, h3, h4, h5, h6, h7⟩
  · subst h2; simp [Value.ownBlock] at hv
  · subst h1
    simp only [Value.ownBlock, Option.some.injEq] at hv
    subst hv
    exact (Blk.ne_ hb h3 hne) rfl
theorem own_upd (h : w.ownsRow B e s v n xs) (hu : Upd S w w') (hne : ∀ b, v.ownBlock = some b → b ∉ S) : w'.ownsRow B e s v n xs := by
  obtain ⟨h1, h2⟩ := h
  refine ⟨h1, ?_⟩
  rcases h2 with h2 | ⟨g, cap, cur, rfl, h2, h3, h4, h5, h6, h7⟩
  · exact .inl h2
  · exact .inr ⟨g, cap, cur, rfl, h2, Blk.upd h3 hu (hne g rfl), h4, h5, h6, h7⟩
theorem own_upd0 (h : w.ownsRow B e s v n xs) (hu : Upd [] w w') : w'.ownsRow B e s v n xs := own_upd h hu fun _ _ => by simp
theorem own_set (h : w.ownsRow B e s (.slice (some ⟨g, 0, none⟩) n cap) n xs) (j : Nat) (u : Value) :
    (w.setCell ⟨g, j, none⟩ u).ownsRow B e s (.slice (some ⟨g, 0, none⟩) n cap) n (xs.set j u) := by
  obtain ⟨cur, h2, h3, h4, h5, h6, h7⟩ := own_open h
  refine ⟨by rw [List.length_set, h.1], .inr ⟨g, cap, _, rfl, h2, h3.set_ j u, h4, h5, by simpa using h6, ?_⟩⟩
  rw [← h7, Array.toList_setIfInBounds, List.take_set]
theorem own_take (h : w.ownsRow B e s (.slice (some ⟨g, 0, none⟩) n cap) n xs) (m : Nat) (hm : m ≤ n) :
    w.ownsRow B e s (.slice (some ⟨g, 0, none⟩) m cap) m (xs.take (m * s)) := by
  obtain ⟨cur, h2, h3, h4, h5, h6, h7⟩ := own_open h
  have hms : m * s ≤ n * s := Nat.mul_le_mul_right s hm
  refine ⟨by rw [List.length_take, h.1]; omega, .inr ⟨g, cap, _, rfl, h2, h3, by omega, h5, h6, ?_⟩⟩
  rw [← h7, List.take_take, Nat.min_eq_left hms]
theorem own_nil (w : World) (B : Nat) (e : TypeId) (s : Nat) : w.ownsRow B e s (.slice none 0 0) 0 [] := ⟨by simp, .inl ⟨rfl, rfl⟩⟩
theorem own_base {B' : Nat} (h : w.ownsRow B e s v n xs) (hb : B' ≤ B) : w.ownsRow B' e s v n xs := by
  obtain ⟨h1, h2⟩ := h
  refine ⟨h1, ?_⟩
  rcases h2 with h2 | ⟨g, cap, cur, rfl, h2, h3⟩
  · exact .inl h2
  · exact .inr ⟨g, cap, cur, rfl, by omega, h3⟩
/-- The cells of an element that lies in a block of its own, as append's law asks for them. -/
theorem news_of_blk {q : Nat} {cs : Array Value} (h : Blk w q e cs) : ∀ j u, cs.toList[j]? = some u → w.cell? ((⟨q, 0, none⟩ : Addr).add j) = some u := fun j u hu => by
  rw [add_head, h.cell, ← Array.getElem?_toList]; exact hu
end
end Go.Proofs.YtkldpdldjalpeaaGreatDoor

namespace Go.Proofs.YtkldpdldjalpeaaGreatDoor
open Go.RowKit

/-- What append asks of the element's type: its number, its cells, its bytes. -/
structure Elem (P : Program) (t e : TypeId) (s bytes : Nat) : Prop where
  und : P.underlying t = some (.slice e)
  info : ∃ i z, P.info? e = some i ∧ i.zero = some z ∧ i.size = s ∧ i.bytes = bytes ∧ z.cells.size = s
  pos : 0 < s
theorem Elem.mk' {P : Program} {t e : TypeId} {s bytes : Nat} {z : Value} (und : P.underlying t = some (.slice e)) (info : (P.info? e).map (fun i => (i.zero, i.size, i.bytes)) = some (some z, s, bytes)) (hz : z.cells.size = s) (pos : 0 < s) : Elem P t e s bytes := by
  obtain ⟨i, h1, h2, h3, h4⟩ := info_parts info
  exact ⟨und, ⟨i, z, h1, h2, h3, h4, hz⟩, pos⟩

/-- A slice value that reads as these cells. -/
def Src (w : World) (s : Nat) (x : Value) (m : Nat) (news : List Value) : Prop :=
  news.length = m * s ∧ ∃ A c, x = .slice A m c ∧ ∀ j u, news[j]? = some u → ∃ ad : Addr, A = some ad ∧ ad.block < w.heap.size ∧ w.cell? (ad.add j) = some u
theorem add_more (a : Addr) (i j : Nat) : a.add (i + (j + 1)) = ⟨(a.add i).block, (a.add i).off + (j + 1), none⟩ := by
  unfold Addr.add
  by_cases h : i = 0
  · subst h; simp
  · simp [h]; omega
theorem block_add (a : Addr) (n : Nat) : (a.add n).block = a.block := by unfold Addr.add; split <;> rfl

section
variable {w w' : World} {B s n m cap g : Nat} {e : TypeId} {v x : Value} {xs news : List Value}
theorem Src.upd {S : List Nat} (h : Src w s x m news) (hu : Upd S w w') (hS : ∀ b, x.ownBlock = some b → b ∉ S) : Src w' s x m news := by
  obtain ⟨h1, A, c, rfl, h2⟩ := h
  refine ⟨h1, A, c, rfl, fun j u hj => ?_⟩
  obtain ⟨ad, rfl, hl, hc⟩ := h2 j u hj
  refine ⟨ad, rfl, Nat.lt_of_lt_of_le hl hu.size, (World.cell?_of_block ?_).trans hc⟩
  exact hu.keep _ (by rw [block_add]; exact hl) (by rw [block_add]; exact hS _ rfl)
theorem Src.upd0 (h : Src w s x m news) (hu : Upd [] w w') : Src w' s x m news := h.upd hu (by simp)
theorem Src.of_own (h : w.ownsRow B e s v n xs) : Src w s v n xs := by
  refine ⟨h.1, ?_⟩
  rcases h.2 with ⟨rfl, rfl⟩ | ⟨g, cap, cur, rfl, _, hb, _, _, _, _⟩
  · have : xs = [] := List.eq_nil_of_length_eq_zero (by simpa using h.1)
    subst this
    exact ⟨none, 0, rfl, by simp⟩
  · exact ⟨_, cap, rfl, fun j u hj => ⟨_, rfl, Blk.lt hb, by rw [add_head]; exact own_cell h j u hj⟩⟩
theorem Src.of_blk {q : Nat} {cs : Array Value} {t : TypeId} (h : Blk w q t cs) (c : Nat) (hl : cs.size = m * s) : Src w s (.slice (some ⟨q, 0, none⟩) m c) m cs.toList :=
  ⟨by simpa using hl, _, c, rfl, fun j u hj => ⟨_, rfl, h.lt, by rw [add_head, h.cell, ← Array.getElem?_toList]; exact hj⟩⟩
theorem own_slice (h : w.ownsRow B e s v n xs) : ∃ A c, v = .slice A n c ∧ n ≤ c ∧ c ≤ maxLen := by
  rcases h.2 with ⟨rfl, rfl⟩ | ⟨g, cap, cur, rfl, _, _, h4, h5, _⟩
  · exact ⟨_, _, rfl, Nat.le_refl _, by simp [maxLen]⟩
  · exact ⟨_, _, rfl, h4, h5⟩
/-- x[:k] of a slice that reads as some cells. -/
theorem Src.take {A : Option Addr} {c : Nat} (h : Src w s (.slice A n c) n xs) (k : Nat) (hk : k ≤ n) (c' : Nat) : Src w s (.slice A k c') k (xs.take (k * s)) := by
  obtain ⟨h1, A', c2, he, h2⟩ := h
  injection he with hA _ _
  subst hA
  refine ⟨by rw [List.length_take, h1]; exact Nat.min_eq_left (Nat.mul_le_mul_right s hk), _, c', rfl, fun j u hj => ?_⟩
  rw [List.getElem?_take] at hj
  split at hj
  · exact h2 j u hj
  · cases hj
/-- x[k:]. -/
theorem Src.drop {A : Option Addr} {c : Nat} (h : Src w s (.slice A n c) n xs) (k : Nat) (hk : k ≤ n) (hc : n ≤ c) (c' : Nat) : Src w s (.slice (if c = k then A else A.map (·.add (k * s))) (n - k) c') (n - k) (xs.drop (k * s)) := by
  obtain ⟨h1, A', c2, he, h2⟩ := h
  injection he with hA _ _
  subst hA
  have hl : (xs.drop (k * s)).length = (n - k) * s := by rw [List.length_drop, h1, Nat.sub_mul]
  refine ⟨hl, _, c', rfl, fun j u hj => ?_⟩
  have hj' := (List.getElem?_eq_some_iff.1 hj).1
  have hck : c ≠ k := by
    intro e
    have : n = k := by omega
    subst this
    rw [hl] at hj'
    simp at hj'
  rw [if_neg hck]
  rw [List.getElem?_drop] at hj
  obtain ⟨ad, rfl, hb, hcell⟩ := h2 _ u hj
  exact ⟨_, rfl, by rw [block_add]; exact hb, by show w.cell? ((ad.add (k * s)).add j) = some u; rw [Go.Deep.add_add]; exact hcell⟩
end

section
variable {P : Program} (w : World) {B s n m c bytes : Nat} {t e : TypeId} {v x : Value} {xs news : List Value}
theorem run_app (ET : Elem P t e s bytes) (ty : TypeId) (hown : w.ownsRow B e s v n xs) (hs : Src w s x m news) (h1 : ∀ u ∈ news, u.oneCell' = true) (h63 : n + m ≤ maxLen) (hby : (n + m) * bytes ≤ 140737488355328) (hB : B ≤ w.heap.size) :
    ∃ v' w', (Builtin.append_ #[t, t] ty #[v, x]).run P w = .ok v' w' ∧ w'.ownsRow B e s v' (n + m) (xs ++ news) ∧ Upd v.ownBlock.toList w w' ∧ (v'.ownBlock = v.ownBlock ∨ v'.ownBlock = some w.heap.size) := by
  obtain ⟨i, z, hi, hz, hz1, hz2, hzs⟩ := ET.info
  obtain ⟨hl, A, cx, rfl, hc⟩ := hs
  rcases A with _ | ad
  · have hn : news = [] := by
      cases news with
      | nil => rfl
      | cons u r => obtain ⟨ad, h, _⟩ := hc 0 u rfl; cases h
    subst hn
    have hm : m = 0 := by
      have hp := ET.pos
      rcases Nat.eq_zero_or_pos m with h | h
      · exact h
      · have := Nat.mul_pos h hp
        simp at hl
        omega
    subst hm
    refine ⟨v, w, ?_, by simpa using hown, .refl _ _, .inl rfl⟩
    rcases hown.2 with ⟨rfl, rfl⟩ | ⟨g, cap, cur, rfl, _, _, hnc, _⟩
    · simp [Builtin.append_, run_underlying ET.und, sizeOf, typeInfo, hi, Builtin.lenOf, Builtin.firstCells]
    · simp [Builtin.append_, run_underlying ET.und, sizeOf, typeInfo, hi, Builtin.lenOf, Builtin.firstCells, hnc, storeCells]
  · have hcells : ∀ j u, news[j]? = some u → w.cell? (ad.add j) = some u := fun j u hj => by
      obtain ⟨ad', h, _, h2⟩ := hc j u hj
      cases h
      exact h2
    obtain ⟨v', w', hr, h2, h3, _, h5⟩ := run_append_own_at (P := P) w B t ty e i z s bytes ET.und hi hz hz1 hz2 hzs ET.pos v n xs hown ad m cx news hl hcells h1 h63 hby hB
    exact ⟨v', w', hr, h2, own_upd_of_grown h3, h5⟩

theorem wp_app {o : Oper} {a : Act} {K : Act → World → Prop} {Q : Exit → Act → World → Prop} (s' x' : Operand) (t : TypeId) (ho : o.op = .call { callee := .builtin .append, args := #[s', x'], argTypes := #[t, t] })
    (ET : Elem P t e s bytes) (v x : Value) (hs : a.eval s' = v) (hx : a.eval x' = x) (hown : w.ownsRow B e s v n xs) (hsrc : Src w s x m news) (h1 : ∀ u ∈ news, u.oneCell' = true) (h63 : n + m ≤ maxLen) (hby : (n + m) * bytes ≤ 140737488355328) (hB : B ≤ w.heap.size)
    (h : ∀ v' w', w'.ownsRow B e s v' (n + m) (xs ++ news) → Upd v.ownBlock.toList w w' → (v'.ownBlock = v.ownBlock ∨ v'.ownBlock = some w.heap.size) → K (a.put o.dst v') w') : o.wp P a w K Q := by
  obtain ⟨v', w', hr, h2, h3, h4⟩ := run_app (P := P) w ET o.type hown hsrc h1 h63 hby hB
  unfold Oper.wp execOp
  simp only [ho, resolve, invoke, builtin, Sem.run_bind, Sem.run_pure, Result.andThen_ok, List.map_toArray, List.map_cons, List.map_nil, hs, hx, hr]
  exact h v' w' h2 h3 h4
/-- In a plain region. -/
theorem wpList_app {ops : Array Oper} {rest : List Oper} {o : Oper} {a : Act} {Q : Exit → Act → World → Prop} (hgd : o.guard = none) (s' x' : Operand) (t : TypeId) (ho : o.op = .call { callee := .builtin .append, args := #[s', x'], argTypes := #[t, t] })
    (ET : Elem P t e s bytes) (v x : Value) (hs : a.eval s' = v) (hx : a.eval x' = x) (hown : w.ownsRow B e s v n xs) (hsrc : Src w s x m news) (h1 : ∀ u ∈ news, u.oneCell' = true) (h63 : n + m ≤ maxLen) (hby : (n + m) * bytes ≤ 140737488355328) (hB : B ≤ w.heap.size)
    (h : ∀ v' w', w'.ownsRow B e s v' (n + m) (xs ++ news) → Upd v.ownBlock.toList w w' → (v'.ownBlock = v.ownBlock ∨ v'.ownBlock = some w.heap.size) → wpList P ops Q rest (a.put o.dst v') w') : wpList P ops Q (o :: rest) a w :=
  wpList_plain hgd fun _ hK => wp_app w s' x' t ho ET v x hs hx hown hsrc h1 h63 hby hB fun v' w' h2 h3 h4 => hK _ _ (h v' w' h2 h3 h4)
/-- At a step of a region that draws its order. -/
theorem step_app {ops : Array Oper} {o : Oper} {a : Act} {K : Act → World → Prop} {Q : Exit → Act → World → Prop} {E : Prop} (hgd : o.guard = none) (s' x' : Operand) (t : TypeId) (ho : o.op = .call { callee := .builtin .append, args := #[s', x'], argTypes := #[t, t] })
    (ET : Elem P t e s bytes) (v x : Value) (hs : a.eval s' = v) (hx : a.eval x' = x) (hown : w.ownsRow B e s v n xs) (hsrc : Src w s x m news) (h1 : ∀ u ∈ news, u.oneCell' = true) (h63 : n + m ≤ maxLen) (hby : (n + m) * bytes ≤ 140737488355328) (hB : B ≤ w.heap.size)
    (h : ∀ v' w', w'.ownsRow B e s v' (n + m) (xs ++ news) → Upd v.ownBlock.toList w w' → (v'.ownBlock = v.ownBlock ∨ v'.ownBlock = some w.heap.size) → K (a.put o.dst v') w') :
    if Region.wanted o (yielded ops a.tmps) = true then Oper.wp P o a w K Q else E := by
  rw [if_pos (by simp [Region.wanted, hgd])]
  exact wp_app w s' x' t ho ET v x hs hx hown hsrc h1 h63 hby hB h
end

section
variable {P : Program} {s n c k bytes : Nat} {t e : TypeId} {A : Option Addr}
/-- x[:k]. -/
theorem cut_head (ET : Elem P t e s bytes) (A : Option Addr) (n c k : Nat) (hk : k ≤ n) (hc : n ≤ c) :
    ∃ X, (∀ W, (Instr.slice t (.slice A n c) none (some (.int .i64 k)) none).run P W = .ok X W) ∧ Value.ownBlock X = Value.ownBlock (.slice A n c) ∧ ∀ W xs, Src W s (.slice A n c) n xs → Src W s X k (xs.take (k * s)) := by
  obtain ⟨i, z, hi, hz, hz1, hz2, hzs⟩ := ET.info
  refine ⟨.slice A k c, fun W => ?_, by cases A <;> rfl, fun W xs h => h.take k hk c⟩
  have h2 : k ≤ c := by omega
  have h3 : (if c = 0 then A else Option.map (fun x => x.add 0) A) = A := by
    have : (fun x : Addr => x.add 0) = id := by funext x; rfl
    rw [this]; simp
  simp [Instr.slice, run_underlying ET.und, Instr.sliceBounds, Instr.sliceBound, asIntOf, h2, sizeOf, typeInfo, hi, h3]
/-- x[k:]. -/
theorem cut_tail (ET : Elem P t e s bytes) (A : Option Addr) (n c k : Nat) (hk : k ≤ n) (hc : n ≤ c) :
    ∃ X, (∀ W, (Instr.slice t (.slice A n c) (some (.int .i64 k)) none none).run P W = .ok X W) ∧ Value.ownBlock X = Value.ownBlock (.slice A n c) ∧ ∀ W xs, Src W s (.slice A n c) n xs → Src W s X (n - k) (xs.drop (k * s)) := by
  obtain ⟨i, z, hi, hz, hz1, hz2, hzs⟩ := ET.info
  refine ⟨.slice (if c = k then A else A.map (·.add (k * s))) (n - k) (c - k), fun W => ?_, ?_, fun W xs h => h.drop k hk hc (c - k)⟩
  · simp [Instr.slice, run_underlying ET.und, Instr.sliceBounds, Instr.sliceBound, asIntOf, sizeOf, typeInfo, hi, hz1]
    omega
  · cases A with
    | none => simp [Value.ownBlock]
    | some a =>
      by_cases h : c = k
      · simp [h, Value.ownBlock]
      · simp [h, Value.ownBlock, block_add]
/-- What a slice literal of no elements makes. -/
theorem own_made {W : World} {H B : Nat} (s : Nat) (h : Blk W H e #[]) (hB : B ≤ H) : W.ownsRow B e s (.slice (some ⟨H, 0, none⟩) 0 0) 0 [] :=
  ⟨by simp, .inr ⟨H, 0, #[], rfl, hB, h, Nat.le_refl _, by simp [maxLen], by simp, by simp⟩⟩
end
end Go.Proofs.YtkldpdldjalpeaaGreatDoor

namespace Go.Proofs.YtkldpdldjalpeaaGreatDoor
open Go Go.RowKit Go.MapKept

abbrev IEnt := Int × Value × Nat
def ent (q : IntKind) (p : IEnt) : MapEntry := { key := .int q p.1, val := p.2.1, born := p.2.2 }
structure IRaw (w : World) (q : IntKind) (b : Nat) (L : List IEnt) (c : Nat) : Prop where
  blk : w.heap[b]? = some (.map (L.map (ent q)).toArray c)
  keys : (L.map (·.1)).Nodup
  stamps : (L.map (·.2.2)).Nodup
  lt : ∀ p ∈ L, p.2.2 < c
def findI (L : List IEnt) (k : Int) : Option Value := (L.find? (fun p => p.1 == k)).map (·.2.1)
/-- Block b is a map with these values, n in all. -/
def IMap (w : World) (q : IntKind) (b : Nat) (f : Int → Option Value) (n : Nat) : Prop := ∃ L c, IRaw w q b L c ∧ (∀ k, f k = findI L k) ∧ L.length = n

section
variable {P : Program} {w w' : World} {q : IntKind} {b : Nat} {L : List IEnt} {c : Nat} {f : Int → Option Value} {n : Nat}
theorem IRaw.lt' (h : IRaw w q b L c) : b < w.heap.size := by
  rcases Nat.lt_or_ge b w.heap.size with hl | hg
  · exact hl
  · have := h.blk
    rw [Array.getElem?_eq_none hg] at this
    cases this
theorem IMap.lt (h : IMap w q b f n) : b < w.heap.size := by
  obtain ⟨L, c, h, _⟩ := h
  exact h.lt'
theorem IMap.upd {S : List Nat} (h : IMap w q b f n) (hu : Upd S w w') (hb : b ∉ S) : IMap w' q b f n := by
  obtain ⟨L, c, h, h1, h2⟩ := h
  exact ⟨L, c, ⟨(hu.keep b h.lt' hb).trans h.blk, h.keys, h.stamps, h.lt⟩, h1, h2⟩
theorem IMap.drew (h : IMap w q b f n) : IMap w.drew q b f n := by
  obtain ⟨L, c, h, h1, h2⟩ := h
  exact ⟨L, c, ⟨h.blk, h.keys, h.stamps, h.lt⟩, h1, h2⟩
theorem IMap.new (w : World) (q : IntKind) : IMap (w.alloc (.map #[] 0)) q w.heap.size (fun _ => none) 0 :=
  ⟨[], 0, ⟨by simpa using heap_alloc_new w (.map #[] 0), by simp, by simp, by simp⟩, fun _ => rfl, rfl⟩
theorem IMap.congr {g : Int → Option Value} (h : IMap w q b f n) (hg : ∀ k, f k = g k) : IMap w q b g n := by
  obtain ⟨L, c, h, h1, h2⟩ := h
  exact ⟨L, c, h, fun k => (hg k).symm.trans (h1 k), h2⟩

theorem findNow_ent (k : Int) : ∀ (L : List IEnt) (i : Nat), Instr.findNow (.int q) (.int q k) (L.map (ent q)) i = some ((L.findIdx? (fun p => p.1 == k)).map (fun j => (i + j, (L.getD j (0, undef, 0)).2.1)))
  | [], i => rfl
  | p :: L, i => by
    rw [List.map_cons]
    unfold Instr.findNow
    have e : Instr.sameNow (.int q) (.int q k) (ent q p).key = some (k == p.1) := by simp [Instr.sameNow, ent]
    rw [e]
    by_cases h : p.1 = k
    · subst h
      simp [ent, List.findIdx?_cons]
    · have h1 : (k == p.1) = false := by simpa using fun e => h e.symm
      have h2 : (p.1 == k) = false := by simpa using h
      rw [h1]
      simp only
      rw [findNow_ent k L (i + 1), List.findIdx?_cons, h2]
      cases L.findIdx? (fun p => p.1 == k) with
      | none => rfl
      | some j => simp; omega
theorem findI_idx {k : Int} : findI L k = (L.findIdx? (fun p => p.1 == k)).map (fun j => (L.getD j (0, undef, 0)).2.1) := by
  induction L with
  | nil => rfl
  | cons p L ih =>
    unfold findI at ih ⊢
    rw [List.find?_cons, List.findIdx?_cons]
    cases h : p.1 == k with
    | true => simp
    | false =>
      simp only [Bool.false_eq_true, if_false]
      rw [ih]
      cases L.findIdx? (fun p => p.1 == k) <;> simp
theorem run_findKey_int {kt : TypeId} (hk : P.underlying kt = some (.int q)) (k : Int) (L : List IEnt) (W : World) : (Instr.findKey kt (.int q k) (L.map (ent q))).run P W = .ok ((L.findIdx? (fun p => p.1 == k)).map (fun j => (j, (L.getD j (0, undef, 0)).2.1))) W := by
  unfold Instr.findKey
  simp only [Sem.run_bind, run_underlying hk, Result.andThen]
  rw [findNow_ent]
  simp
theorem run_getObj_blk {b : Nat} {es : Array MapEntry} {c : Nat} (h : w.heap[b]? = some (.map es c)) : (getObj b).run P w = .ok (.map es c) w := by
  simp [getObj, Sem.run, h]
theorem run_lookup_int {mt kt et : TypeId} {z : Value} (hm : P.underlying mt = some (.map kt et)) (hk : P.underlying kt = some (.int q)) (hz : (zeroValue et).run P w = .ok z w) (h : IMap w q b f n) (k : Int) :
    (Instr.lookup mt (.map (some b)) (.int q k) true).run P w = .ok (.tuple #[(f k).getD z, .bool (f k).isSome]) w := by
  obtain ⟨L, c, h, hf, _⟩ := h
  rw [hf, findI_idx]
  unfold Instr.lookup
  simp only [Sem.run_bind, run_underlying hm, Result.andThen, run_getObj_blk h.blk, Sem.run_pure, run_checkKey hk (show IsKey (.int q) (.int q k) by simp [IsKey])]
  have e : (Instr.findKey kt (.int q k) (L.map (ent q)).toArray.toList).run P w = _ := run_findKey_int hk k L w
  rw [e]
  simp only
  cases L.findIdx? (fun p => p.1 == k) with
  | none => simp [Sem.run_bind, hz, Result.andThen]
  | some j => simp [Result.andThen]
theorem run_lookup_int' {mt kt et : TypeId} {z : Value} (hm : P.underlying mt = some (.map kt et)) (hk : P.underlying kt = some (.int q)) (hz : (zeroValue et).run P w = .ok z w) (h : IMap w q b f n) (k : Int) :
    (Instr.lookup mt (.map (some b)) (.int q k) false).run P w = .ok ((f k).getD z) w := by
  obtain ⟨L, c, h, hf, _⟩ := h
  rw [hf, findI_idx]
  unfold Instr.lookup
  simp only [Sem.run_bind, run_underlying hm, Result.andThen, run_getObj_blk h.blk, Sem.run_pure, run_checkKey hk (show IsKey (.int q) (.int q k) by simp [IsKey])]
  have e : (Instr.findKey kt (.int q k) (L.map (ent q)).toArray.toList).run P w = _ := run_findKey_int hk k L w
  rw [e]
  simp only
  cases L.findIdx? (fun p => p.1 == k) with
  | none => simp [Sem.run_bind, hz, Result.andThen]
  | some j => simp [Result.andThen]

def putI (f : Int → Option Value) (k : Int) (v : Value) : Int → Option Value := fun x => if x = k then some v else f x
def delI (f : Int → Option Value) (k : Int) : Int → Option Value := fun x => if x = k then none else f x
theorem upd_setBlk {b : Nat} (o : Obj) (hb : b < w.heap.size) : Upd [b] w { w with heap := w.heap.setIfInBounds b o } :=
  ⟨rfl, rfl, rfl, by simp, fun k hk hn => by
    have : b ≠ k := fun e => hn (by simp [e])
    simp [this]⟩
theorem find_some_mem {k : Int} {j : Nat} (h : L.findIdx? (fun p => p.1 == k) = some j) : ∃ hj : j < L.length, L[j].1 = k := by
  rw [List.findIdx?_eq_some_iff_getElem] at h
  obtain ⟨hj, h1, _⟩ := h
  exact ⟨hj, by simpa using h1⟩
theorem find_none {k : Int} (h : L.findIdx? (fun p => p.1 == k) = none) : ∀ p ∈ L, p.1 ≠ k := by
  rw [List.findIdx?_eq_none_iff] at h
  intro p hp
  simpa using h p hp
theorem findI_none {k : Int} (h : ∀ p ∈ L, p.1 ≠ k) : findI L k = none := by
  unfold findI
  rw [List.find?_eq_none.2 (fun p hp => by simpa using h p hp)]
  rfl
/-- What a list of entries with unlike keys has. -/
theorem findI_mem (hn : (L.map (·.1)).Nodup) {p : IEnt} (hp : p ∈ L) : findI L p.1 = some p.2.1 := by
  induction L with
  | nil => simp at hp
  | cons a L ih =>
    rw [List.map_cons, List.nodup_cons] at hn
    unfold findI at ih ⊢
    rw [List.find?_cons]
    rcases List.mem_cons.1 hp with rfl | hp
    · simp
    · have : (a.1 == p.1) = false := by
        have : a.1 ≠ p.1 := fun e => hn.1 (e ▸ List.mem_map.2 ⟨p, hp, rfl⟩)
        simpa using this
      rw [this]
      exact ih hn.2 hp
theorem findI_append {M : List IEnt} (k : Int) : findI (L ++ M) k = (findI L k).or (findI M k) := by
  unfold findI
  rw [List.find?_append]
  cases L.find? (fun p => p.1 == k) <;> simp
theorem findI_set {j : Nat} {k : Int} (hn : (L.map (·.1)).Nodup) (hj : j < L.length) (hk : L[j].1 = k) (v : Value) (s : Nat) (x : Int) : findI (L.set j (k, v, s)) x = if x = k then some v else findI L x := by
  induction L generalizing j with
  | nil => simp at hj
  | cons a L ih =>
    rw [List.map_cons, List.nodup_cons] at hn
    cases j with
    | zero =>
      simp only [List.getElem_cons_zero] at hk
      rw [List.set_cons_zero]
      unfold findI
      rw [List.find?_cons, List.find?_cons, hk]
      by_cases h : x = k
      · subst h; simp
      · have : (k == x) = false := by simpa using fun e => h e.symm
        simp only [this]
        rw [if_neg h]
    | succ j =>
      rw [List.set_cons_succ]
      unfold findI at ih ⊢
      rw [List.find?_cons, List.find?_cons]
      by_cases h : a.1 = x
      · subst h
        have : a.1 ≠ k := fun e => hn.1 (by
          have hj' : j < L.length := by simpa using hj
          refine List.mem_map.2 ⟨L[j], List.getElem_mem hj', ?_⟩
          simpa [e] using hk)
        simp [this]
      · have : (a.1 == x) = false := by simpa using h
        rw [this]
        simp only
        exact ih hn.2 (by simpa using hj) (by simpa using hk)
theorem set_same {α : Type} {l : List α} {j : Nat} {x : α} (hj : j < l.length) (h : l[j] = x) : l.set j x = l := by
  subst h
  exact List.set_getElem_self hj
theorem IRaw.set {j : Nat} {k : Int} (h : IRaw w q b L c) (hj : j < L.length) (hk : L[j].1 = k) (v : Value) : IRaw { w with heap := w.heap.setIfInBounds b (.map ((L.set j (k, v, L[j].2.2)).map (ent q)).toArray c) } q b (L.set j (k, v, L[j].2.2)) c := by
  refine ⟨(heap_set h.blk).1, ?_, ?_, ?_⟩
  · rw [List.map_set, set_same (by simpa using hj) (by simpa using hk)]
    exact h.keys
  · rw [List.map_set, set_same (by simpa using hj) (by simp)]
    exact h.stamps
  · intro p hp
    rcases List.mem_or_eq_of_mem_set hp with hp | rfl
    · exact h.lt p hp
    · exact h.lt L[j] (List.getElem_mem hj)
theorem IRaw.push {k : Int} (h : IRaw w q b L c) (hk : ∀ p ∈ L, p.1 ≠ k) (v : Value) : IRaw { w with heap := w.heap.setIfInBounds b (.map ((L ++ [(k, v, c)]).map (ent q)).toArray (c + 1)) } q b (L ++ [(k, v, c)]) (c + 1) := by
  refine ⟨(heap_set h.blk).1, ?_, ?_, ?_⟩
  · rw [List.map_append, List.nodup_append]
    refine ⟨h.keys, by simp, ?_⟩
    intro a ha x hx
    simp at hx
    subst hx
    obtain ⟨p, hp, rfl⟩ := List.mem_map.1 ha
    exact hk p hp
  · rw [List.map_append, List.nodup_append]
    refine ⟨h.stamps, by simp, ?_⟩
    intro a ha x hx
    simp at hx
    subst hx
    obtain ⟨p, hp, rfl⟩ := List.mem_map.1 ha
    have := h.lt p hp
    omega
  · intro p hp
    rcases List.mem_append.1 hp with hp | hp
    · have := h.lt p hp; omega
    · simp at hp; subst hp; simp
theorem modify_ent {j : Nat} {k : Int} (hj : j < L.length) (hk : L[j].1 = k) (g : MapEntry → MapEntry) (v : Value) (hg : g (ent q L[j]) = ent q (k, v, L[j].2.2)) : (L.map (ent q)).toArray.modify j g = ((L.set j (k, v, L[j].2.2)).map (ent q)).toArray := by
  apply Array.ext_getElem?
  intro i
  rw [Array.getElem?_modify]
  simp only [List.getElem?_toArray, List.getElem?_map, List.getElem?_set]
  by_cases h : j = i
  · subst h
    simp [hj, hg]
  · simp [h]
theorem run_keyStays (k : Int) (W : World) : (Instr.keyThatStays (.int q k) (.int q k)).run P W = .ok (.int q k) W := by
  unfold Instr.keyThatStays
  have : Instr.sameBits 10000 (.int q k) (.int q k) = true := by simp [Instr.sameBits]
  rw [if_pos this]
  simp
theorem run_mapUpdate_int {mt kt et : TypeId} (hm : P.underlying mt = some (.map kt et)) (hk : P.underlying kt = some (.int q)) (h : IMap w q b f n) (k : Int) (v : Value) :
    ∃ w', (Instr.mapUpdate mt (.map (some b)) (.int q k) v).run P w = .ok () w' ∧ IMap w' q b (putI f k v) (if (f k).isSome then n else n + 1) ∧ Upd [b] w w' := by
  obtain ⟨L, c, h, hf, hn⟩ := h
  have hfk := hf k
  rw [findI_idx] at hfk
  unfold Instr.mapUpdate
  simp only [Sem.run_bind, run_underlying hm, Result.andThen, run_getObj_blk h.blk, run_checkKey hk (show IsKey (.int q) (.int q k) by simp [IsKey])]
  have e : (Instr.findKey kt (.int q k) (L.map (ent q)).toArray.toList).run P w = _ := run_findKey_int hk k L w
  rw [e]
  simp only
  cases hi : L.findIdx? (fun p => p.1 == k) with
  | none =>
    have hno := find_none hi
    rw [hi] at hfk
    rw [hfk]
    refine ⟨_, by simp only [Option.map_none]; exact run_setObj_map _ h.blk, ⟨L ++ [(k, v, c)], c + 1, ?_, fun x => ?_, by simp [hn]⟩, upd_setBlk _ h.lt'⟩
    · have := h.push hno v
      rw [List.map_append] at this
      rw [List.push_toArray]
      exact this
    · unfold putI
      rw [findI_append, hf]
      by_cases hx : x = k
      · subst hx
        rw [if_pos rfl, findI_none hno]
        simp [findI]
      · rw [if_neg hx]
        have : findI [(k, v, c)] x = none := findI_none (by simp; exact fun e => hx e.symm)
        rw [this]
        simp
  | some j =>
    obtain ⟨hj, hjk⟩ := find_some_mem hi
    rw [hi] at hfk
    have hke : (((L.map (ent q)).toArray[j]?).map (·.key)).getD (.int q k) = .int q k := by
      simp [hj, ent, hjk]
    refine ⟨_, ?_, ⟨L.set j (k, v, L[j].2.2), c, h.set hj hjk v, fun x => ?_, by rw [hfk]; simp [hn]⟩, upd_setBlk _ h.lt'⟩
    · simp only [Option.map_some, Sem.run_bind, Result.andThen, hke, run_keyStays]
      rw [modify_ent hj hjk _ v (by simp [ent])]
      exact run_setObj_map _ h.blk
    · unfold putI
      rw [findI_set h.keys hj hjk, hf]
theorem run_delete_int {mt kt et ty : TypeId} {ats : Array TypeId} (ha : ats[0]? = some mt) (hm : P.underlying mt = some (.map kt et)) (hk : P.underlying kt = some (.int q)) (h : IMap w q b f n) (k : Int) :
    ∃ w', (Builtin.delete_ ats ty #[.map (some b), .int q k]).run P w = .ok (.tuple #[]) w' ∧ IMap w' q b (delI f k) (if (f k).isSome then n - 1 else n) ∧ Upd [b] w w' := by
  obtain ⟨L, c, h, hf, hn⟩ := h
  have hfk := hf k
  rw [findI_idx] at hfk
  unfold Builtin.delete_
  rw [ha]
  simp only [List.getElem?_toArray, List.getElem?_cons_zero, List.getElem?_cons_succ, Sem.run_bind, run_underlying hm, Result.andThen, run_getObj_blk h.blk, run_checkKey hk (show IsKey (.int q) (.int q k) by simp [IsKey])]
  have e : (Instr.findKey kt (.int q k) (L.map (ent q)).toArray.toList).run P w = _ := run_findKey_int hk k L w
  rw [e]
  simp only
  cases hi : L.findIdx? (fun p => p.1 == k) with
  | none =>
    have hno := find_none hi
    rw [hi] at hfk
    rw [hfk]
    refine ⟨_, by simp only [Option.map_none, Sem.run_bind, run_setObj_map _ h.blk, Result.andThen, Sem.run_pure], ⟨L, c, ⟨(heap_set h.blk).1, h.keys, h.stamps, h.lt⟩, fun x => ?_, by simp [hn]⟩, upd_setBlk _ h.lt'⟩
    unfold delI
    by_cases hx : x = k
    · subst hx; rw [if_pos rfl, findI_none hno]
    · rw [if_neg hx, hf]
  | some j =>
    obtain ⟨hj, hjk⟩ := find_some_mem hi
    rw [hi] at hfk
    have e1 : (L.map (ent q)).toArray.eraseIdxIfInBounds j = ((L.eraseIdx j).map (ent q)).toArray := by
      have : (L.map (ent q)).eraseIdx j = (L.eraseIdx j).map (ent q) := by
        rw [List.eraseIdx_eq_take_drop_succ, List.eraseIdx_eq_take_drop_succ, List.map_append, List.map_take, List.map_drop]
      simp [Array.eraseIdxIfInBounds, hj, List.eraseIdx_toArray, this]
    refine ⟨{ w with heap := w.heap.setIfInBounds b (.map ((L.eraseIdx j).map (ent q)).toArray c) }, by simp only [Option.map_some, Sem.run_bind, run_setObj_map _ h.blk, Result.andThen, Sem.run_pure]; rw [e1], ⟨L.eraseIdx j, c, ⟨(heap_set h.blk).1, ?_, ?_, fun p hp => h.lt p (List.mem_of_mem_eraseIdx hp)⟩, fun x => ?_, by rw [hfk, List.length_eraseIdx_of_lt hj, hn]; rfl⟩, upd_setBlk _ h.lt'⟩
    · exact h.keys.sublist ((List.eraseIdx_sublist L j).map _)
    · exact h.stamps.sublist ((List.eraseIdx_sublist L j).map _)
    · unfold delI
      have hL : L = L.take j ++ L[j] :: L.drop (j + 1) := by rw [← List.drop_eq_getElem_cons hj, List.take_append_drop]
      have hE : L.eraseIdx j = L.take j ++ L.drop (j + 1) := List.eraseIdx_eq_take_drop_succ ..
      have hnd := h.keys
      rw [hL, List.map_append, List.map_cons, hjk] at hnd
      rw [List.nodup_append, List.nodup_cons] at hnd
      obtain ⟨_, ⟨n1, _⟩, n3⟩ := hnd
      rw [hf, hE]
      conv => lhs; rw [hL]
      rw [findI_append, findI_append]
      by_cases hx : x = k
      · subst hx
        rw [if_pos rfl, findI_none (L := L.take j) (fun p hp e => n3 _ (List.mem_map.2 ⟨p, hp, rfl⟩) _ (List.mem_cons_self ..) e), findI_none (L := L.drop (j + 1)) (fun p hp e => n1 (List.mem_map.2 ⟨p, hp, e⟩))]
        rfl
      · rw [if_neg hx]
        have : findI (L[j] :: L.drop (j + 1)) x = findI (L.drop (j + 1)) x := by
          unfold findI
          rw [List.find?_cons]
          have : (L[j].1 == x) = false := by rw [hjk]; simpa using fun e => hx e.symm
          rw [this]
        rw [this]
/-- An assignment's first half: the entry is found, or made. -/
theorem run_mapEntry_int {mt kt et : TypeId} {z : Value} (hm : P.underlying mt = some (.map kt et)) (hk : P.underlying kt = some (.int q)) (hz : ∀ w, (zeroValue et).run P w = .ok z w) (h : IMap w q b f n) (k : Int) :
    ∃ (w' : World) (s : Nat), (Instr.mapEntry mt (.map (some b)) (.int q k)).run P w = .ok (.tuple #[(f k).getD z, goInt s]) w' ∧ (∃ L c, IRaw w' q b L c ∧ (∃ v, (k, v, s) ∈ L) ∧ (∀ x, findI L x = if x = k then some ((f k).getD z) else f x) ∧ L.length = if (f k).isSome then n else n + 1) ∧ Upd [b] w w' := by
  obtain ⟨L, c, h, hf, hn⟩ := h
  have hfk := hf k
  rw [findI_idx] at hfk
  unfold Instr.mapEntry
  simp only [Sem.run_bind, run_underlying hm, Result.andThen, run_getObj_blk h.blk, run_checkKey hk (show IsKey (.int q) (.int q k) by simp [IsKey])]
  have e : (Instr.findKey kt (.int q k) (L.map (ent q)).toArray.toList).run P w = _ := run_findKey_int hk k L w
  rw [e]
  simp only
  cases hi : L.findIdx? (fun p => p.1 == k) with
  | none =>
    have hno := find_none hi
    rw [hi] at hfk
    rw [hfk]
    refine ⟨_, c, by simp only [Option.map_none, Sem.run_bind, hz, Result.andThen, run_setObj_map _ h.blk, Sem.run_pure]; rfl, ⟨L ++ [(k, z, c)], c + 1, ?_, ⟨z, by simp⟩, fun x => ?_, by simp [hn]⟩, upd_setBlk _ h.lt'⟩
    · have := h.push hno z
      rw [List.map_append] at this
      rw [List.push_toArray]
      exact this
    · rw [findI_append, ← hf]
      by_cases hx : x = k
      · subst hx
        rw [if_pos rfl, hf, findI_none hno]
        simp [findI]
      · rw [if_neg hx]
        have : findI [(k, z, c)] x = none := findI_none (by simp; exact fun e => hx e.symm)
        rw [this]
        simp
  | some j =>
    obtain ⟨hj, hjk⟩ := find_some_mem hi
    rw [hi] at hfk
    have hke : (((L.map (ent q)).toArray[j]?).map (·.key)).getD (.int q k) = .int q k := by
      simp [hj, ent, hjk]
    have hbo : (((L.map (ent q)).toArray[j]?).map (fun x => (x.born : Int))).getD 0 = (L[j].2.2 : Int) := by
      simp [hj, ent]
    have hgd : L.getD j (0, undef, 0) = L[j] := by simp [List.getD_eq_getElem?_getD, hj]
    refine ⟨_, L[j].2.2, ?_, ⟨L.set j (k, L[j].2.1, L[j].2.2), c, h.set hj hjk L[j].2.1, ⟨L[j].2.1, List.mem_iff_getElem.2 ⟨j, by simpa using hj, by simp⟩⟩, fun x => ?_, by rw [hfk]; simp [hn]⟩, upd_setBlk _ h.lt'⟩
    · simp only [Option.map_some, Sem.run_bind, Result.andThen, hke, run_keyStays]
      rw [modify_ent hj hjk _ L[j].2.1 (by simp [ent]), run_setObj_map _ h.blk]
      simp only [Sem.run_pure, hbo, hfk, hgd, Option.map_some, Option.getD_some]
    · rw [findI_set h.keys hj hjk, ← hf, hfk]
      simp only [Option.map_some, Option.getD_some, hgd]
/-- Its second half. -/
theorem run_entryStore_int {mt : TypeId} {s : Nat} {k : Int} {v0 : Value} (h : IRaw w q b L c) (hs : (k, v0, s) ∈ L) (v : Value) :
    ∃ w', (Instr.entryStore mt (.map (some b)) (goInt s) v).run P w = .ok () w' ∧ IMap w' q b (fun x => if x = k then some v else findI L x) L.length ∧ Upd [b] w w' := by
  obtain ⟨j, hj, hjs⟩ := List.mem_iff_getElem.1 hs
  have hidx : (L.map (ent q)).toArray.findIdx? (fun e => (e.born : Int) == (s : Int)) = some j := by
    rw [List.findIdx?_toArray, List.findIdx?_eq_some_iff_getElem]
    refine ⟨by simpa using hj, by simp [ent, hjs], fun i hi => ?_⟩
    simp only [List.getElem_map, ent]
    have hne : L[i].2.2 ≠ s := by
      intro e
      have := List.pairwise_iff_getElem.1 h.stamps i j (by simp; omega) (by simpa using hj) hi
      simp [e, hjs] at this
    simp
    omega
  refine ⟨{ w with heap := w.heap.setIfInBounds b (.map ((L.set j (k, v, L[j].2.2)).map (ent q)).toArray c) }, ?_, ⟨L.set j (k, v, L[j].2.2), c, h.set hj (by rw [hjs]) v, fun x => ?_, by simp⟩, upd_setBlk _ h.lt'⟩
  · unfold Instr.entryStore
    simp only [Sem.run_bind, Result.andThen, run_getObj_blk h.blk]
    have : (asInt (goInt s)).run P w = .ok (s : Int) w := by simp [asInt, asIntOf, goInt, Result.andThen]
    rw [this]
    simp only
    rw [hidx]
    simp only
    rw [modify_ent hj (by rw [hjs]) _ v (by simp [ent, hjs])]
    exact run_setObj_map _ h.blk
  · rw [findI_set h.keys hj (by rw [hjs])]
end
end Go.Proofs.YtkldpdldjalpeaaGreatDoor

namespace Go.Proofs.YtkldpdldjalpeaaGreatDoor
open Go.RowKit

/-- From w to w' only blocks of O, and new ones, may have turned. -/
structure UpdP (O : Nat → Prop) (w w' : World) : Prop where
  os : w'.os = w.os
  tape : w'.tape = w.tape
  output : w'.output = w.output
  size : w.heap.size ≤ w'.heap.size
  keep : ∀ k, k < w.heap.size → ¬ O k → w'.heap[k]? = w.heap[k]?
theorem UpdP.refl (O : Nat → Prop) (w : World) : UpdP O w w := ⟨rfl, rfl, rfl, Nat.le_refl _, fun _ _ _ => rfl⟩
theorem UpdP.trans {O O' : Nat → Prop} {a b c : World} (h : UpdP O a b) (k : UpdP O' b c) (hO : ∀ x, O' x → O x ∨ a.heap.size ≤ x) : UpdP O a c :=
  ⟨k.os.trans h.os, k.tape.trans h.tape, k.output.trans h.output, Nat.le_trans h.size k.size, fun i hi hn =>
    (k.keep i (Nat.lt_of_lt_of_le hi h.size) (fun hm => (hO i hm).elim hn (by omega))).trans (h.keep i hi hn)⟩
theorem UpdP.of_upd {S : List Nat} {O : Nat → Prop} {w w' : World} (h : Upd S w w') (hS : ∀ x ∈ S, O x ∨ w.heap.size ≤ x) : UpdP O w w' :=
  ⟨h.os, h.tape, h.output, h.size, fun k hk hn => h.keep k hk (fun hm => (hS k hm).elim hn (by omega))⟩
theorem UpdP.below {O : Nat → Prop} {B : Nat} {w w' : World} (h : UpdP O w w') (hB : B ≤ w.heap.size) (hO : ∀ x, O x → B ≤ x) : Below B w w' :=
  ⟨h.os, h.tape, h.output, h.size, fun k hk => h.keep k (by omega) (fun hm => by have := hO k hm; omega)⟩
theorem Blk.updP {O : Nat → Prop} {w w' : World} {g : Nat} {t : TypeId} {cs : Array Value} (h : Blk w g t cs) (hu : UpdP O w w') (hg : ¬ O g) : Blk w' g t cs := (hu.keep g h.lt hg).trans h

theorem UpdP.to_upd {O : Nat → Prop} {w w1 w2 : World} (h : UpdP O w1 w2) (h0 : Upd [] w w1) (hO : ∀ x, O x → w.heap.size ≤ x) : Upd [] w w2 :=
  ⟨h.os.trans h0.os, h.tape.trans h0.tape, h.output.trans h0.output, Nat.le_trans h0.size h.size, fun k hk hn => (h.keep k (Nat.lt_of_lt_of_le hk h0.size) (fun ho => by have := hO k ho; omega)).trans (h0.keep k hk hn)⟩
theorem UpdP.mono {O O' : Nat → Prop} {w w' : World} (h : UpdP O w w') (hO : ∀ x, O x → O' x ∨ w.heap.size ≤ x) : UpdP O' w w' :=
  ⟨h.os, h.tape, h.output, h.size, fun k hk hn => h.keep k hk fun ho => (hO k ho).elim hn (by omega)⟩
end Go.Proofs.YtkldpdldjalpeaaGreatDoor

namespace Go.Proofs.YtkldpdldjalpeaaGreatDoor.Th

/-- An access of the blocks. -/
inductive Ac where
  | load (r i : Nat)
  | store (r i : Nat) (x : Int)
  | cas (r i : Nat) (o x : Int)
  | alloc (n : Nat)
/-- What a log tells of one. -/
structure En where
  kind : Int
  ref : Int
  i : Int
  word : Int
  done : Bool
/-- Blocks: where the next one begins; where each begins, and how many words it has; all words. -/
structure BS where
  top : Nat
  sz : List (Nat × Nat)
  ws : List Int
def zeroN (ws : List Int) (at_ : Nat) : Nat → List Int
  | 0 => ws
  | n + 1 => (zeroN ws at_ n).set (at_ + n) 0
theorem zeroN_len (ws : List Int) (at_ : Nat) : ∀ n, (zeroN ws at_ n).length = ws.length
  | 0 => rfl
  | n + 1 => by show ((zeroN ws at_ n).set (at_ + n) 0).length = _; rw [List.length_set, zeroN_len ws at_ n]
/-- One is done. -/
def ex (B : BS) : Ac → En × BS
  | .load r i => (⟨1, r, i, B.ws.getD (r + 1 + i) 0, false⟩, B)
  | .store r i x => (⟨2, r, i, x, false⟩, { B with ws := B.ws.set (r + 1 + i) x })
  | .cas r i o x => (⟨3, r, i, x, B.ws.getD (r + 1 + i) 0 == o⟩, if B.ws.getD (r + 1 + i) 0 = o then { B with ws := B.ws.set (r + 1 + i) x } else B)
  | .alloc n => (⟨4, B.top, n, 0, false⟩, ⟨B.top + n + 1, B.sz ++ [(B.top, n)], zeroN (B.ws.set B.top (2 * n + 1)) (B.top + 1) n⟩)
/-- May it be done? -/
def Can (B : BS) : Ac → Prop
  | .load r i => ∃ n, (r, n) ∈ B.sz ∧ i < n
  | .store r i _ => ∃ n, (r, n) ∈ B.sz ∧ i < n
  | .cas r i _ _ => ∃ n, (r, n) ∈ B.sz ∧ i < n
  | .alloc n => 1 ≤ n ∧ n ≤ 64 ∧ B.top + n + 1 ≤ B.ws.length
theorem ex_sz {B : BS} {a : Ac} {p : Nat × Nat} (h : p ∈ B.sz) : p ∈ (ex B a).2.sz := by
  cases a with
  | load => exact h
  | store => exact h
  | cas => simp only [ex]; split <;> exact h
  | alloc => exact List.mem_append_left _ h
theorem ex_len (B : BS) (a : Ac) : (ex B a).2.ws.length = B.ws.length := by
  cases a with
  | load => rfl
  | store => simp [ex]
  | cas => simp only [ex]; split <;> simp
  | alloc => simp [ex, zeroN_len]
/-- A body that runs: its log, the entry that is next, was an access done in this step, the blocks. -/
structure CS where
  log : List En
  next : Nat
  did : Bool
  B : BS
def access (c : CS) (a : Ac) : Option En × CS :=
  match c.log[c.next]? with
  | some e => (some e, { c with next := c.next + 1 })
  | none => if c.did then (none, c) else (some (ex c.B a).1, ⟨c.log ++ [(ex c.B a).1], c.next + 1, true, (ex c.B a).2⟩)
inductive Pg (α : Type) where
  | ret (a : α)
  | acc (a : Ac) (k : En → Pg α)
variable {α β : Type}
def Pg.bind : Pg α → (α → Pg β) → Pg β
  | .ret a, f => f a
  | .acc a k, f => .acc a fun e => (k e).bind f
def run : Pg α → CS → Option α × CS
  | .ret a, c => (some a, c)
  | .acc a k, c => match access c a with
    | (some e, c') => run (k e) c'
    | (none, c') => (none, c')
theorem run_ret (a : α) (c : CS) : run (.ret a) c = (some a, c) := rfl
theorem run_some {a : Ac} {k : En → Pg α} {c c' : CS} {e : En} (h : access c a = (some e, c')) : run (.acc a k) c = run (k e) c' := by
  simp only [run, h]
theorem run_none {a : Ac} {k : En → Pg α} {c c' : CS} (h : access c a = (none, c')) : run (.acc a k) c = (none, c') := by
  simp only [run, h]
theorem run_bind_some {f : α → Pg β} {a : α} : ∀ {p : Pg α} {c c' : CS}, run p c = (some a, c') → run (p.bind f) c = run (f a) c'
  | .ret b, c, c', h => by
    rw [run_ret] at h
    injection h with h1 h2
    injection h1 with h1
    subst h1 h2
    rfl
  | .acc x k, c, c', h => by
    show run (.acc x fun e => (k e).bind f) c = _
    cases hx : access c x with
    | mk o c1 =>
      cases o with
      | some e => rw [run_some hx] at h ⊢; exact run_bind_some h
      | none => rw [run_none hx] at h; cases h
theorem run_bind_none {f : α → Pg β} : ∀ {p : Pg α} {c c' : CS}, run p c = (none, c') → run (p.bind f) c = (none, c')
  | .ret b, c, c', h => by rw [run_ret] at h; cases h
  | .acc x k, c, c', h => by
    show run (.acc x fun e => (k e).bind f) c = _
    cases hx : access c x with
    | mk o c1 =>
      cases o with
      | some e => rw [run_some hx] at h ⊢; exact run_bind_none h
      | none => rw [run_none hx] at h ⊢; injection h with _ h; rw [h]
/-- Is there room in the log for one more? -/
def Room (c : CS) : Prop := c.next ≤ c.log.length ∧ (c.did = true ∨ c.log.length < 6000)
theorem room_access {c c' : CS} {a : Ac} {o : Option En} (h : access c a = (o, c')) (hr : Room c) : Room c' := by
  unfold access at h
  cases hl : c.log[c.next]? with
  | some e =>
    rw [hl] at h
    injection h with _ h
    subst h
    have := (List.getElem?_eq_some_iff.1 hl).1
    exact ⟨this, hr.2⟩
  | none =>
    rw [hl] at h
    simp only at h
    split at h
    · injection h with _ h; subst h; exact hr
    · injection h with _ h; subst h
      exact ⟨by have := hr.1; simp; omega, .inl rfl⟩
theorem access_mem {c c' : CS} {a : Ac} {o : Option En} (h : access c a = (o, c')) {p : Nat × Nat} (hp : p ∈ c.B.sz) : p ∈ c'.B.sz := by
  unfold access at h
  cases hl : c.log[c.next]? with
  | some e => rw [hl] at h; injection h with _ h; subst h; exact hp
  | none =>
    rw [hl] at h
    simp only at h
    split at h
    · injection h with _ h; subst h; exact hp
    · injection h with _ h; subst h; exact ex_sz hp
theorem access_len {c c' : CS} {a : Ac} {o : Option En} (h : access c a = (o, c')) : c'.B.ws.length = c.B.ws.length := by
  unfold access at h
  cases hl : c.log[c.next]? with
  | some e => rw [hl] at h; injection h with _ h; subst h; rfl
  | none =>
    rw [hl] at h
    simp only at h
    split at h
    · injection h with _ h; subst h; rfl
    · injection h with _ h; subst h; exact ex_len ..
theorem room_run : ∀ {p : Pg α} {c c' : CS} {o : Option α}, run p c = (o, c') → Room c → Room c'
  | .ret b, c, c', o, h, hr => by rw [run_ret] at h; injection h with _ h; subst h; exact hr
  | .acc x k, c, c', o, h, hr => by
    cases hx : access c x with
    | mk o1 c1 =>
      cases o1 with
      | some e => rw [run_some hx] at h; exact room_run h (room_access hx hr)
      | none => rw [run_none hx] at h; injection h with _ h; subst h; exact room_access hx hr
theorem run_mem {q : Nat × Nat} : ∀ {p : Pg α} {c c' : CS} {o : Option α}, run p c = (o, c') → q ∈ c.B.sz → q ∈ c'.B.sz
  | .ret b, c, c', o, h, hr => by rw [run_ret] at h; injection h with _ h; subst h; exact hr
  | .acc x k, c, c', o, h, hr => by
    cases hx : access c x with
    | mk o1 c1 =>
      cases o1 with
      | some e => rw [run_some hx] at h; exact run_mem h (access_mem hx hr)
      | none => rw [run_none hx] at h; injection h with _ h; subst h; exact access_mem hx hr

/-- What a body wants behind a log. -/
def resid : Pg α → List En → Pg α
  | p, [] => p
  | .ret a, _ :: _ => .ret a
  | .acc _ k, e :: l => resid (k e) l
def isRet : Pg α → Bool
  | .ret _ => true
  | .acc _ _ => false
/-- Does a body go through a log whole? -/
def Fits : Pg α → List En → Prop
  | _, [] => True
  | .ret _, _ :: _ => False
  | .acc _ k, e :: l => Fits (k e) l
/-- One access of a body. -/
def stepP (p : Pg α) (B : BS) : Pg α × BS :=
  match p with
  | .ret a => (.ret a, B)
  | .acc a k => (k (ex B a).1, (ex B a).2)
def outP : Pg α → Option α
  | .ret a => some a
  | .acc _ _ => none
theorem run_replay_ {B : BS} : ∀ (l pre : List En) (p : Pg α), Fits p l → run p ⟨pre ++ l, pre.length, false, B⟩ = run (resid p l) ⟨pre ++ l, (pre ++ l).length, false, B⟩
  | [], pre, p, _ => by simp [resid]
  | e :: l, pre, .ret a, h => h.elim
  | e :: l, pre, .acc a k, h => by
    have hx : access ⟨pre ++ e :: l, pre.length, false, B⟩ a = (some e, ⟨pre ++ e :: l, pre.length + 1, false, B⟩) := by
      unfold access
      simp
    rw [run_some hx]
    have := run_replay_ (B := B) l (pre ++ [e]) (k e) h
    simp only [List.append_assoc, List.cons_append, List.nil_append, List.length_append, List.length_cons, List.length_nil] at this ⊢
    rw [this]
    rfl
theorem access_end (a : Ac) (l : List En) (B : BS) : access ⟨l, l.length, false, B⟩ a = (some (ex B a).1, ⟨l ++ [(ex B a).1], l.length + 1, true, (ex B a).2⟩) := by
  unfold access
  simp
theorem access_over (a : Ac) (l : List En) (B : BS) : access ⟨l, l.length, true, B⟩ a = (none, ⟨l, l.length, true, B⟩) := by
  unfold access
  simp
/-- A step of a body that went through its log: one more access, or its end. -/
theorem run_step {B : BS} {l : List En} {p : Pg α} (h : Fits p l) :
    run p ⟨l, 0, false, B⟩ = match resid p l with
      | .ret a => (some a, ⟨l, l.length, false, B⟩)
      | .acc a k => (outP (k (ex B a).1), ⟨l ++ [(ex B a).1], l.length + 1, true, (ex B a).2⟩) := by
  have h1 := run_replay_ (B := B) l [] p h
  simp only [List.nil_append, List.length_nil] at h1
  rw [h1]
  cases hr : resid p l with
  | ret a => rfl
  | acc a k =>
    rw [run_some (access_end a l B)]
    show run (k (ex B a).1) _ = (outP (k (ex B a).1), _)
    cases hk : k (ex B a).1 with
    | ret b => rfl
    | acc x k' =>
      have := access_over x (l ++ [(ex B a).1]) (ex B a).2
      rw [List.length_append] at this
      exact run_none this
theorem fits_snoc {e : En} : ∀ {l : List En} {p : Pg α}, Fits p l → isRet (resid p l) = false → Fits p (l ++ [e])
  | [], .ret a, _, h => by simp [resid, isRet] at h
  | [], .acc a k, _, _ => by simp [Fits]
  | x :: l, .ret a, h, _ => h.elim
  | x :: l, .acc a k, h, hr => fits_snoc (l := l) (p := k x) h hr
theorem resid_snoc {e : En} : ∀ {l : List En} {p : Pg α} {a : Ac} {k : En → Pg α}, Fits p l → resid p l = .acc a k → resid p (l ++ [e]) = k e
  | [], .ret a, _, _, _, h => by simp [resid] at h
  | [], .acc a k, _, _, _, h => by
    simp only [resid] at h
    injection h with _ h
    subst h
    simp [resid]
  | x :: l, .ret a, _, _, h, _ => h.elim
  | x :: l, .acc a k, _, _, h, hr => resid_snoc (l := l) (p := k x) h hr
end Go.Proofs.YtkldpdldjalpeaaGreatDoor.Th

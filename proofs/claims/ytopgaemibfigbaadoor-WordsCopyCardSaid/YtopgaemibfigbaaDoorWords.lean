/-
  Package words by contracts: an arena at block a, its words in block b.
-/
import Derived.Test.YtopgaemibfigbaaDoorClone
namespace Go.Proofs.YtopgaemibfigbaaDoor
open Go.RowKit

/-- An arena: its struct is block a, its words are the head of block b. -/
structure Arena (w : World) (a b : Nat) (ws : List Int) (cnt : Int) : Prop where
  hdr : ∃ (c : Nat) (k at_ o nw : Int) (d : Bool), Blk w a 53 #[.slice (some ⟨b, 0, none⟩) ws.length c, .int .i64 cnt, .int .i64 k, .int .i64 at_, .int .u64 o, .int .u64 nw, .bool d]
  row : Heads w b 35 (ws.map (.int .u64))

theorem Arena.ne {w : World} {a b : Nat} {ws : List Int} {cnt : Int} (h : Arena w a b ws cnt) : a ≠ b := by
  obtain ⟨c, k, at_, o, nw, d, hb⟩ := h.hdr
  obtain ⟨cs, hr, _⟩ := h.row
  exact hb.ne_ hr (by decide)
theorem Arena.upd {w w' : World} {a b : Nat} {ws : List Int} {cnt : Int} {S : List Nat} (h : Arena w a b ws cnt) (hu : Upd S w w') (ha : a ∉ S) (hb : b ∉ S) : Arena w' a b ws cnt := by
  obtain ⟨c, k, at_, o, nw, d, h1⟩ := h.hdr
  exact ⟨⟨c, k, at_, o, nw, d, h1.upd hu ha⟩, h.row.upd hu hb⟩
theorem Arena.lt {w : World} {a b : Nat} {ws : List Int} {cnt : Int} (h : Arena w a b ws cnt) : a < w.heap.size ∧ b < w.heap.size := by
  obtain ⟨c, k, at_, o, nw, d, h1⟩ := h.hdr
  exact ⟨h1.lt, h.row.lt⟩

/-- The struct's cells behind an access. -/
def Noted (w w' : World) (a : Nat) (s : Value) (cnt : Int) : Prop := (∃ (k at_ o nw : Int) (d : Bool), Blk w' a 53 #[s, .int .i64 (cnt + 1), .int .i64 k, .int .i64 at_, .int .u64 o, .int .u64 nw, .bool d]) ∧ Upd [a] w w'

set_option maxHeartbeats 400000 in
theorem note_any (a : Nat) (s : Value) (cnt k0 at0 o0 nw0 : Int) (d0 : Bool) (k at_ o nw : Int) (d : Bool) (w : World) (hk : 1 ≤ k ∧ k ≤ 3) (hc : 0 ≤ cnt ∧ cnt ≤ 1000000)
    (hb : Blk w a 53 #[s, .int .i64 cnt, .int .i64 k0, .int .i64 at0, .int .u64 o0, .int .u64 nw0, .bool d0]) :
    Calls Tryd.prog 21 #[.pointer (some ⟨a, 0, none⟩), .agg #[.int .i64 k, .int .i64 at_, .int .u64 o, .int .u64 nw, .bool d]] w fun e w' => e = .returned (.tuple #[]) ∧ Noted w w' a s cnt := by
  have HB := hb
  have fa := hb.facts

  have hk' : k = 1 ∨ k = 2 ∨ k = 3 := by omega
  rcases hk' with rfl | rfl | rfl
  all_goals
    clear hk
    go_enter Tryd.func21, Tryd.ntmps21
    go_wp2
    go_end0
    refine ⟨rfl, ?_, ?_⟩
    · iterate 5 apply Exists.intro
      iterate 8 (first | (with_reducible exact HB) | (with_reducible apply Blk.alloc) | (with_reducible apply Blk.set_eq))
      all_goals rfl
    · repeat (first | (with_reducible exact Upd.refl _ _) | (with_reducible refine Upd.alloc ?_ _) | (with_reducible refine Upd.setCell ?_ (by simp) _))


theorem Heads.set {w : World} {b : Nat} {e : TypeId} {xs : List Value} (h : Heads w b e xs) (i : Nat) (u : Value) (hi : i < xs.length) : Heads (w.setCell ⟨b, i, none⟩ u) b e (xs.set i u) := by
  obtain ⟨cs, h1, h2⟩ := h
  refine ⟨_, h1.set_ i u, ?_⟩
  have hc : i < cs.size := by
    have := congrArg List.length h2
    simp at this
    omega
  rw [List.length_set, Array.toList_setIfInBounds, List.take_set, h2]

theorem word_nil (i : Int) (w : World) : Calls Tryd.prog 20 #[.pointer none, .int .i64 i] w fun e w' => e = .returned (.tuple #[.pointer none, .iface 57 (.int .i64 1)]) ∧ w = w' := by
  go_enter Tryd.func20, Tryd.ntmps20
  go_wp2
  go_ret2
  exact ⟨rfl, rfl⟩

set_option maxHeartbeats 400000 in
theorem word_ok (a b n c : Nat) (i : Int) (w : World) (hc : w.cell? ⟨a, 0, none⟩ = some (.slice (some ⟨b, 0, none⟩) n c)) (h0 : 0 ≤ i) (h1 : i < n) :
    Calls Tryd.prog 20 #[.pointer (some ⟨a, 0, none⟩), .int .i64 i] w fun e w' => e = .returned (.tuple #[.pointer (some ⟨b, i.toNat, none⟩), .nilIface]) ∧ w = w' := by
  have e1 := @Lib.run_eql_slice_nil Tryd.prog
  go_enter Tryd.func20, Tryd.ntmps20
  go_wp2
  go_ret2
  exact ⟨rfl, rfl⟩

/-- A place with an error's number, at a new block. -/
def IsFault (w w' : World) (v : Value) (at_ k : Int) : Prop := ∃ g, v = .iface 63 (.pointer (some ⟨g, 0, none⟩)) ∧ w.heap.size ≤ g ∧ Blk w' g 67 #[.int .i64 at_, .int .i64 k]

set_option maxHeartbeats 400000 in
theorem word_out (a b n c : Nat) (i : Int) (w : World) (hc : w.cell? ⟨a, 0, none⟩ = some (.slice (some ⟨b, 0, none⟩) n c)) (h0 : i < 0 ∨ n ≤ i) :
    Calls Tryd.prog 20 #[.pointer (some ⟨a, 0, none⟩), .int .i64 i] w fun e w' => ∃ v, e = .returned (.tuple #[.pointer none, v]) ∧ IsFault w w' v i 3 ∧ Upd [] w w' := by
  have e1 := @Lib.run_eql_slice_nil Tryd.prog
  go_enter Tryd.func20, Tryd.ntmps20
  go_wp2
  all_goals
    go_ret2
    exact ⟨_, rfl, ⟨_, rfl, Nat.le_refl _, Blk.new _ _ _⟩, (Upd.refl _ _).alloc _⟩

end Go.Proofs.YtopgaemibfigbaaDoor

/-
  Package words by contracts: New, Words, Count, and an arena that is none; the chapter's example.
-/
import Derived.Test.YtopgaemibfigbaaDoorWords2
namespace Go.Proofs.YtopgaemibfigbaaDoor
open Go.RowKit

theorem Blk.new_at (w : World) (t : TypeId) (cs : Array Value) (g : Nat) (h : g = w.heap.size) : Blk (w.alloc (.cells cs t)) g t cs := h ▸ Blk.new w t cs

set_option maxHeartbeats 400000 in
theorem new_ok (n : Int) (w : World) (h1 : 1 ≤ n) (h2 : n ≤ 16384) :
    Calls Tryd.prog 11 #[.int .i64 n] w fun e w' => ∃ a b, e = .returned (.tuple #[.pointer (some ⟨a, 0, none⟩), .nilIface]) ∧ Arena w' a b (List.replicate n.toNat 0) 0 ∧ w.heap.size ≤ a ∧ w.heap.size ≤ b ∧ Upd [] w w' := by
  obtain ⟨i0, hi0, hz0, hz1, hz2⟩ := info_parts u64_info
  have hmk := fun W : World => run_make (P := Tryd.prog) W 28 35 i0 _ Tryd.underlying28 hi0 hz0 .i64 .i64 n n (by omega) (by omega) (by rw [hz2]; omega) (by omega)
  clear hi0 hz0 hz2
  go_enter Tryd.func11, Tryd.ntmps11
  go_wp2
  go_ret2
  refine ⟨_, w.heap.size, rfl, ⟨⟨n.toNat, 0, 0, 0, 0, false, ?_⟩, ?_⟩, by simp, by simp, ((Upd.refl _ _).alloc _).alloc _⟩
  · rw [List.length_replicate]
    exact Blk.new_at _ _ _ _ (by simp)
  · refine ⟨_, (Blk.new w _ _).alloc _, ?_⟩
    rw [toList_madeCells_one]
    simp

set_option maxHeartbeats 400000 in
theorem words_ok (a b : Nat) (ws : List Int) (cnt : Int) (w : World) (h : Arena w a b ws cnt) (hl : ws.length ≤ 1000000) :
    Calls Tryd.prog 8 #[.pointer (some ⟨a, 0, none⟩)] w fun e w' => ∃ g c', e = .returned (.slice (some ⟨g, 0, none⟩) ws.length c') ∧ ws.length ≤ c' ∧ w.heap.size ≤ g ∧ Heads w' g 35 (ws.map (.int .u64)) ∧ Upd [] w w' := by
  obtain ⟨c, f0⟩ := h.facts
  have H := clone_any b c (ws.map (.int .u64)) w h.row (by simpa using hl) (by intro u hu; simp at hu; obtain ⟨x, _, rfl⟩ := hu; rfl)
  rw [List.length_map] at H
  go_enter Tryd.func8, Tryd.ntmps8
  go_wp2_with ((go_at_call 16); (refine H.mono ?_); (rintro e w1 ⟨g, c', rfl, h1, h2, h3, h4⟩))
  go_ret
  exact ⟨g, c', rfl, h1, h2, h3, h4⟩

theorem words_nil (w : World) : Calls Tryd.prog 8 #[.pointer none] w fun e w' => e = .returned (.slice none 0 0) ∧ w = w' := by
  go_enter Tryd.func8, Tryd.ntmps8
  go_wp2_with fail
  go_ret
  exact ⟨rfl, rfl⟩

theorem count_nil (w : World) : Calls Tryd.prog 9 #[.pointer none] w fun e w' => e = .returned (.int .i64 0) ∧ w = w' := by
  go_enter Tryd.func9, Tryd.ntmps9
  go_wp2_with fail
  go_ret
  exact ⟨rfl, rfl⟩

theorem count_ok (a b : Nat) (ws : List Int) (cnt : Int) (w : World) (h : Arena w a b ws cnt) : Calls Tryd.prog 9 #[.pointer (some ⟨a, 0, none⟩)] w fun e w' => e = .returned (.int .i64 cnt) ∧ w = w' := by
  have f1 : w.cell? ⟨a, 1, none⟩ = some (.int .i64 cnt) := by obtain ⟨c, k, at_, o, nw, d, hb⟩ := h.hdr; rw [hb.cell]; rfl
  go_enter Tryd.func9, Tryd.ntmps9
  go_wp2_with fail
  go_ret
  exact ⟨rfl, rfl⟩


theorem copy_nil (w : World) : Calls Tryd.prog 6 #[.pointer none] w fun e w' => e = .returned (.pointer none) ∧ w = w' := by
  go_enter Tryd.func6, Tryd.ntmps6
  go_wp2_with fail
  go_ret
  exact ⟨rfl, rfl⟩

set_option maxHeartbeats 1000000 in
theorem alive_ok (w : World) : Calls Tryd.prog 5 #[] w fun e w' => e = .returned (.bool true) ∧ Upd [] w w' := by
  go_enter Tryd.func5, Tryd.ntmps5
  go_wp2_with fail
  refine (new_ok 2 _ (by omega) (by omega)).mono ?_; rintro e w1 ⟨a, b, rfl, hA, ha, hb, u1⟩
  go_wp2_with fail
  refine (no_nil _).mono ?_; rintro e w' ⟨rfl, rfl⟩
  go_wp2_with fail
  refine (store_ok a b _ 0 1 7 0 _ hA (by omega) (by omega) rfl).mono ?_; rintro e w2 ⟨rfl, hA2, u2⟩
  go_wp2_with fail
  refine (no_nil _).mono ?_; rintro e w' ⟨rfl, rfl⟩
  go_wp2_with fail
  refine (cas_ok a b _ _ 1 7 8 7 _ hA2 (by omega) (by omega) rfl).mono ?_; rintro e w3 ⟨rfl, hA3, u3⟩
  go_wp2_with fail
  refine (cas_ok a b _ _ 1 7 9 8 _ hA3 (by omega) (by omega) rfl).mono ?_; rintro e w4 ⟨rfl, hA4, u4⟩
  go_wp2_with fail
  refine (load_ok a b _ _ 1 8 _ hA4 (by omega) (by omega) rfl).mono ?_; rintro e w5 ⟨rfl, hA5, u5⟩
  go_wp2_with fail
  refine (no_nil _).mono ?_; rintro e w' ⟨rfl, rfl⟩
  go_wp2_with fail
  refine (no_nil _).mono ?_; rintro e w' ⟨rfl, rfl⟩
  go_wp2_with fail
  refine (no_nil _).mono ?_; rintro e w' ⟨rfl, rfl⟩
  go_wp2_with fail
  refine (count_ok a b _ _ _ hA5).mono ?_; rintro e w' ⟨rfl, rfl⟩
  go_wp2_with fail
  go_ret
  refine ⟨rfl, u1.trans' (u2.trans (u3.trans (u4.trans (u5.mono (by simp))))) ?_⟩
  intro x hx
  simp at hx
  omega
end Go.Proofs.YtopgaemibfigbaaDoor

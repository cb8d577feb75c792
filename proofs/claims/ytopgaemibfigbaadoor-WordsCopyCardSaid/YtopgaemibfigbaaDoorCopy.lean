/-
  (*words.Arena).Copy by contract.
-/
import Derived.Test.YtopgaemibfigbaaDoorPlay
import Derived.Deep.RegionHeld3
import Derived.Deep.DrawnRows
namespace Go.Proofs.YtopgaemibfigbaaDoor
open Go.RowKit
attribute [local go_sem ↓] Go.wp_at_zero Go.wp_at_succ

set_option maxHeartbeats 1000000 in
theorem copy_ok (a b : Nat) (ws : List Int) (cnt : Int) (w : World) (h : Arena w a b ws cnt) (hl : ws.length ≤ 1000000) :
    Calls Tryd.prog 6 #[.pointer (some ⟨a, 0, none⟩)] w fun e w' => ∃ a2 b2, e = .returned (.pointer (some ⟨a2, 0, none⟩)) ∧ Arena w' a2 b2 ws cnt ∧ w.heap.size ≤ a2 ∧ w.heap.size ≤ b2 ∧ Upd [] w w' := by
  have e1 := @Lib.run_eql_slice_nil Tryd.prog
  have hH := Lib.hid h
  obtain ⟨c, k, at_, o, nw, d, hb⟩ := h.hdr
  have H := fun W (hr : Heads W b 35 (ws.map (.int .u64))) => clone_any b c (ws.map (.int .u64)) W hr (by simpa using hl) (by intro u hu; simp at hu; obtain ⟨x, _, rfl⟩ := hu; rfl)
  simp only [List.length_map] at H
  have HC := Lib.hid H
  clear H h
  have fa := hb.facts
  go_enter Tryd.func6, Tryd.ntmps6
  go_wp2_with fail
  go_region_held3 (fun w' => w'.cell? ⟨a, 0, none⟩ = some (.slice (some ⟨b, 0, none⟩) ws.length c) ∧ w'.cell? ⟨a, 1, none⟩ = some (.int .i64 cnt) ∧ w'.cell? ⟨a, 2, none⟩ = some (.int .i64 k) ∧ w'.cell? ⟨a, 3, none⟩ = some (.int .i64 at_) ∧ w'.cell? ⟨a, 4, none⟩ = some (.int .u64 o) ∧ w'.cell? ⟨a, 5, none⟩ = some (.int .u64 nw) ∧ w'.cell? ⟨a, 6, none⟩ = some (.bool d)) (first | (simp [fa]; done) | (simp [hk1, fa]; done) | (simp [World.cell?_alloc_past, hk1, hk2, fa]; done))
    (first | (go_at_call 16; refine (HC.out _ ?_).mono ?_; (exact hH.out.row); rintro e w1 ⟨g, c', rfl, h1, h2, h3, h4⟩; have hk1 : ∀ i, w1.cell? ⟨a, i, none⟩ = w.cell? ⟨a, i, none⟩ := fun i => h4.cell (p := ⟨a, i, none⟩) (by simp [fa]) (by simp); have hk2 : a < w1.heap.size := Nat.lt_of_lt_of_le (by simp [fa]) h4.size))
  go_wp2_with fail
  go_ret
  have hg : w.heap.size ≤ g := h2
  have hz : w.heap.size ≤ w1.heap.size := h4.size
  exact ⟨w1.heap.size, g, rfl, ⟨⟨c', k, at_, o, nw, d, Blk.new _ _ _⟩, h3.upd ((Upd.refl [] _).alloc _) (by simp)⟩, hz, hg, (((Upd.refl [] w).drew).trans h4).alloc _⟩
end Go.Proofs.YtopgaemibfigbaaDoor

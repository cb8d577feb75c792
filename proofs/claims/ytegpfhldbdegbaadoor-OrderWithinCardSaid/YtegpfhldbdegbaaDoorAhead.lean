/-
  order.rank, order.ahead: by contracts.
-/
import Derived.Test.YtegpfhldbdegbaaDoorCmp
import Derived.Test.YtegpfhldbdegbaaDoorPost
import Derived.Deep.RegionHeld3
import Derived.Deep.DrawnRows
import Derived.Deep.QuietTactic
import Derived.BigQuiet
set_option linter.unusedVariables false
set_option linter.unusedSimpArgs false
namespace Go.Proofs.YtegpfhldbdegbaaDoor
open Go.RowKit
/-- What rank says. -/
def rk (d : Bool) : Int := if d then 0 else 1
theorem rank_ok (a b c : Int) (d : Bool) (e f : Int) (w : World) : Calls Tryd.prog 29 #[.agg #[.int .i64 a, .int .i64 b, .int .i64 c, .bool d, .int .i64 e, .int .i64 f]] w fun e w' => e = .returned (.int .i64 (rk d)) ∧ Upd [] w w' := by
  cases d with
  | true =>
    go_enter Tryd.func29, Tryd.ntmps29
    go_wp2_with fail
    go_ret
    exact ⟨rfl, (Upd.refl [] w).alloc _⟩
  | false =>
    go_enter Tryd.func29, Tryd.ntmps29
    go_wp2_with fail
    go_ret
    exact ⟨rfl, (Upd.refl [] w).alloc _⟩
/-- One attempt's cells at place k of the slice. -/
def AttAt (w : World) (A : Option Addr) (k : Nat) (v : Int × Int × Int × Bool × Int × Int) : Prop := ∃ ad, A = some ad ∧ w.cell? (ad.add (k * 6)) = some (.int .i64 v.1) ∧ w.cell? (ad.add (k * 6 + 1)) = some (.int .i64 v.2.1) ∧ w.cell? (ad.add (k * 6 + 2)) = some (.int .i64 v.2.2.1) ∧ w.cell? (ad.add (k * 6 + 3)) = some (.bool v.2.2.2.1) ∧ w.cell? (ad.add (k * 6 + 4)) = some (.int .i64 v.2.2.2.2.1) ∧ w.cell? (ad.add (k * 6 + 5)) = some (.int .i64 v.2.2.2.2.2)
set_option maxHeartbeats 2000000 in
theorem ahead_ok (ad : Addr) (n c i j : Nat) (hi : i < n) (hj : j < n) (a1 a2 a3 : Int) (a4 : Bool) (a5 a6 b1 b2 b3 : Int) (b4 : Bool) (b5 b6 : Int) (w : World)
  (x1 : w.cell? (ad.add (i * 6)) = some (.int .i64 a1)) (x2 : w.cell? ⟨(ad.add (i * 6)).block, (ad.add (i * 6)).off + 1, none⟩ = some (.int .i64 a2)) (x3 : w.cell? ⟨(ad.add (i * 6)).block, (ad.add (i * 6)).off + 2, none⟩ = some (.int .i64 a3)) (x4 : w.cell? ⟨(ad.add (i * 6)).block, (ad.add (i * 6)).off + 3, none⟩ = some (.bool a4)) (x5 : w.cell? ⟨(ad.add (i * 6)).block, (ad.add (i * 6)).off + 4, none⟩ = some (.int .i64 a5)) (x6 : w.cell? ⟨(ad.add (i * 6)).block, (ad.add (i * 6)).off + 5, none⟩ = some (.int .i64 a6))
  (y1 : w.cell? (ad.add (j * 6)) = some (.int .i64 b1)) (y2 : w.cell? ⟨(ad.add (j * 6)).block, (ad.add (j * 6)).off + 1, none⟩ = some (.int .i64 b2)) (y3 : w.cell? ⟨(ad.add (j * 6)).block, (ad.add (j * 6)).off + 2, none⟩ = some (.int .i64 b3)) (y4 : w.cell? ⟨(ad.add (j * 6)).block, (ad.add (j * 6)).off + 3, none⟩ = some (.bool b4)) (y5 : w.cell? ⟨(ad.add (j * 6)).block, (ad.add (j * 6)).off + 4, none⟩ = some (.int .i64 b5)) (y6 : w.cell? ⟨(ad.add (j * 6)).block, (ad.add (j * 6)).off + 5, none⟩ = some (.int .i64 b6)) :
  Calls Tryd.prog 20 #[.slice (some ad) n c, .int .i64 i, .int .i64 j] w fun e w' => e = .returned (.bool (decide (orL [cmpI a3 b3, cmpI (rk a4) (rk b4), cmpI a6 b6, cmpI i j] < 0))) ∧ Upd [] w w' := by
  have n1 := World.new_ne w _ x1
  have n2 := World.new_ne w _ x2
  have n3 := World.new_ne w _ x3
  have n4 := World.new_ne w _ x4
  have n5 := World.new_ne w _ x5
  have n6 := World.new_ne w _ x6
  have n7 := World.new_ne w _ y1
  have n8 := World.new_ne w _ y2
  have n9 := World.new_ne w _ y3
  have n10 := World.new_ne w _ y4
  have n11 := World.new_ne w _ y5
  have n12 := World.new_ne w _ y6
  go_enter Tryd.func20, Tryd.ntmps20
  go_wp2_with fail
  go_region_held3 (fun W => W.cell? (ad.add (i * 6)) = some (.int .i64 a1) ∧ W.cell? ⟨(ad.add (i * 6)).block, (ad.add (i * 6)).off + 1, none⟩ = some (.int .i64 a2) ∧ W.cell? ⟨(ad.add (i * 6)).block, (ad.add (i * 6)).off + 2, none⟩ = some (.int .i64 a3) ∧ W.cell? ⟨(ad.add (i * 6)).block, (ad.add (i * 6)).off + 3, none⟩ = some (.bool a4) ∧ W.cell? ⟨(ad.add (i * 6)).block, (ad.add (i * 6)).off + 4, none⟩ = some (.int .i64 a5) ∧ W.cell? ⟨(ad.add (i * 6)).block, (ad.add (i * 6)).off + 5, none⟩ = some (.int .i64 a6) ∧ W.cell? (ad.add (j * 6)) = some (.int .i64 b1) ∧ W.cell? ⟨(ad.add (j * 6)).block, (ad.add (j * 6)).off + 1, none⟩ = some (.int .i64 b2) ∧ W.cell? ⟨(ad.add (j * 6)).block, (ad.add (j * 6)).off + 2, none⟩ = some (.int .i64 b3) ∧ W.cell? ⟨(ad.add (j * 6)).block, (ad.add (j * 6)).off + 3, none⟩ = some (.bool b4) ∧ W.cell? ⟨(ad.add (j * 6)).block, (ad.add (j * 6)).off + 4, none⟩ = some (.int .i64 b5) ∧ W.cell? ⟨(ad.add (j * 6)).block, (ad.add (j * 6)).off + 5, none⟩ = some (.int .i64 b6)) (go_keep) (fail)
  all_goals go_wp2_with fail
  all_goals clear n1 n2 n3 n4 n5 n6 n7 n8 n9 n10 n11 n12 x1 x2 x3 x4 x5 x6 y1 y2 y3 y4 y5 y6
  · have bF : Blk (((w.alloc (.cells #[.int .i64 a1, .int .i64 a2, .int .i64 a3, .bool a4, .int .i64 a5, .int .i64 a6] 38)).alloc (.cells #[.int .i64 b1, .int .i64 b2, .int .i64 b3, .bool b4, .int .i64 b5, .int .i64 b6] 38)).drew) w.heap.size 38 #[.int .i64 a1, .int .i64 a2, .int .i64 a3, .bool a4, .int .i64 a5, .int .i64 a6] := ((Blk.new w 38 _).alloc _).drew
    have bL : Blk (((w.alloc (.cells #[.int .i64 a1, .int .i64 a2, .int .i64 a3, .bool a4, .int .i64 a5, .int .i64 a6] 38)).alloc (.cells #[.int .i64 b1, .int .i64 b2, .int .i64 b3, .bool b4, .int .i64 b5, .int .i64 b6] 38)).drew) (w.heap.size + 1) 38 #[.int .i64 b1, .int .i64 b2, .int .i64 b3, .bool b4, .int .i64 b5, .int .i64 b6] := by have := Blk.new (w.alloc (.cells #[.int .i64 a1, .int .i64 a2, .int .i64 a3, .bool a4, .int .i64 a5, .int .i64 a6] 38)) 38 #[.int .i64 b1, .int .i64 b2, .int .i64 b3, .bool b4, .int .i64 b5, .int .i64 b6]; rw [show (w.alloc (.cells #[.int .i64 a1, .int .i64 a2, .int .i64 a3, .bool a4, .int .i64 a5, .int .i64 a6] 38)).heap.size = w.heap.size + 1 by simp] at this; exact this.drew
    have hz : (((w.alloc (.cells #[.int .i64 a1, .int .i64 a2, .int .i64 a3, .bool a4, .int .i64 a5, .int .i64 a6] 38)).alloc (.cells #[.int .i64 b1, .int .i64 b2, .int .i64 b3, .bool b4, .int .i64 b5, .int .i64 b6] 38)).drew).heap.size = w.heap.size + 2 := by simp
    have v0 : Upd [] (((w.alloc (.cells #[.int .i64 a1, .int .i64 a2, .int .i64 a3, .bool a4, .int .i64 a5, .int .i64 a6] 38)).alloc (.cells #[.int .i64 b1, .int .i64 b2, .int .i64 b3, .bool b4, .int .i64 b5, .int .i64 b6] 38)).drew) (((w.alloc (.cells #[.int .i64 a1, .int .i64 a2, .int .i64 a3, .bool a4, .int .i64 a5, .int .i64 a6] 38)).alloc (.cells #[.int .i64 b1, .int .i64 b2, .int .i64 b3, .bool b4, .int .i64 b5, .int .i64 b6] 38)).drew).drew := (Upd.refl [] _).drew
    have vv : Upd [] w (((w.alloc (.cells #[.int .i64 a1, .int .i64 a2, .int .i64 a3, .bool a4, .int .i64 a5, .int .i64 a6] 38)).alloc (.cells #[.int .i64 b1, .int .i64 b2, .int .i64 b3, .bool b4, .int .i64 b5, .int .i64 b6] 38)).drew) := (((Upd.refl [] _).alloc _).alloc _).drew
    have kp : ∀ W, Upd [] (((w.alloc (.cells #[.int .i64 a1, .int .i64 a2, .int .i64 a3, .bool a4, .int .i64 a5, .int .i64 a6] 38)).alloc (.cells #[.int .i64 b1, .int .i64 b2, .int .i64 b3, .bool b4, .int .i64 b5, .int .i64 b6] 38)).drew) W → W.cell? ⟨w.heap.size, 0, none⟩ = some (.int .i64 a1) ∧ W.cell? ⟨w.heap.size, 1, none⟩ = some (.int .i64 a2) ∧ W.cell? ⟨w.heap.size, 2, none⟩ = some (.int .i64 a3) ∧ W.cell? ⟨w.heap.size, 3, none⟩ = some (.bool a4) ∧ W.cell? ⟨w.heap.size, 4, none⟩ = some (.int .i64 a5) ∧ W.cell? ⟨w.heap.size, 5, none⟩ = some (.int .i64 a6) ∧ W.cell? ⟨w.heap.size + 1, 0, none⟩ = some (.int .i64 b1) ∧ W.cell? ⟨w.heap.size + 1, 1, none⟩ = some (.int .i64 b2) ∧ W.cell? ⟨w.heap.size + 1, 2, none⟩ = some (.int .i64 b3) ∧ W.cell? ⟨w.heap.size + 1, 3, none⟩ = some (.bool b4) ∧ W.cell? ⟨w.heap.size + 1, 4, none⟩ = some (.int .i64 b5) ∧ W.cell? ⟨w.heap.size + 1, 5, none⟩ = some (.int .i64 b6) := by
      intro W hu
      have b1 := bF.upd hu (by simp)
      have b2 := bL.upd hu (by simp)
      refine ⟨b1.cell _, b1.cell _, b1.cell _, b1.cell _, b1.cell _, b1.cell _, b2.cell _, b2.cell _, b2.cell _, b2.cell _, b2.cell _, b2.cell _⟩
    have KP := Lib.hid kp
    have VV := Lib.hid vv
    clear kp bF bL vv
    generalize (((w.alloc (.cells #[.int .i64 a1, .int .i64 a2, .int .i64 a3, .bool a4, .int .i64 a5, .int .i64 a6] 38)).alloc (.cells #[.int .i64 b1, .int .i64 b2, .int .i64 b3, .bool b4, .int .i64 b5, .int .i64 b6] 38)).drew) = W0 at *
    go_region_held3 (fun W => W.cell? ⟨w.heap.size, 0, none⟩ = some (.int .i64 a1) ∧ W.cell? ⟨w.heap.size, 1, none⟩ = some (.int .i64 a2) ∧ W.cell? ⟨w.heap.size, 2, none⟩ = some (.int .i64 a3) ∧ W.cell? ⟨w.heap.size, 3, none⟩ = some (.bool a4) ∧ W.cell? ⟨w.heap.size, 4, none⟩ = some (.int .i64 a5) ∧ W.cell? ⟨w.heap.size, 5, none⟩ = some (.int .i64 a6) ∧ W.cell? ⟨w.heap.size + 1, 0, none⟩ = some (.int .i64 b1) ∧ W.cell? ⟨w.heap.size + 1, 1, none⟩ = some (.int .i64 b2) ∧ W.cell? ⟨w.heap.size + 1, 2, none⟩ = some (.int .i64 b3) ∧ W.cell? ⟨w.heap.size + 1, 3, none⟩ = some (.bool b4) ∧ W.cell? ⟨w.heap.size + 1, 4, none⟩ = some (.int .i64 b5) ∧ W.cell? ⟨w.heap.size + 1, 5, none⟩ = some (.int .i64 b6)) (first | exact KP.out _ (v2.alloc _) | exact KP.out _ v2 | exact KP.out _ v1 | exact KP.out _ v0)
      (first | (go_at_call 28; refine (compare_ok _ _ _).mono ?_; rintro e w' ⟨rfl, rfl⟩) | (go_at_call 29; refine (rank_ok _ _ _ _ _ _ _).mono ?_; rintro e p1 ⟨rfl, u1⟩; first | have v2 := v1.trans u1 | have v1 := v0.trans u1) | (go_at_call 27; refine (or_ok _ 4 [cmpI a3 b3, cmpI (rk a4) (rk b4), cmpI a6 b6, cmpI i j] _ (Blk.new _ _ _) (by simp)).mono ?_; rintro e w' ⟨rfl, rfl⟩))
    go_wp2_with fail
    go_ret
    exact ⟨rfl, VV.out.trans (v2.alloc _)⟩
  · have bF : Blk (((w.alloc (.cells #[.int .i64 b1, .int .i64 b2, .int .i64 b3, .bool b4, .int .i64 b5, .int .i64 b6] 38)).alloc (.cells #[.int .i64 a1, .int .i64 a2, .int .i64 a3, .bool a4, .int .i64 a5, .int .i64 a6] 38)).drew) w.heap.size 38 #[.int .i64 b1, .int .i64 b2, .int .i64 b3, .bool b4, .int .i64 b5, .int .i64 b6] := ((Blk.new w 38 _).alloc _).drew
    have bL : Blk (((w.alloc (.cells #[.int .i64 b1, .int .i64 b2, .int .i64 b3, .bool b4, .int .i64 b5, .int .i64 b6] 38)).alloc (.cells #[.int .i64 a1, .int .i64 a2, .int .i64 a3, .bool a4, .int .i64 a5, .int .i64 a6] 38)).drew) (w.heap.size + 1) 38 #[.int .i64 a1, .int .i64 a2, .int .i64 a3, .bool a4, .int .i64 a5, .int .i64 a6] := by have := Blk.new (w.alloc (.cells #[.int .i64 b1, .int .i64 b2, .int .i64 b3, .bool b4, .int .i64 b5, .int .i64 b6] 38)) 38 #[.int .i64 a1, .int .i64 a2, .int .i64 a3, .bool a4, .int .i64 a5, .int .i64 a6]; rw [show (w.alloc (.cells #[.int .i64 b1, .int .i64 b2, .int .i64 b3, .bool b4, .int .i64 b5, .int .i64 b6] 38)).heap.size = w.heap.size + 1 by simp] at this; exact this.drew
    have hz : (((w.alloc (.cells #[.int .i64 b1, .int .i64 b2, .int .i64 b3, .bool b4, .int .i64 b5, .int .i64 b6] 38)).alloc (.cells #[.int .i64 a1, .int .i64 a2, .int .i64 a3, .bool a4, .int .i64 a5, .int .i64 a6] 38)).drew).heap.size = w.heap.size + 2 := by simp
    have v0 : Upd [] (((w.alloc (.cells #[.int .i64 b1, .int .i64 b2, .int .i64 b3, .bool b4, .int .i64 b5, .int .i64 b6] 38)).alloc (.cells #[.int .i64 a1, .int .i64 a2, .int .i64 a3, .bool a4, .int .i64 a5, .int .i64 a6] 38)).drew) (((w.alloc (.cells #[.int .i64 b1, .int .i64 b2, .int .i64 b3, .bool b4, .int .i64 b5, .int .i64 b6] 38)).alloc (.cells #[.int .i64 a1, .int .i64 a2, .int .i64 a3, .bool a4, .int .i64 a5, .int .i64 a6] 38)).drew).drew := (Upd.refl [] _).drew
    have vv : Upd [] w (((w.alloc (.cells #[.int .i64 b1, .int .i64 b2, .int .i64 b3, .bool b4, .int .i64 b5, .int .i64 b6] 38)).alloc (.cells #[.int .i64 a1, .int .i64 a2, .int .i64 a3, .bool a4, .int .i64 a5, .int .i64 a6] 38)).drew) := (((Upd.refl [] _).alloc _).alloc _).drew
    have kp : ∀ W, Upd [] (((w.alloc (.cells #[.int .i64 b1, .int .i64 b2, .int .i64 b3, .bool b4, .int .i64 b5, .int .i64 b6] 38)).alloc (.cells #[.int .i64 a1, .int .i64 a2, .int .i64 a3, .bool a4, .int .i64 a5, .int .i64 a6] 38)).drew) W → W.cell? ⟨w.heap.size, 0, none⟩ = some (.int .i64 b1) ∧ W.cell? ⟨w.heap.size, 1, none⟩ = some (.int .i64 b2) ∧ W.cell? ⟨w.heap.size, 2, none⟩ = some (.int .i64 b3) ∧ W.cell? ⟨w.heap.size, 3, none⟩ = some (.bool b4) ∧ W.cell? ⟨w.heap.size, 4, none⟩ = some (.int .i64 b5) ∧ W.cell? ⟨w.heap.size, 5, none⟩ = some (.int .i64 b6) ∧ W.cell? ⟨w.heap.size + 1, 0, none⟩ = some (.int .i64 a1) ∧ W.cell? ⟨w.heap.size + 1, 1, none⟩ = some (.int .i64 a2) ∧ W.cell? ⟨w.heap.size + 1, 2, none⟩ = some (.int .i64 a3) ∧ W.cell? ⟨w.heap.size + 1, 3, none⟩ = some (.bool a4) ∧ W.cell? ⟨w.heap.size + 1, 4, none⟩ = some (.int .i64 a5) ∧ W.cell? ⟨w.heap.size + 1, 5, none⟩ = some (.int .i64 a6) := by
      intro W hu
      have b1 := bF.upd hu (by simp)
      have b2 := bL.upd hu (by simp)
      refine ⟨b1.cell _, b1.cell _, b1.cell _, b1.cell _, b1.cell _, b1.cell _, b2.cell _, b2.cell _, b2.cell _, b2.cell _, b2.cell _, b2.cell _⟩
    have KP := Lib.hid kp
    have VV := Lib.hid vv
    clear kp bF bL vv
    generalize (((w.alloc (.cells #[.int .i64 b1, .int .i64 b2, .int .i64 b3, .bool b4, .int .i64 b5, .int .i64 b6] 38)).alloc (.cells #[.int .i64 a1, .int .i64 a2, .int .i64 a3, .bool a4, .int .i64 a5, .int .i64 a6] 38)).drew) = W0 at *
    go_region_held3 (fun W => W.cell? ⟨w.heap.size, 0, none⟩ = some (.int .i64 b1) ∧ W.cell? ⟨w.heap.size, 1, none⟩ = some (.int .i64 b2) ∧ W.cell? ⟨w.heap.size, 2, none⟩ = some (.int .i64 b3) ∧ W.cell? ⟨w.heap.size, 3, none⟩ = some (.bool b4) ∧ W.cell? ⟨w.heap.size, 4, none⟩ = some (.int .i64 b5) ∧ W.cell? ⟨w.heap.size, 5, none⟩ = some (.int .i64 b6) ∧ W.cell? ⟨w.heap.size + 1, 0, none⟩ = some (.int .i64 a1) ∧ W.cell? ⟨w.heap.size + 1, 1, none⟩ = some (.int .i64 a2) ∧ W.cell? ⟨w.heap.size + 1, 2, none⟩ = some (.int .i64 a3) ∧ W.cell? ⟨w.heap.size + 1, 3, none⟩ = some (.bool a4) ∧ W.cell? ⟨w.heap.size + 1, 4, none⟩ = some (.int .i64 a5) ∧ W.cell? ⟨w.heap.size + 1, 5, none⟩ = some (.int .i64 a6)) (first | exact KP.out _ (v2.alloc _) | exact KP.out _ v2 | exact KP.out _ v1 | exact KP.out _ v0)
      (first | (go_at_call 28; refine (compare_ok _ _ _).mono ?_; rintro e w' ⟨rfl, rfl⟩) | (go_at_call 29; refine (rank_ok _ _ _ _ _ _ _).mono ?_; rintro e p1 ⟨rfl, u1⟩; first | have v2 := v1.trans u1 | have v1 := v0.trans u1) | (go_at_call 27; refine (or_ok _ 4 [cmpI a3 b3, cmpI (rk a4) (rk b4), cmpI a6 b6, cmpI i j] _ (Blk.new _ _ _) (by simp)).mono ?_; rintro e w' ⟨rfl, rfl⟩))
    go_wp2_with fail
    go_ret
    exact ⟨rfl, VV.out.trans (v2.alloc _)⟩
end Go.Proofs.YtegpfhldbdegbaaDoor

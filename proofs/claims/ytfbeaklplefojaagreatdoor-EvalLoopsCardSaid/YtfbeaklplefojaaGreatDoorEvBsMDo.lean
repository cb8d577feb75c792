/-
  concordlaw08.do: a call of the program's state and of the document's.
-/
import Derived.Test.YtfbeaklplefojaaGreatDoorEvB9
import Derived.Test.YtfbeaklplefojaaGreatDoorEvB6
import Derived.Deep.RegionHeld3
set_option linter.unusedVariables false
namespace Go.Proofs.YtfbeaklplefojaaGreatDoor
open Go.RowKit Assoc MP
attribute [local go_sem] litStep_value

/-- Acts that lie in blocks of their own stay. -/
def KeepA (w w' : World) : Prop := ∀ g cs, Blk w g 79 cs → Blk w' g 79 cs
def MDoPost (B sb rb : Nat) (s : MS) (a : MAct) (w0 w : World) (e : Ending) (w' : World) : Prop := e = .returned (.bool true) ∧ MBoth B sb rb w' (stepM s a) ∧ Upd [] w0 w' ∧ KeepA w w'
set_option maxRecDepth 100000 in
set_option maxHeartbeats 8000000 in
theorem mdo_4 (B sb rb : Nat) (s : MS) (c x n : Int) (w0 w : World) (h : MBoth B sb rb w s) (hkb : kB x) (hg : Typed w0) (hB : w0.heap.size ≤ B) (hu0 : Upd [] w0 w) (hBw : B ≤ w.heap.size) :
    Calls Tryz.prog 31 #[.pointer (some ⟨sb, 0, none⟩), .pointer (some ⟨rb, 0, none⟩), .agg #[.int .i64 4, .int .i64 c, .int .i64 x, .int .i64 n]] w fun e w' => MDoPost B sb rb s (4, c, x, n) w0 w e w' := by
  obtain ⟨F, G, hs, hd, hdj⟩ := h
  have HS0 := Lib.hid hs
  have HD0 := Lib.hid hd
  have HJ0 := Lib.hid hdj
  have HG := Lib.hid hg
  have HB := Lib.hid hB
  have HU0 := Lib.hid hu0
  have HBW := Lib.hid hBw
  have HKB := Lib.hid hkb
  clear hs hd hdj hg hB hu0 hBw hkb
  go_enter Tryz.func31, Tryz.ntmps31
  go_wp2_with fail
  have UA : Hid (Upd [] w (w.alloc (.cells #[.int .i64 4, .int .i64 c, .int .i64 x, .int .i64 n] 79))) := Lib.hid ((Upd.refl [] w).alloc _)
  have YA : Hid (Blk (w.alloc (.cells #[.int .i64 4, .int .i64 c, .int .i64 x, .int .i64 n] 79)) w.heap.size 79 #[.int .i64 4, .int .i64 c, .int .i64 x, .int .i64 n]) := Lib.hid (Blk.new w _ _)
  generalize (w.alloc (.cells #[.int .i64 4, .int .i64 c, .int .i64 x, .int .i64 n] 79)) = w1 at *
  have HS1 := Lib.hid (HS0.out.upd0 UA.out)
  have HD1 := Lib.hid (HD0.out.upd0 UA.out)
  have HU1 := Lib.hid (HU0.out.trans UA.out)
  have HBW1 : Hid (B ≤ w1.heap.size) := Lib.hid (Nat.le_trans HBW.out UA.out.size)
  have KA1 : Hid (KeepA w w1) := Lib.hid (fun g cs h => h.upd UA.out (by simp))
  clear UA HS0 HD0 HU0 HBW
  have y0 : w1.cell? ⟨w.heap.size, 0, none⟩ = some (.int .i64 4) := YA.out.cell 0
  have y1 : w1.cell? ⟨w.heap.size, 1, none⟩ = some (.int .i64 c) := YA.out.cell 1
  have y2 : w1.cell? ⟨w.heap.size, 2, none⟩ = some (.int .i64 x) := YA.out.cell 2
  have y3 : w1.cell? ⟨w.heap.size, 3, none⟩ = some (.int .i64 n) := YA.out.cell 3
  go_wp2_with fail
  refine (m_ceil B sb F s c x w1 HS1.out).mono ?_; rintro e w2 ⟨va, rfl, ev, u2⟩
  have HS2 := Lib.hid (HS1.out.upd0 u2)
  have HD2 := Lib.hid (HD1.out.upd0 u2)
  have HU2 := Lib.hid (HU1.out.trans u2)
  have YB : Hid (Blk w2 w.heap.size 79 #[.int .i64 4, .int .i64 c, .int .i64 x, .int .i64 n]) := Lib.hid (YA.out.upd u2 (by simp))
  have KA2 : Hid (KeepA w w2) := Lib.hid (fun g cs h => (KA1.out g cs h).upd u2 (by simp))
  have EV2 := Lib.hid ev
  clear ev u2 y0 y1 y2 y3 HS1 HD1 HU1 YA KA1 HBW1
  have y1 : w2.cell? ⟨w.heap.size, 1, none⟩ = some (.int .i64 c) := YB.out.cell 1
  have y2 : w2.cell? ⟨w.heap.size, 2, none⟩ = some (.int .i64 x) := YB.out.cell 2
  have y3 : w2.cell? ⟨w.heap.size, 3, none⟩ = some (.int .i64 n) := YB.out.cell 3
  obtain ⟨a1, ha1⟩ : ∃ a, (ceilC s c x).getD 0 = a := ⟨_, rfl⟩
  obtain ⟨a2, ha2⟩ : ∃ a, (ceilC s c x).isSome = a := ⟨_, rfl⟩
  obtain ⟨oe, hoe⟩ : ∃ a, oErr s c = a := ⟨_, rfl⟩
  have H3 : Hid ((ceilC s c x).getD 0 = a1 ∧ (ceilC s c x).isSome = a2 ∧ oErr s c = oe) := Lib.hid ⟨ha1, ha2, hoe⟩
  rw [ha1, ha2]
  rw [hoe] at EV2
  clear ha1 ha2 hoe
  go_wp2_with fail
  refine (rm_ceil B rb G s c x w2 HD2.out).mono ?_; rintro e w3 ⟨rfl, rfl⟩
  rw [H3.out.1, H3.out.2.1, H3.out.2.2]
  have d1 : (a1 == a1) = true := by simp
  have d2 : (a2 == a2) = true := by simp
  go_wp2_with fail
  refine (no_err EV2.out).mono ?_; rintro e w4 ⟨rfl, rfl⟩
  go_wp2_with fail
  go_ret
  exact ⟨by simp, ⟨_, _, HS2.out, HD2.out, HJ0.out⟩, HU2.out, KA2.out⟩
set_option maxRecDepth 100000 in
set_option maxHeartbeats 8000000 in
theorem mdo_5 (B sb rb : Nat) (s : MS) (c x n : Int) (w0 w : World) (h : MBoth B sb rb w s) (hkb : kB x) (hg : Typed w0) (hB : w0.heap.size ≤ B) (hu0 : Upd [] w0 w) (hBw : B ≤ w.heap.size) :
    Calls Tryz.prog 31 #[.pointer (some ⟨sb, 0, none⟩), .pointer (some ⟨rb, 0, none⟩), .agg #[.int .i64 5, .int .i64 c, .int .i64 x, .int .i64 n]] w fun e w' => MDoPost B sb rb s (5, c, x, n) w0 w e w' := by
  obtain ⟨F, G, hs, hd, hdj⟩ := h
  have HS0 := Lib.hid hs
  have HD0 := Lib.hid hd
  have HJ0 := Lib.hid hdj
  have HG := Lib.hid hg
  have HB := Lib.hid hB
  have HU0 := Lib.hid hu0
  have HBW := Lib.hid hBw
  have HKB := Lib.hid hkb
  clear hs hd hdj hg hB hu0 hBw hkb
  go_enter Tryz.func31, Tryz.ntmps31
  go_wp2_with fail
  have UA : Hid (Upd [] w (w.alloc (.cells #[.int .i64 5, .int .i64 c, .int .i64 x, .int .i64 n] 79))) := Lib.hid ((Upd.refl [] w).alloc _)
  have YA : Hid (Blk (w.alloc (.cells #[.int .i64 5, .int .i64 c, .int .i64 x, .int .i64 n] 79)) w.heap.size 79 #[.int .i64 5, .int .i64 c, .int .i64 x, .int .i64 n]) := Lib.hid (Blk.new w _ _)
  generalize (w.alloc (.cells #[.int .i64 5, .int .i64 c, .int .i64 x, .int .i64 n] 79)) = w1 at *
  have HS1 := Lib.hid (HS0.out.upd0 UA.out)
  have HD1 := Lib.hid (HD0.out.upd0 UA.out)
  have HU1 := Lib.hid (HU0.out.trans UA.out)
  have HBW1 : Hid (B ≤ w1.heap.size) := Lib.hid (Nat.le_trans HBW.out UA.out.size)
  have KA1 : Hid (KeepA w w1) := Lib.hid (fun g cs h => h.upd UA.out (by simp))
  clear UA HS0 HD0 HU0 HBW
  have y0 : w1.cell? ⟨w.heap.size, 0, none⟩ = some (.int .i64 5) := YA.out.cell 0
  have y1 : w1.cell? ⟨w.heap.size, 1, none⟩ = some (.int .i64 c) := YA.out.cell 1
  have y2 : w1.cell? ⟨w.heap.size, 2, none⟩ = some (.int .i64 x) := YA.out.cell 2
  have y3 : w1.cell? ⟨w.heap.size, 3, none⟩ = some (.int .i64 n) := YA.out.cell 3
  go_wp2_with fail
  refine (m_range B sb F s c x n w1 HS1.out).mono ?_; rintro e w2 ⟨va, rfl, ev, u2⟩
  have HS2 := Lib.hid (HS1.out.upd0 u2)
  have HD2 := Lib.hid (HD1.out.upd0 u2)
  have HU2 := Lib.hid (HU1.out.trans u2)
  have YB : Hid (Blk w2 w.heap.size 79 #[.int .i64 5, .int .i64 c, .int .i64 x, .int .i64 n]) := Lib.hid (YA.out.upd u2 (by simp))
  have KA2 : Hid (KeepA w w2) := Lib.hid (fun g cs h => (KA1.out g cs h).upd u2 (by simp))
  have EV2 := Lib.hid ev
  clear ev u2 y0 y1 y2 y3 HS1 HD1 HU1 YA KA1 HBW1
  have y1 : w2.cell? ⟨w.heap.size, 1, none⟩ = some (.int .i64 c) := YB.out.cell 1
  have y2 : w2.cell? ⟨w.heap.size, 2, none⟩ = some (.int .i64 x) := YB.out.cell 2
  have y3 : w2.cell? ⟨w.heap.size, 3, none⟩ = some (.int .i64 n) := YB.out.cell 3
  obtain ⟨a1, ha1⟩ : ∃ a, rangeC s c x n = a := ⟨_, rfl⟩
  obtain ⟨oe, hoe⟩ : ∃ a, oErr s c = a := ⟨_, rfl⟩
  have H3 : Hid (rangeC s c x n = a1 ∧ oErr s c = oe) := Lib.hid ⟨ha1, hoe⟩
  rw [ha1]
  rw [hoe] at EV2
  clear ha1 hoe
  go_wp2_with fail
  refine (rm_range B rb G s c x n w2 HD2.out).mono ?_; rintro e w3 ⟨rfl, rfl⟩
  rw [H3.out.1, H3.out.2]
  have d1 : ((a1 : Int) == (a1 : Int)) = true := by simp
  go_wp2_with fail
  refine (no_err EV2.out).mono ?_; rintro e w4 ⟨rfl, rfl⟩
  go_wp2_with fail
  go_ret
  exact ⟨by simp, ⟨_, _, HS2.out, HD2.out, HJ0.out⟩, HU2.out, KA2.out⟩
set_option maxRecDepth 100000 in
set_option maxHeartbeats 8000000 in
theorem mdo_0 (B sb rb : Nat) (s : MS) (c x n : Int) (w0 w : World) (h : MBoth B sb rb w s) (hkb : kB x) (hg : Typed w0) (hB : w0.heap.size ≤ B) (hu0 : Upd [] w0 w) (hBw : B ≤ w.heap.size) :
    Calls Tryz.prog 31 #[.pointer (some ⟨sb, 0, none⟩), .pointer (some ⟨rb, 0, none⟩), .agg #[.int .i64 0, .int .i64 c, .int .i64 x, .int .i64 n]] w fun e w' => MDoPost B sb rb s (0, c, x, n) w0 w e w' := by
  obtain ⟨F, G, hs, hd, hdj⟩ := h
  have HS0 := Lib.hid hs
  have HD0 := Lib.hid hd
  have HJ0 := Lib.hid hdj
  have HG := Lib.hid hg
  have HB := Lib.hid hB
  have HU0 := Lib.hid hu0
  have HBW := Lib.hid hBw
  have HKB := Lib.hid hkb
  clear hs hd hdj hg hB hu0 hBw hkb
  go_enter Tryz.func31, Tryz.ntmps31
  go_wp2_with fail
  have UA : Hid (Upd [] w (w.alloc (.cells #[.int .i64 0, .int .i64 c, .int .i64 x, .int .i64 n] 79))) := Lib.hid ((Upd.refl [] w).alloc _)
  have YA : Hid (Blk (w.alloc (.cells #[.int .i64 0, .int .i64 c, .int .i64 x, .int .i64 n] 79)) w.heap.size 79 #[.int .i64 0, .int .i64 c, .int .i64 x, .int .i64 n]) := Lib.hid (Blk.new w _ _)
  generalize (w.alloc (.cells #[.int .i64 0, .int .i64 c, .int .i64 x, .int .i64 n] 79)) = w1 at *
  have HS1 := Lib.hid (HS0.out.upd0 UA.out)
  have HD1 := Lib.hid (HD0.out.upd0 UA.out)
  have HU1 := Lib.hid (HU0.out.trans UA.out)
  have HBW1 : Hid (B ≤ w1.heap.size) := Lib.hid (Nat.le_trans HBW.out UA.out.size)
  have KA1 : Hid (KeepA w w1) := Lib.hid (fun g cs h => h.upd UA.out (by simp))
  clear UA HS0 HD0 HU0 HBW
  have y0 : w1.cell? ⟨w.heap.size, 0, none⟩ = some (.int .i64 0) := YA.out.cell 0
  have y1 : w1.cell? ⟨w.heap.size, 1, none⟩ = some (.int .i64 c) := YA.out.cell 1
  have y2 : w1.cell? ⟨w.heap.size, 2, none⟩ = some (.int .i64 x) := YA.out.cell 2
  have y3 : w1.cell? ⟨w.heap.size, 3, none⟩ = some (.int .i64 n) := YA.out.cell 3
  go_wp2_with fail
  refine (m_get B sb F s c x w1 HS1.out).mono ?_; rintro e w2 ⟨va, rfl, ev, u2⟩
  have HS2 := Lib.hid (HS1.out.upd0 u2)
  have HD2 := Lib.hid (HD1.out.upd0 u2)
  have HU2 := Lib.hid (HU1.out.trans u2)
  have YB : Hid (Blk w2 w.heap.size 79 #[.int .i64 0, .int .i64 c, .int .i64 x, .int .i64 n]) := Lib.hid (YA.out.upd u2 (by simp))
  have KA2 : Hid (KeepA w w2) := Lib.hid (fun g cs h => (KA1.out g cs h).upd u2 (by simp))
  have EV2 := Lib.hid ev
  clear ev u2 y0 y1 y2 y3 HS1 HD1 HU1 YA KA1 HBW1
  have y1 : w2.cell? ⟨w.heap.size, 1, none⟩ = some (.int .i64 c) := YB.out.cell 1
  have y2 : w2.cell? ⟨w.heap.size, 2, none⟩ = some (.int .i64 x) := YB.out.cell 2
  have y3 : w2.cell? ⟨w.heap.size, 3, none⟩ = some (.int .i64 n) := YB.out.cell 3
  obtain ⟨a1, ha1⟩ : ∃ a, (if isC s c then (get (coll s c.toNat) x).getD 0 else 0) = a := ⟨_, rfl⟩
  obtain ⟨a2, ha2⟩ : ∃ a, (if isC s c then (get (coll s c.toNat) x).isSome else false) = a := ⟨_, rfl⟩
  have H3 : Hid ((if isC s c then (get (coll s c.toNat) x).getD 0 else 0) = a1 ∧ (if isC s c then (get (coll s c.toNat) x).isSome else false) = a2) := Lib.hid ⟨ha1, ha2⟩
  rw [ha1, ha2]
  clear ha1 ha2
  go_wp2_with fail
  refine (rm_get B rb G s c x w2 HD2.out).mono ?_; rintro e w3 ⟨rfl, rfl⟩
  rw [H3.out.1, H3.out.2]
  have d1 : (a1 == a1) = true := by simp
  have d2 : (a2 == a2) = true := by simp
  have CB : Hid (∀ W', Upd [] w2.drew W' → W'.cell? ⟨w.heap.size, 1, none⟩ = some (.int .i64 c)) := Lib.hid (fun W' hW => (YB.out.upd ((Upd.refl [] w2).drew.trans hW) (by simp)).cell 1)
  clear y1 y2 y3
  cases hc : isC s c with
  | true =>
    rw [hc] at EV2
    simp only [if_true] at EV2 ⊢
    clear hc
    go_wp2_with fail
    refine wp_invN [(10, .det (.int .i64 0))] [] (by kernel_rfl) (by kernel_rfl) (by kernel_rfl) ⟨lasts_det _, trivial⟩ ?_
    with_reducible apply wpV_light
    · simp only [lightOp]
    · intro W hU hF
      have f0 := CB.out W hU
      clear hU hF
      go_simp
      exact rfl
    simp only [Act.put, List.setIfInBounds_toArray, List.set_cons_zero, List.set_cons_succ]
    with_reducible apply wpV_light
    · simp only [lightOp]
    · intro W hU hF
      have f0 := CB.out W hU
      clear hU hF
      go_simp
      exact rfl
    simp only [Act.put, List.setIfInBounds_toArray, List.set_cons_zero, List.set_cons_succ]
    with_reducible apply wpV_light
    · simp only [lightOp]
    · intro W hU hF
      have f0 := CB.out W hU
      clear hU hF
      go_simp
      exact rfl
    simp only [Act.put, List.setIfInBounds_toArray, List.set_cons_zero, List.set_cons_succ]
    with_reducible apply wpV_light
    · simp only [lightOp]
    · intro W hU hF
      have f0 := CB.out W hU
      clear hU hF
      go_simp
      exact rfl
    simp only [Act.put, List.setIfInBounds_toArray, List.set_cons_zero, List.set_cons_succ]
    with_reducible apply wpV_light
    · simp only [lightOp]
    · intro W hU hF
      have f0 := CB.out W hU
      clear hU hF
      go_simp
      exact rfl
    simp only [Act.put, List.setIfInBounds_toArray, List.set_cons_zero, List.set_cons_succ]
    with_reducible apply wpV_light
    · simp only [lightOp]
    · intro W hU hF
      have f0 := CB.out W hU
      clear hU hF
      go_simp
      exact rfl
    simp only [Act.put, List.setIfInBounds_toArray, List.set_cons_zero, List.set_cons_succ]
    with_reducible apply wpV_light
    · simp only [lightOp]
    · intro W hU hF
      have f0 := CB.out W hU
      clear hU hF
      go_simp
      exact rfl
    simp only [Act.put, List.setIfInBounds_toArray, List.set_cons_zero, List.set_cons_succ]
    with_reducible apply wpV_light
    · simp only [lightOp]
    · intro W hU hF
      have f0 := CB.out W hU
      clear hU hF
      go_simp
      exact rfl
    simp only [Act.put, List.setIfInBounds_toArray, List.set_cons_zero, List.set_cons_succ]
    with_reducible apply wpV_light
    · simp only [lightOp]
    · intro W hU hF
      have f0 := CB.out W hU
      clear hU hF
      go_simp
      exact rfl
    simp only [Act.put, List.setIfInBounds_toArray, List.set_cons_zero, List.set_cons_succ]
    with_reducible apply wpV_light
    · simp only [lightOp]
    · intro W hU hF
      have f0 := CB.out W hU
      clear hU hF
      go_simp
      exact rfl
    simp only [Act.put, List.setIfInBounds_toArray, List.set_cons_zero, List.set_cons_succ]
    refine wpV_heavy (by simp only [lightOp]) (by rfl) (fun W hU hk hF K hK => ?_) ?_
    · go_wp2_with fail
      refine (no_err (EV2.out.upd ((Upd.refl [] _).drew.trans hU))).mono ?_; rintro e w4 ⟨rfl, rfl⟩
      go_wp2_with fail
      exact hK.out _ _ (outV_new rfl rfl (by intro b hb; cases hb) (.refl _ _))
    rintro _ rfl
    simp only [Act.put, List.setIfInBounds_toArray, List.set_cons_zero, List.set_cons_succ]
    with_reducible apply wpV_light
    · simp only [lightOp]
    · intro W hU hF
      have f0 := CB.out W hU
      clear hU hF
      go_simp
      exact rfl
    simp only [Act.put, List.setIfInBounds_toArray, List.set_cons_zero, List.set_cons_succ]
    with_reducible apply wpV_light
    · simp only [lightOp]
    · intro W hU hF
      have f0 := CB.out W hU
      clear hU hF
      go_simp
      exact rfl
    simp only [Act.put, List.setIfInBounds_toArray, List.set_cons_zero, List.set_cons_succ]
    with_reducible apply wpV_light
    · simp only [lightOp]
    · intro W hU hF
      have f0 := CB.out W hU
      clear hU hF
      go_simp
      exact rfl
    simp only [Act.put, List.setIfInBounds_toArray, List.set_cons_zero, List.set_cons_succ]
    with_reducible apply wpV_light
    · simp only [lightOp]
    · intro W hU hF
      have f0 := CB.out W hU
      clear hU hF
      go_simp
      exact rfl
    simp only [Act.put, List.setIfInBounds_toArray, List.set_cons_zero, List.set_cons_succ]
    with_reducible apply wpV_light
    · simp only [lightOp]
    · intro W hU hF
      have f0 := CB.out W hU
      clear hU hF
      go_simp
      exact rfl
    simp only [Act.put, List.setIfInBounds_toArray, List.set_cons_zero, List.set_cons_succ]
    with_reducible apply wpV_light
    · simp only [lightOp]
    · intro W hU hF
      have f0 := CB.out W hU
      clear hU hF
      go_simp
      exact rfl
    simp only [Act.put, List.setIfInBounds_toArray, List.set_cons_zero, List.set_cons_succ]
    with_reducible apply wpV_light
    · simp only [lightOp]
    · intro W hU hF
      have f0 := CB.out W hU
      clear hU hF
      go_simp
      exact rfl
    simp only [Act.put, List.setIfInBounds_toArray, List.set_cons_zero, List.set_cons_succ]
    refine wpV_skip (by rfl) (by simp only [lightOp]) ?_
    simp only [Act.put, List.setIfInBounds_toArray, List.set_cons_zero, List.set_cons_succ]
    refine wpV_heavySkip (by simp only [lightOp]) (by rfl) (fun W hU hk => outV_new rfl trivial (by intro b hb; cases hb) (.refl _ _)) ?_
    rintro _ trivial
    simp only [Act.put, List.setIfInBounds_toArray, List.set_cons_zero, List.set_cons_succ]
    refine wpV_skip (by rfl) (by simp only [lightOp]) ?_
    simp only [Act.put, List.setIfInBounds_toArray, List.set_cons_zero, List.set_cons_succ]
    refine wpV_skip (by rfl) (by simp only [lightOp]) ?_
    simp only [Act.put, List.setIfInBounds_toArray, List.set_cons_zero, List.set_cons_succ]
    refine wpV_skip (by rfl) (by simp only [lightOp]) ?_
    simp only [Act.put, List.setIfInBounds_toArray, List.set_cons_zero, List.set_cons_succ]
    with_reducible apply wpV_light
    · simp only [lightOp]
    · intro W hU hF
      have f0 := CB.out W hU
      clear hU hF
      go_simp
      exact rfl
    simp only [Act.put, List.setIfInBounds_toArray, List.set_cons_zero, List.set_cons_succ]
    with_reducible apply wpV_light
    · simp only [lightOp]
    · intro W hU hF
      have f0 := CB.out W hU
      clear hU hF
      go_simp
      exact rfl
    simp only [Act.put, List.setIfInBounds_toArray, List.set_cons_zero, List.set_cons_succ]
    with_reducible apply wpV_light
    · simp only [lightOp]
    · intro W hU hF
      have f0 := CB.out W hU
      clear hU hF
      go_simp
      exact rfl
    simp only [Act.put, List.setIfInBounds_toArray, List.set_cons_zero, List.set_cons_succ]
    refine wpV_end (fun W hU _ _ => ?_)
    have U4 : Hid (Upd [] w2 W) := Lib.hid ((Upd.refl [] w2).drew.trans hU)
    clear hU
    refine wpT_end ?_
    go_wp2_with fail
    go_ret
    exact ⟨by simp, ⟨_, _, HS2.out.upd0 U4.out, HD2.out.upd0 U4.out, HJ0.out⟩, HU2.out.trans U4.out, fun g cs h => (KA2.out g cs h).upd U4.out (by simp)⟩
  | false =>
    rw [hc] at EV2
    simp only [Bool.false_eq_true, if_false] at EV2 ⊢
    clear hc
    go_wp2_with fail
    refine wp_invN [(10, .det (.int .i64 3)), (19, .det (.int .i64 c))] [] (by kernel_rfl) (by kernel_rfl) (by kernel_rfl) ⟨lasts_det _, lasts_det _, trivial⟩ ?_
    with_reducible apply wpV_light
    · simp only [lightOp]
    · intro W hU hF
      have f0 := CB.out W hU
      clear hU hF
      go_simp
      exact rfl
    simp only [Act.put, List.setIfInBounds_toArray, List.set_cons_zero, List.set_cons_succ]
    with_reducible apply wpV_light
    · simp only [lightOp]
    · intro W hU hF
      have f0 := CB.out W hU
      clear hU hF
      go_simp
      exact rfl
    simp only [Act.put, List.setIfInBounds_toArray, List.set_cons_zero, List.set_cons_succ]
    with_reducible apply wpV_light
    · simp only [lightOp]
    · intro W hU hF
      have f0 := CB.out W hU
      clear hU hF
      go_simp
      exact rfl
    simp only [Act.put, List.setIfInBounds_toArray, List.set_cons_zero, List.set_cons_succ]
    with_reducible apply wpV_light
    · simp only [lightOp]
    · intro W hU hF
      have f0 := CB.out W hU
      clear hU hF
      go_simp
      exact rfl
    simp only [Act.put, List.setIfInBounds_toArray, List.set_cons_zero, List.set_cons_succ]
    with_reducible apply wpV_light
    · simp only [lightOp]
    · intro W hU hF
      have f0 := CB.out W hU
      clear hU hF
      go_simp
      exact rfl
    simp only [Act.put, List.setIfInBounds_toArray, List.set_cons_zero, List.set_cons_succ]
    with_reducible apply wpV_light
    · simp only [lightOp]
    · intro W hU hF
      have f0 := CB.out W hU
      clear hU hF
      go_simp
      exact rfl
    simp only [Act.put, List.setIfInBounds_toArray, List.set_cons_zero, List.set_cons_succ]
    with_reducible apply wpV_light
    · simp only [lightOp]
    · intro W hU hF
      have f0 := CB.out W hU
      clear hU hF
      go_simp
      exact rfl
    simp only [Act.put, List.setIfInBounds_toArray, List.set_cons_zero, List.set_cons_succ]
    with_reducible apply wpV_light
    · simp only [lightOp]
    · intro W hU hF
      have f0 := CB.out W hU
      clear hU hF
      go_simp
      exact rfl
    simp only [Act.put, List.setIfInBounds_toArray, List.set_cons_zero, List.set_cons_succ]
    with_reducible apply wpV_light
    · simp only [lightOp]
    · intro W hU hF
      have f0 := CB.out W hU
      clear hU hF
      go_simp
      exact rfl
    simp only [Act.put, List.setIfInBounds_toArray, List.set_cons_zero, List.set_cons_succ]
    with_reducible apply wpV_light
    · simp only [lightOp]
    · intro W hU hF
      have f0 := CB.out W hU
      clear hU hF
      go_simp
      exact rfl
    simp only [Act.put, List.setIfInBounds_toArray, List.set_cons_zero, List.set_cons_succ]
    refine wpV_heavy (by simp only [lightOp]) (by rfl) (fun W hU hk hF K hK => ?_) ?_
    · go_wp2_with fail
      refine (no_err (EV2.out.upd ((Upd.refl [] _).drew.trans hU))).mono ?_; rintro e w4 ⟨rfl, rfl⟩
      go_wp2_with fail
      exact hK.out _ _ (outV_new rfl rfl (by intro b hb; cases hb) (.refl _ _))
    rintro _ rfl
    simp only [Act.put, List.setIfInBounds_toArray, List.set_cons_zero, List.set_cons_succ]
    with_reducible apply wpV_light
    · simp only [lightOp]
    · intro W hU hF
      have f0 := CB.out W hU
      clear hU hF
      go_simp
      exact rfl
    simp only [Act.put, List.setIfInBounds_toArray, List.set_cons_zero, List.set_cons_succ]
    with_reducible apply wpV_light
    · simp only [lightOp]
    · intro W hU hF
      have f0 := CB.out W hU
      clear hU hF
      go_simp
      exact rfl
    simp only [Act.put, List.setIfInBounds_toArray, List.set_cons_zero, List.set_cons_succ]
    with_reducible apply wpV_light
    · simp only [lightOp]
    · intro W hU hF
      have f0 := CB.out W hU
      clear hU hF
      go_simp
      exact rfl
    simp only [Act.put, List.setIfInBounds_toArray, List.set_cons_zero, List.set_cons_succ]
    with_reducible apply wpV_light
    · simp only [lightOp]
    · intro W hU hF
      have f0 := CB.out W hU
      clear hU hF
      go_simp
      exact rfl
    simp only [Act.put, List.setIfInBounds_toArray, List.set_cons_zero, List.set_cons_succ]
    with_reducible apply wpV_light
    · simp only [lightOp]
    · intro W hU hF
      have f0 := CB.out W hU
      clear hU hF
      go_simp
      exact rfl
    simp only [Act.put, List.setIfInBounds_toArray, List.set_cons_zero, List.set_cons_succ]
    with_reducible apply wpV_light
    · simp only [lightOp]
    · intro W hU hF
      have f0 := CB.out W hU
      clear hU hF
      go_simp
      exact rfl
    simp only [Act.put, List.setIfInBounds_toArray, List.set_cons_zero, List.set_cons_succ]
    with_reducible apply wpV_light
    · simp only [lightOp]
    · intro W hU hF
      have f0 := CB.out W hU
      clear hU hF
      go_simp
      exact rfl
    simp only [Act.put, List.setIfInBounds_toArray, List.set_cons_zero, List.set_cons_succ]
    with_reducible apply wpV_light
    · simp only [lightOp]
    · intro W hU hF
      have f0 := CB.out W hU
      clear hU hF
      go_simp
      exact rfl
    simp only [Act.put, List.setIfInBounds_toArray, List.set_cons_zero, List.set_cons_succ]
    refine wpV_heavy (by simp only [lightOp]) (by rfl) (fun W hU hk hF K hK => ?_) ?_
    · go_wp2_with fail
      refine (place_err (EV2.out.upd ((Upd.refl [] _).drew.trans hU)) (HG.out.upd (HU2.out.trans ((Upd.refl [] _).drew.trans hU)) (by simp))).mono ?_; rintro e w4 ⟨rfl, u4⟩
      go_wp2_with fail
      exact hK.out _ _ (outV_new rfl rfl (by intro b hb; cases hb) u4)
    rintro _ rfl
    simp only [Act.put, List.setIfInBounds_toArray, List.set_cons_zero, List.set_cons_succ]
    with_reducible apply wpV_light
    · simp only [lightOp]
    · intro W hU hF
      have f0 := CB.out W hU
      clear hU hF
      go_simp
      exact rfl
    simp only [Act.put, List.setIfInBounds_toArray, List.set_cons_zero, List.set_cons_succ]
    with_reducible apply wpV_light
    · simp only [lightOp]
    · intro W hU hF
      have f0 := CB.out W hU
      clear hU hF
      go_simp
      exact rfl
    simp only [Act.put, List.setIfInBounds_toArray, List.set_cons_zero, List.set_cons_succ]
    with_reducible apply wpV_light
    · simp only [lightOp]
    · intro W hU hF
      have f0 := CB.out W hU
      clear hU hF
      go_simp
      exact rfl
    simp only [Act.put, List.setIfInBounds_toArray, List.set_cons_zero, List.set_cons_succ]
    with_reducible apply wpV_light
    · simp only [lightOp]
    · intro W hU hF
      have f0 := CB.out W hU
      clear hU hF
      go_simp
      exact rfl
    simp only [Act.put, List.setIfInBounds_toArray, List.set_cons_zero, List.set_cons_succ]
    with_reducible apply wpV_light
    · simp only [lightOp]
    · intro W hU hF
      have f0 := CB.out W hU
      clear hU hF
      go_simp
      exact rfl
    simp only [Act.put, List.setIfInBounds_toArray, List.set_cons_zero, List.set_cons_succ]
    with_reducible apply wpV_light
    · simp only [lightOp]
    · intro W hU hF
      have f0 := CB.out W hU
      clear hU hF
      go_simp
      exact rfl
    simp only [Act.put, List.setIfInBounds_toArray, List.set_cons_zero, List.set_cons_succ]
    refine wpV_end (fun W hU _ _ => ?_)
    have U4 : Hid (Upd [] w2 W) := Lib.hid ((Upd.refl [] w2).drew.trans hU)
    clear hU
    refine wpT_end ?_
    go_wp2_with fail
    go_ret
    exact ⟨by simp, ⟨_, _, HS2.out.upd0 U4.out, HD2.out.upd0 U4.out, HJ0.out⟩, HU2.out.trans U4.out, fun g cs h => (KA2.out g cs h).upd U4.out (by simp)⟩
set_option maxRecDepth 100000 in
set_option maxHeartbeats 8000000 in
theorem mdo_1 (B sb rb : Nat) (s : MS) (c x n : Int) (w0 w : World) (h : MBoth B sb rb w s) (hkb : kB x) (hg : Typed w0) (hB : w0.heap.size ≤ B) (hu0 : Upd [] w0 w) (hBw : B ≤ w.heap.size) :
    Calls Tryz.prog 31 #[.pointer (some ⟨sb, 0, none⟩), .pointer (some ⟨rb, 0, none⟩), .agg #[.int .i64 1, .int .i64 c, .int .i64 x, .int .i64 n]] w fun e w' => MDoPost B sb rb s (1, c, x, n) w0 w e w' := by
  obtain ⟨F, G, hs, hd, hdj⟩ := h
  have HS0 := Lib.hid hs
  have HD0 := Lib.hid hd
  have HJ0 := Lib.hid hdj
  have HG := Lib.hid hg
  have HB := Lib.hid hB
  have HU0 := Lib.hid hu0
  have HBW := Lib.hid hBw
  have HKB := Lib.hid hkb
  clear hs hd hdj hg hB hu0 hBw hkb
  go_enter Tryz.func31, Tryz.ntmps31
  go_wp2_with fail
  have UA : Hid (Upd [] w (w.alloc (.cells #[.int .i64 1, .int .i64 c, .int .i64 x, .int .i64 n] 79))) := Lib.hid ((Upd.refl [] w).alloc _)
  have YA : Hid (Blk (w.alloc (.cells #[.int .i64 1, .int .i64 c, .int .i64 x, .int .i64 n] 79)) w.heap.size 79 #[.int .i64 1, .int .i64 c, .int .i64 x, .int .i64 n]) := Lib.hid (Blk.new w _ _)
  generalize (w.alloc (.cells #[.int .i64 1, .int .i64 c, .int .i64 x, .int .i64 n] 79)) = w1 at *
  have HS1 := Lib.hid (HS0.out.upd0 UA.out)
  have HD1 := Lib.hid (HD0.out.upd0 UA.out)
  have HU1 := Lib.hid (HU0.out.trans UA.out)
  have HBW1 : Hid (B ≤ w1.heap.size) := Lib.hid (Nat.le_trans HBW.out UA.out.size)
  have KA1 : Hid (KeepA w w1) := Lib.hid (fun g cs h => h.upd UA.out (by simp))
  clear UA HS0 HD0 HU0 HBW
  have y0 : w1.cell? ⟨w.heap.size, 0, none⟩ = some (.int .i64 1) := YA.out.cell 0
  have y1 : w1.cell? ⟨w.heap.size, 1, none⟩ = some (.int .i64 c) := YA.out.cell 1
  have y2 : w1.cell? ⟨w.heap.size, 2, none⟩ = some (.int .i64 x) := YA.out.cell 2
  have y3 : w1.cell? ⟨w.heap.size, 3, none⟩ = some (.int .i64 n) := YA.out.cell 3
  have HS1' := Lib.hid (HS1.out.upd0 (Upd.refl [] w1).drew)
  have HD1' := Lib.hid (HD1.out.upd0 (Upd.refl [] w1).drew)
  have HU1' := Lib.hid HU1.out.drew
  have YA' := Lib.hid YA.out.drew
  have HBW1' : Hid (B ≤ w1.drew.heap.size) := Lib.hid HBW1.out
  have KA1' : Hid (KeepA w w1.drew) := Lib.hid (fun g cs h => (KA1.out g cs h).drew)
  clear HS1 HD1 HU1 YA HBW1 KA1
  have HS1 := HS1'
  have HD1 := HD1'
  have HU1 := HU1'
  have YA := YA'
  have HBW1 := HBW1'
  have KA1 := KA1'
  clear HS1' HD1' HU1' YA' HBW1' KA1'
  obtain ⟨pe, hpe⟩ : ∃ e, (if isC s c then putE (coll s c.toNat) x else 3) = e := ⟨_, rfl⟩
  have HPE := Lib.hid hpe
  have HST : Hid ((if isC s c then mPut s c.toNat x n else s) = stepM s (1, c, x, n)) := Lib.hid (by unfold stepM; simp)
  clear hpe
  go_region_held3 (fun W => W.cell? ⟨w.heap.size, 1, none⟩ = some (.int .i64 c) ∧ W.cell? ⟨w.heap.size, 2, none⟩ = some (.int .i64 x) ∧ W.cell? ⟨w.heap.size, 3, none⟩ = some (.int .i64 n)) (first | exact ⟨x1, x2, x3⟩ | exact ⟨z1, z2, z3⟩ | exact ⟨y1, y2, y3⟩) (first
    | (go_at_call 18
       refine (rm_put B rb G s c x n w2 HD2.out HKB.out HBW2.out).mono ?_
       rintro e w3 ⟨G3, rfl, h3, f3⟩
       rw [HST.out] at h3
       rw [HPE.out]
       have HBO : Hid (MBoth B sb rb w3 (stepM s (1, c, x, n))) := Lib.hid ⟨_, _, (mboth_d HS2.out HD2.out HJ0.out f3).1, h3, (mboth_d HS2.out HD2.out HJ0.out f3).2⟩
       have HU3 := Lib.hid (mboth_ud HD2.out HU2.out f3 HB.out)
       have YC : Hid (Blk w3 w.heap.size 79 #[.int .i64 1, .int .i64 c, .int .i64 x, .int .i64 n]) := Lib.hid (YB.out.upd f3.upd (HD2.out.off YB.out (by decide) (by decide) (by decide) (by decide)))
       have KA3 : Hid (KeepA w w3) := Lib.hid (fun g cs h => (KA2.out g cs h).upd f3.upd (HD2.out.off (KA2.out g cs h) (by decide) (by decide) (by decide) (by decide)))
       have EV3 := Lib.hid (EV2.out.byD HD2.out f3.upd)
       clear h3 f3 z1 z2 z3 HS2 HD2 HU2 YB HBW2 EV2 KA2
       obtain ⟨x1, x2, x3⟩ : w3.cell? ⟨w.heap.size, 1, none⟩ = some (.int .i64 c) ∧ w3.cell? ⟨w.heap.size, 2, none⟩ = some (.int .i64 x) ∧ w3.cell? ⟨w.heap.size, 3, none⟩ = some (.int .i64 n) := ⟨YC.out.cell 1, YC.out.cell 2, YC.out.cell 3⟩)
    | (go_at_call 10
       refine (no_err EV2.out).mono ?_
       rintro e w' ⟨rfl, rfl⟩)
    | (go_at_call 52
       refine (m_put B sb F s c x n _ HS1.out HKB.out).mono ?_
       rintro e w2 ⟨va, rfl, ev, h2, u2⟩
       rw [HPE.out] at ev
       rw [HST.out] at h2
       have HS2 := Lib.hid h2
       have HD2 := Lib.hid (mboth_s HS1.out HD1.out HJ0.out (frm_same u2)).1
       have HU2 := Lib.hid (mboth_us HS1.out HU1.out (frm_same u2) HB.out)
       have YB : Hid (Blk w2 w.heap.size 79 #[.int .i64 1, .int .i64 c, .int .i64 x, .int .i64 n]) := Lib.hid (YA.out.upd u2 (HS1.out.off YA.out (by decide) (by decide) (by decide)))
       have HBW2 : Hid (B ≤ w2.heap.size) := Lib.hid (Nat.le_trans HBW1.out u2.size)
       have EV2 := Lib.hid ev
       have KA2 : Hid (KeepA w w2) := Lib.hid (fun g cs h => (KA1.out g cs h).upd u2 (HS1.out.off (KA1.out g cs h) (by decide) (by decide) (by decide)))
       clear ev h2 u2 y0 y1 y2 y3 HS1 HD1 HU1 YA HBW1 KA1
       obtain ⟨z1, z2, z3⟩ : w2.cell? ⟨w.heap.size, 1, none⟩ = some (.int .i64 c) ∧ w2.cell? ⟨w.heap.size, 2, none⟩ = some (.int .i64 x) ∧ w2.cell? ⟨w.heap.size, 3, none⟩ = some (.int .i64 n) := ⟨YB.out.cell 1, YB.out.cell 2, YB.out.cell 3⟩))
  go_wp2_with fail
  go_ret
  exact ⟨by simp, HBO.out, HU3.out, KA3.out⟩
set_option maxRecDepth 100000 in
set_option maxHeartbeats 8000000 in
theorem mdo_2 (B sb rb : Nat) (s : MS) (c x n : Int) (w0 w : World) (h : MBoth B sb rb w s) (hkb : kB x) (hg : Typed w0) (hB : w0.heap.size ≤ B) (hu0 : Upd [] w0 w) (hBw : B ≤ w.heap.size) :
    Calls Tryz.prog 31 #[.pointer (some ⟨sb, 0, none⟩), .pointer (some ⟨rb, 0, none⟩), .agg #[.int .i64 2, .int .i64 c, .int .i64 x, .int .i64 n]] w fun e w' => MDoPost B sb rb s (2, c, x, n) w0 w e w' := by
  obtain ⟨F, G, hs, hd, hdj⟩ := h
  have HS0 := Lib.hid hs
  have HD0 := Lib.hid hd
  have HJ0 := Lib.hid hdj
  have HG := Lib.hid hg
  have HB := Lib.hid hB
  have HU0 := Lib.hid hu0
  have HBW := Lib.hid hBw
  have HKB := Lib.hid hkb
  clear hs hd hdj hg hB hu0 hBw hkb
  go_enter Tryz.func31, Tryz.ntmps31
  go_wp2_with fail
  have UA : Hid (Upd [] w (w.alloc (.cells #[.int .i64 2, .int .i64 c, .int .i64 x, .int .i64 n] 79))) := Lib.hid ((Upd.refl [] w).alloc _)
  have YA : Hid (Blk (w.alloc (.cells #[.int .i64 2, .int .i64 c, .int .i64 x, .int .i64 n] 79)) w.heap.size 79 #[.int .i64 2, .int .i64 c, .int .i64 x, .int .i64 n]) := Lib.hid (Blk.new w _ _)
  generalize (w.alloc (.cells #[.int .i64 2, .int .i64 c, .int .i64 x, .int .i64 n] 79)) = w1 at *
  have HS1 := Lib.hid (HS0.out.upd0 UA.out)
  have HD1 := Lib.hid (HD0.out.upd0 UA.out)
  have HU1 := Lib.hid (HU0.out.trans UA.out)
  have HBW1 : Hid (B ≤ w1.heap.size) := Lib.hid (Nat.le_trans HBW.out UA.out.size)
  have KA1 : Hid (KeepA w w1) := Lib.hid (fun g cs h => h.upd UA.out (by simp))
  clear UA HS0 HD0 HU0 HBW
  have y0 : w1.cell? ⟨w.heap.size, 0, none⟩ = some (.int .i64 2) := YA.out.cell 0
  have y1 : w1.cell? ⟨w.heap.size, 1, none⟩ = some (.int .i64 c) := YA.out.cell 1
  have y2 : w1.cell? ⟨w.heap.size, 2, none⟩ = some (.int .i64 x) := YA.out.cell 2
  have y3 : w1.cell? ⟨w.heap.size, 3, none⟩ = some (.int .i64 n) := YA.out.cell 3
  have HS1' := Lib.hid (HS1.out.upd0 (Upd.refl [] w1).drew)
  have HD1' := Lib.hid (HD1.out.upd0 (Upd.refl [] w1).drew)
  have HU1' := Lib.hid HU1.out.drew
  have YA' := Lib.hid YA.out.drew
  have HBW1' : Hid (B ≤ w1.drew.heap.size) := Lib.hid HBW1.out
  have KA1' : Hid (KeepA w w1.drew) := Lib.hid (fun g cs h => (KA1.out g cs h).drew)
  clear HS1 HD1 HU1 YA HBW1 KA1
  have HS1 := HS1'
  have HD1 := HD1'
  have HU1 := HU1'
  have YA := YA'
  have HBW1 := HBW1'
  have KA1 := KA1'
  clear HS1' HD1' HU1' YA' HBW1' KA1'
  obtain ⟨pe, hpe⟩ : ∃ e, (if isC s c then putE (coll s c.toNat) x else 3) = e := ⟨_, rfl⟩
  have HPE := Lib.hid hpe
  have HST : Hid ((if isC s c then mPut s c.toNat x n else s) = stepM s (2, c, x, n)) := Lib.hid (by unfold stepM; simp)
  clear hpe
  go_region_held3 (fun W => W.cell? ⟨w.heap.size, 1, none⟩ = some (.int .i64 c) ∧ W.cell? ⟨w.heap.size, 2, none⟩ = some (.int .i64 x) ∧ W.cell? ⟨w.heap.size, 3, none⟩ = some (.int .i64 n)) (first | exact ⟨x1, x2, x3⟩ | exact ⟨z1, z2, z3⟩ | exact ⟨y1, y2, y3⟩) (first
    | (go_at_call 18
       refine (rm_put B rb G s c x n w2 HD2.out HKB.out HBW2.out).mono ?_
       rintro e w3 ⟨G3, rfl, h3, f3⟩
       rw [HST.out] at h3
       rw [HPE.out]
       have HBO : Hid (MBoth B sb rb w3 (stepM s (2, c, x, n))) := Lib.hid ⟨_, _, (mboth_d HS2.out HD2.out HJ0.out f3).1, h3, (mboth_d HS2.out HD2.out HJ0.out f3).2⟩
       have HU3 := Lib.hid (mboth_ud HD2.out HU2.out f3 HB.out)
       have YC : Hid (Blk w3 w.heap.size 79 #[.int .i64 2, .int .i64 c, .int .i64 x, .int .i64 n]) := Lib.hid (YB.out.upd f3.upd (HD2.out.off YB.out (by decide) (by decide) (by decide) (by decide)))
       have KA3 : Hid (KeepA w w3) := Lib.hid (fun g cs h => (KA2.out g cs h).upd f3.upd (HD2.out.off (KA2.out g cs h) (by decide) (by decide) (by decide) (by decide)))
       have EV3 := Lib.hid (EV2.out.byD HD2.out f3.upd)
       clear h3 f3 z1 z2 z3 HS2 HD2 HU2 YB HBW2 EV2 KA2
       obtain ⟨x1, x2, x3⟩ : w3.cell? ⟨w.heap.size, 1, none⟩ = some (.int .i64 c) ∧ w3.cell? ⟨w.heap.size, 2, none⟩ = some (.int .i64 x) ∧ w3.cell? ⟨w.heap.size, 3, none⟩ = some (.int .i64 n) := ⟨YC.out.cell 1, YC.out.cell 2, YC.out.cell 3⟩)
    | (go_at_call 10
       refine (no_err EV2.out).mono ?_
       rintro e w' ⟨rfl, rfl⟩)
    | (go_at_call 52
       refine (m_put B sb F s c x n _ HS1.out HKB.out).mono ?_
       rintro e w2 ⟨va, rfl, ev, h2, u2⟩
       rw [HPE.out] at ev
       rw [HST.out] at h2
       have HS2 := Lib.hid h2
       have HD2 := Lib.hid (mboth_s HS1.out HD1.out HJ0.out (frm_same u2)).1
       have HU2 := Lib.hid (mboth_us HS1.out HU1.out (frm_same u2) HB.out)
       have YB : Hid (Blk w2 w.heap.size 79 #[.int .i64 2, .int .i64 c, .int .i64 x, .int .i64 n]) := Lib.hid (YA.out.upd u2 (HS1.out.off YA.out (by decide) (by decide) (by decide)))
       have HBW2 : Hid (B ≤ w2.heap.size) := Lib.hid (Nat.le_trans HBW1.out u2.size)
       have EV2 := Lib.hid ev
       have KA2 : Hid (KeepA w w2) := Lib.hid (fun g cs h => (KA1.out g cs h).upd u2 (HS1.out.off (KA1.out g cs h) (by decide) (by decide) (by decide)))
       clear ev h2 u2 y0 y1 y2 y3 HS1 HD1 HU1 YA HBW1 KA1
       obtain ⟨z1, z2, z3⟩ : w2.cell? ⟨w.heap.size, 1, none⟩ = some (.int .i64 c) ∧ w2.cell? ⟨w.heap.size, 2, none⟩ = some (.int .i64 x) ∧ w2.cell? ⟨w.heap.size, 3, none⟩ = some (.int .i64 n) := ⟨YB.out.cell 1, YB.out.cell 2, YB.out.cell 3⟩))
  go_wp2_with fail
  go_ret
  exact ⟨by simp, HBO.out, HU3.out, KA3.out⟩
set_option maxRecDepth 100000 in
set_option maxHeartbeats 8000000 in
theorem mdo_3 (B sb rb : Nat) (s : MS) (c x n : Int) (w0 w : World) (h : MBoth B sb rb w s) (hkb : kB x) (hg : Typed w0) (hB : w0.heap.size ≤ B) (hu0 : Upd [] w0 w) (hBw : B ≤ w.heap.size) :
    Calls Tryz.prog 31 #[.pointer (some ⟨sb, 0, none⟩), .pointer (some ⟨rb, 0, none⟩), .agg #[.int .i64 3, .int .i64 c, .int .i64 x, .int .i64 n]] w fun e w' => MDoPost B sb rb s (3, c, x, n) w0 w e w' := by
  obtain ⟨F, G, hs, hd, hdj⟩ := h
  have HS0 := Lib.hid hs
  have HD0 := Lib.hid hd
  have HJ0 := Lib.hid hdj
  have HG := Lib.hid hg
  have HB := Lib.hid hB
  have HU0 := Lib.hid hu0
  have HBW := Lib.hid hBw
  have HKB := Lib.hid hkb
  clear hs hd hdj hg hB hu0 hBw hkb
  go_enter Tryz.func31, Tryz.ntmps31
  go_wp2_with fail
  have UA : Hid (Upd [] w (w.alloc (.cells #[.int .i64 3, .int .i64 c, .int .i64 x, .int .i64 n] 79))) := Lib.hid ((Upd.refl [] w).alloc _)
  have YA : Hid (Blk (w.alloc (.cells #[.int .i64 3, .int .i64 c, .int .i64 x, .int .i64 n] 79)) w.heap.size 79 #[.int .i64 3, .int .i64 c, .int .i64 x, .int .i64 n]) := Lib.hid (Blk.new w _ _)
  generalize (w.alloc (.cells #[.int .i64 3, .int .i64 c, .int .i64 x, .int .i64 n] 79)) = w1 at *
  have HS1 := Lib.hid (HS0.out.upd0 UA.out)
  have HD1 := Lib.hid (HD0.out.upd0 UA.out)
  have HU1 := Lib.hid (HU0.out.trans UA.out)
  have HBW1 : Hid (B ≤ w1.heap.size) := Lib.hid (Nat.le_trans HBW.out UA.out.size)
  have KA1 : Hid (KeepA w w1) := Lib.hid (fun g cs h => h.upd UA.out (by simp))
  clear UA HS0 HD0 HU0 HBW
  have y0 : w1.cell? ⟨w.heap.size, 0, none⟩ = some (.int .i64 3) := YA.out.cell 0
  have y1 : w1.cell? ⟨w.heap.size, 1, none⟩ = some (.int .i64 c) := YA.out.cell 1
  have y2 : w1.cell? ⟨w.heap.size, 2, none⟩ = some (.int .i64 x) := YA.out.cell 2
  have y3 : w1.cell? ⟨w.heap.size, 3, none⟩ = some (.int .i64 n) := YA.out.cell 3
  have HS1' := Lib.hid (HS1.out.upd0 (Upd.refl [] w1).drew)
  have HD1' := Lib.hid (HD1.out.upd0 (Upd.refl [] w1).drew)
  have HU1' := Lib.hid HU1.out.drew
  have YA' := Lib.hid YA.out.drew
  have HBW1' : Hid (B ≤ w1.drew.heap.size) := Lib.hid HBW1.out
  have KA1' : Hid (KeepA w w1.drew) := Lib.hid (fun g cs h => (KA1.out g cs h).drew)
  clear HS1 HD1 HU1 YA HBW1 KA1
  have HS1 := HS1'
  have HD1 := HD1'
  have HU1 := HU1'
  have YA := YA'
  have HBW1 := HBW1'
  have KA1 := KA1'
  clear HS1' HD1' HU1' YA' HBW1' KA1'
  obtain ⟨pe, hpe⟩ : ∃ e, (if isC s c then (0 : Int) else 3) = e := ⟨_, rfl⟩
  have HPE := Lib.hid hpe
  have HST : Hid ((if isC s c then mDel s c.toNat x else s) = stepM s (3, c, x, n)) := Lib.hid (by unfold stepM; simp)
  clear hpe
  go_region_held3 (fun W => W.cell? ⟨w.heap.size, 1, none⟩ = some (.int .i64 c) ∧ W.cell? ⟨w.heap.size, 2, none⟩ = some (.int .i64 x) ∧ W.cell? ⟨w.heap.size, 3, none⟩ = some (.int .i64 n)) (first | exact ⟨x1, x2, x3⟩ | exact ⟨z1, z2, z3⟩ | exact ⟨y1, y2, y3⟩) (first
    | (go_at_call 54
       refine (rm_del B rb G s c x w2 HD2.out HBW2.out).mono ?_
       rintro e w3 ⟨G3, rfl, h3, f3⟩
       rw [HST.out] at h3
       rw [HPE.out]
       have HBO : Hid (MBoth B sb rb w3 (stepM s (3, c, x, n))) := Lib.hid ⟨_, _, (mboth_d HS2.out HD2.out HJ0.out f3).1, h3, (mboth_d HS2.out HD2.out HJ0.out f3).2⟩
       have HU3 := Lib.hid (mboth_ud HD2.out HU2.out f3 HB.out)
       have YC : Hid (Blk w3 w.heap.size 79 #[.int .i64 3, .int .i64 c, .int .i64 x, .int .i64 n]) := Lib.hid (YB.out.upd f3.upd (HD2.out.off YB.out (by decide) (by decide) (by decide) (by decide)))
       have KA3 : Hid (KeepA w w3) := Lib.hid (fun g cs h => (KA2.out g cs h).upd f3.upd (HD2.out.off (KA2.out g cs h) (by decide) (by decide) (by decide) (by decide)))
       have EV3 := Lib.hid (EV2.out.byD HD2.out f3.upd)
       clear h3 f3 z1 z2 z3 HS2 HD2 HU2 YB HBW2 EV2 KA2
       obtain ⟨x1, x2, x3⟩ : w3.cell? ⟨w.heap.size, 1, none⟩ = some (.int .i64 c) ∧ w3.cell? ⟨w.heap.size, 2, none⟩ = some (.int .i64 x) ∧ w3.cell? ⟨w.heap.size, 3, none⟩ = some (.int .i64 n) := ⟨YC.out.cell 1, YC.out.cell 2, YC.out.cell 3⟩)
    | (go_at_call 10
       refine (no_err EV2.out).mono ?_
       rintro e w' ⟨rfl, rfl⟩)
    | (go_at_call 53
       refine (m_del B sb F s c x _ HS1.out).mono ?_
       rintro e w2 ⟨va, rfl, ev, h2, u2⟩
       rw [HPE.out] at ev
       rw [HST.out] at h2
       have HS2 := Lib.hid h2
       have HD2 := Lib.hid (mboth_s HS1.out HD1.out HJ0.out (frm_same u2)).1
       have HU2 := Lib.hid (mboth_us HS1.out HU1.out (frm_same u2) HB.out)
       have YB : Hid (Blk w2 w.heap.size 79 #[.int .i64 3, .int .i64 c, .int .i64 x, .int .i64 n]) := Lib.hid (YA.out.upd u2 (HS1.out.off YA.out (by decide) (by decide) (by decide)))
       have HBW2 : Hid (B ≤ w2.heap.size) := Lib.hid (Nat.le_trans HBW1.out u2.size)
       have EV2 := Lib.hid ev
       have KA2 : Hid (KeepA w w2) := Lib.hid (fun g cs h => (KA1.out g cs h).upd u2 (HS1.out.off (KA1.out g cs h) (by decide) (by decide) (by decide)))
       clear ev h2 u2 y0 y1 y2 y3 HS1 HD1 HU1 YA HBW1 KA1
       obtain ⟨z1, z2, z3⟩ : w2.cell? ⟨w.heap.size, 1, none⟩ = some (.int .i64 c) ∧ w2.cell? ⟨w.heap.size, 2, none⟩ = some (.int .i64 x) ∧ w2.cell? ⟨w.heap.size, 3, none⟩ = some (.int .i64 n) := ⟨YB.out.cell 1, YB.out.cell 2, YB.out.cell 3⟩))
  go_wp2_with fail
  go_ret
  exact ⟨by simp, HBO.out, HU3.out, KA3.out⟩
set_option maxRecDepth 100000 in
set_option maxHeartbeats 4000000 in
theorem mdo_ok (B sb rb : Nat) (s : MS) (k c x n : Int) (w0 w : World) (h : MBoth B sb rb w s) (hkb : kB x) (hg : Typed w0) (hB : w0.heap.size ≤ B) (hu0 : Upd [] w0 w) (hBw : B ≤ w.heap.size) :
    Calls Tryz.prog 31 #[.pointer (some ⟨sb, 0, none⟩), .pointer (some ⟨rb, 0, none⟩), .agg #[.int .i64 k, .int .i64 c, .int .i64 x, .int .i64 n]] w fun e w' => MDoPost B sb rb s (k, c, x, n) w0 w e w' := by
  by_cases h0 : k = 0
  · subst h0; exact mdo_0 B sb rb s c x n w0 w h hkb hg hB hu0 hBw
  by_cases h1 : k = 1
  · subst h1; exact mdo_1 B sb rb s c x n w0 w h hkb hg hB hu0 hBw
  by_cases h2 : k = 2
  · subst h2; exact mdo_2 B sb rb s c x n w0 w h hkb hg hB hu0 hBw
  by_cases h3 : k = 3
  · subst h3; exact mdo_3 B sb rb s c x n w0 w h hkb hg hB hu0 hBw
  by_cases h4 : k = 4
  · subst h4; exact mdo_4 B sb rb s c x n w0 w h hkb hg hB hu0 hBw
  by_cases h5 : k = 5
  · subst h5; exact mdo_5 B sb rb s c x n w0 w h hkb hg hB hu0 hBw
  have d0 : (k == 0) = false := by simpa using h0
  have d1 : (k == 1) = false := by simpa using h1
  have d2 : (k == 2) = false := by simpa using h2
  have d3 : (k == 3) = false := by simpa using h3
  have d4 : (k == 4) = false := by simpa using h4
  have d5 : (k == 5) = false := by simpa using h5
  have HE : Hid (stepM s (k, c, x, n) = s) := Lib.hid (by unfold stepM; simp [h1, h2, h3])
  clear h0 h1 h2 h3 h4 h5
  obtain ⟨F, G, hs, hd, hdj⟩ := h
  have HS0 := Lib.hid hs
  have HD0 := Lib.hid hd
  have HJ0 := Lib.hid hdj
  have HG := Lib.hid hg
  have HB := Lib.hid hB
  have HU0 := Lib.hid hu0
  have HBW := Lib.hid hBw
  have HKB := Lib.hid hkb
  clear hs hd hdj hg hB hu0 hBw hkb
  go_enter Tryz.func31, Tryz.ntmps31
  go_wp2_with fail
  have UA : Hid (Upd [] w (w.alloc (.cells #[.int .i64 k, .int .i64 c, .int .i64 x, .int .i64 n] 79))) := Lib.hid ((Upd.refl [] w).alloc _)
  have YA : Hid (Blk (w.alloc (.cells #[.int .i64 k, .int .i64 c, .int .i64 x, .int .i64 n] 79)) w.heap.size 79 #[.int .i64 k, .int .i64 c, .int .i64 x, .int .i64 n]) := Lib.hid (Blk.new w _ _)
  generalize (w.alloc (.cells #[.int .i64 k, .int .i64 c, .int .i64 x, .int .i64 n] 79)) = w1 at *
  have HS1 := Lib.hid (HS0.out.upd0 UA.out)
  have HD1 := Lib.hid (HD0.out.upd0 UA.out)
  have HU1 := Lib.hid (HU0.out.trans UA.out)
  have HBW1 : Hid (B ≤ w1.heap.size) := Lib.hid (Nat.le_trans HBW.out UA.out.size)
  have KA1 : Hid (KeepA w w1) := Lib.hid (fun g cs h => h.upd UA.out (by simp))
  clear UA HS0 HD0 HU0 HBW
  have y0 : w1.cell? ⟨w.heap.size, 0, none⟩ = some (.int .i64 k) := YA.out.cell 0
  have y1 : w1.cell? ⟨w.heap.size, 1, none⟩ = some (.int .i64 c) := YA.out.cell 1
  have y2 : w1.cell? ⟨w.heap.size, 2, none⟩ = some (.int .i64 x) := YA.out.cell 2
  have y3 : w1.cell? ⟨w.heap.size, 3, none⟩ = some (.int .i64 n) := YA.out.cell 3
  go_wp2_with fail
  go_ret
  unfold MDoPost
  rw [HE.out]
  exact ⟨rfl, ⟨_, _, HS1.out, HD1.out, HJ0.out⟩, HU1.out, KA1.out⟩
end Go.Proofs.YtfbeaklplefojaaGreatDoor

/-
  concordlaw07.do, beside blocks of others (printed by gen_sdot.py).
-/
import Derived.Test.YtbpmkbcpnnpdjaaDoorSDo
import Derived.Test.YtbpmkbcpnnpdjaaDoorErrV
import Derived.Deep.RegionHeld3
set_option linter.unusedVariables false
namespace Go.Proofs.YtbpmkbcpnnpdjaaDoor
open Go.RowKit Assoc SP
attribute [local go_sem] litStep_value

/-- The program's sets and the document's, apart from the blocks T, which are as they were at wS. -/
structure TK (T F G : List Nat) (wS w : World) : Prop where
  ap : ∀ k ∈ T, k ∉ F ∧ k ∉ G ∧ k < w.heap.size
  keep : ∀ k ∈ T, w.heap[k]? = wS.heap[k]?
theorem TK.s {T F F' G : List Nat} {wS w w' : World} (h : TK T F G wS w) (f : Frm F F' w w') : TK T F' G wS w' :=
  ⟨fun k hk => ⟨fun hf => (f.sub k hf).elim (h.ap k hk).1 (fun h2 => by have := (h.ap k hk).2.2; omega), (h.ap k hk).2.1, Nat.lt_of_lt_of_le (h.ap k hk).2.2 f.upd.size⟩, fun k hk => (f.upd.keep k (h.ap k hk).2.2 (h.ap k hk).1).trans (h.keep k hk)⟩
theorem TK.d {T F G G' : List Nat} {wS w w' : World} (h : TK T F G wS w) (f : Frm G G' w w') : TK T F G' wS w' :=
  ⟨fun k hk => ⟨(h.ap k hk).1, fun hf => (f.sub k hf).elim (h.ap k hk).2.1 (fun h2 => by have := (h.ap k hk).2.2; omega), Nat.lt_of_lt_of_le (h.ap k hk).2.2 f.upd.size⟩, fun k hk => (f.upd.keep k (h.ap k hk).2.2 (h.ap k hk).2.1).trans (h.keep k hk)⟩
theorem TK.u {T F G : List Nat} {wS w w' : World} (h : TK T F G wS w) (u : Upd [] w w') : TK T F G wS w' := h.s (.of0 u)
def BothT (B sb am wm rb : Nat) (T : List Nat) (wS w : World) (s : SS) (d : DS) : Prop := ∃ F G, Sets B sb am wm F w s ∧ RefS B rb G w d ∧ Disj F G ∧ TK T F G wS w
theorem BothT.upd0 {B sb am wm rb : Nat} {T : List Nat} {wS w w' : World} {s : SS} {d : DS} (h : BothT B sb am wm rb T wS w s d) (hu : Upd [] w w') : BothT B sb am wm rb T wS w' s d := by
  obtain ⟨F, G, h1, h2, h3, h4⟩ := h
  exact ⟨F, G, h1.upd0 hu, h2.upd0 hu, h3, h4.u hu⟩
def DoPostT (B sb am wm rb : Nat) (T : List Nat) (wS : World) (s : SS) (d : DS) (a : SAct) (w0 w : World) (e : Ending) (w' : World) : Prop := ∃ b, e = .returned (.bool b) ∧ (ofSS s = d → b = true) ∧ BothT B sb am wm rb T wS w' (stepS s a) (stepD d a) ∧ Upd [] w0 w' ∧ KeepA w w'
set_option maxRecDepth 100000 in
set_option maxHeartbeats 8000000 in
theorem doT_0 (B sb am wm rb : Nat) (T : List Nat) (wS : World) (s : SS) (d : DS) (c x n : Int) (w0 w : World) (h : BothT B sb am wm rb T wS w s d) (hl : s.log.length ≤ 1000) (hg : Typed w0) (hB : w0.heap.size ≤ B) (hu0 : Upd [] w0 w) (hBw : B ≤ w.heap.size) :
    Calls Tryd.prog 11 #[.pointer (some ⟨sb, 0, none⟩), .pointer (some ⟨rb, 0, none⟩), .agg #[.int .i64 0, .int .u64 c, .int .u64 x, .int .i64 n]] w fun e w' => DoPostT B sb am wm rb T wS s d (0, c, x, n) w0 w e w' := by
  obtain ⟨F, G, hs, hd, hdj, htk⟩ := h
  have HS0 := Lib.hid hs
  have HD0 := Lib.hid hd
  have HJ0 := Lib.hid hdj
  have TK0 := Lib.hid htk
  have HLL := Lib.hid hl
  have HG := Lib.hid hg
  have HB := Lib.hid hB
  have HU0 := Lib.hid hu0
  have HBW := Lib.hid hBw
  clear hs hd hdj htk hl hg hB hu0 hBw
  go_enter Tryd.func11, Tryd.ntmps11
  go_wp2_with fail
  have UA : Hid (Upd [] w (w.alloc (.cells #[.int .i64 0, .int .u64 c, .int .u64 x, .int .i64 n] 40))) := Lib.hid ((Upd.refl [] w).alloc _)
  have YA : Hid (Blk (w.alloc (.cells #[.int .i64 0, .int .u64 c, .int .u64 x, .int .i64 n] 40)) w.heap.size 40 #[.int .i64 0, .int .u64 c, .int .u64 x, .int .i64 n]) := Lib.hid (Blk.new w _ _)
  generalize (w.alloc (.cells #[.int .i64 0, .int .u64 c, .int .u64 x, .int .i64 n] 40)) = w1 at *
  have HS1 := Lib.hid (HS0.out.upd0 UA.out)
  have HD1 := Lib.hid (HD0.out.upd0 UA.out)
  have HU1 := Lib.hid (HU0.out.trans UA.out)
  have HBW1 : Hid (B ≤ w1.heap.size) := Lib.hid (Nat.le_trans HBW.out UA.out.size)
  have KA1 : Hid (KeepA w w1) := Lib.hid (fun g cs h => h.upd UA.out (by simp))
  have TK1 := Lib.hid (TK0.out.u UA.out)
  clear UA HS0 HD0 HU0 HBW TK0
  have y0 : w1.cell? ⟨w.heap.size, 0, none⟩ = some (.int .i64 0) := YA.out.cell 0
  have y1 : w1.cell? ⟨w.heap.size, 1, none⟩ = some (.int .u64 c) := YA.out.cell 1
  have y2 : w1.cell? ⟨w.heap.size, 2, none⟩ = some (.int .u64 x) := YA.out.cell 2
  have y3 : w1.cell? ⟨w.heap.size, 3, none⟩ = some (.int .i64 n) := YA.out.cell 3
  go_wp2_with fail
  refine (s_read B sb am wm F s c n w1 HS1.out HBW1.out).mono ?_; rintro e w2 ⟨va, F2, rfl, ev, h2, f2⟩
  have HS2 := Lib.hid h2
  have HF2 := Lib.hid f2
  have HD2 := Lib.hid (both_s HS1.out HD1.out HJ0.out h2 f2).1
  have HJ2 := Lib.hid (both_s HS1.out HD1.out HJ0.out h2 f2).2
  have HU2 := Lib.hid (both_us HS1.out HU1.out f2 HB.out)
  have YB : Hid (Blk w2 w.heap.size 40 #[.int .i64 0, .int .u64 c, .int .u64 x, .int .i64 n]) := Lib.hid (YA.out.upd f2.upd (HS1.out.off YA.out (by decide) (by decide) (by decide) (by decide)))
  have HBW2 : Hid (B ≤ w2.heap.size) := Lib.hid (Nat.le_trans HBW1.out f2.upd.size)
  have EV2 := Lib.hid ev
  have TK2 := Lib.hid (TK1.out.s f2)
  have KA2 : Hid (KeepA w w2) := Lib.hid (fun g cs h => (KA1.out g cs h).upd f2.upd (HS1.out.off (KA1.out g cs h) (by decide) (by decide) (by decide) (by decide)))
  clear ev h2 f2 y0 y1 y2 y3 HS1 HD1 HJ0 HU1 YA HBW1 KA1 TK1
  have y1 : w2.cell? ⟨w.heap.size, 1, none⟩ = some (.int .u64 c) := YB.out.cell 1
  have y2 : w2.cell? ⟨w.heap.size, 2, none⟩ = some (.int .u64 x) := YB.out.cell 2
  have y3 : w2.cell? ⟨w.heap.size, 3, none⟩ = some (.int .i64 n) := YB.out.cell 3
  go_wp2_with fail
  refine (rs_read B rb G d c n w2 HD2.out HBW2.out).mono ?_; rintro e w3 ⟨G3, rfl, h3, f3⟩
  have HBO : Hid (BothT B sb am wm rb T wS w3 (sRead s c n) (dRead d c n)) := Lib.hid ⟨_, _, (both_d HS2.out HD2.out HJ2.out h3 f3).1, h3, (both_d HS2.out HD2.out HJ2.out h3 f3).2, TK2.out.d f3⟩
  have HU3 := Lib.hid (both_ud HD2.out HU2.out f3 HB.out)
  have YC : Hid (Blk w3 w.heap.size 40 #[.int .i64 0, .int .u64 c, .int .u64 x, .int .i64 n]) := Lib.hid (YB.out.upd f3.upd (HD2.out.off YB.out (by decide) (by decide) (by decide) (by decide)))
  have KA3 : Hid (KeepA w w3) := Lib.hid (fun g cs h => (KA2.out g cs h).upd f3.upd (HD2.out.off (KA2.out g cs h) (by decide) (by decide) (by decide) (by decide)))
  have EV3 := Lib.hid (EV2.out.byD HD2.out f3.upd)
  clear h3 f3 y1 y2 y3 HS2 HD2 HJ2 HU2 YB HBW2 EV2 HF2 KA2 TK2
  have y3 : w3.cell? ⟨w.heap.size, 3, none⟩ = some (.int .i64 n) := YC.out.cell 3
  obtain ⟨a1, ha1⟩ : ∃ a, (rRead s.R c n).1 = a := ⟨_, rfl⟩
  obtain ⟨a2, ha2⟩ : ∃ a, (rRead s.R c n).2.1 = a := ⟨_, rfl⟩
  obtain ⟨b1, hb1⟩ : ∃ a, (rRead d.R c n).1 = a := ⟨_, rfl⟩
  obtain ⟨b2, hb2⟩ : ∃ a, (rRead d.R c n).2.1 = a := ⟨_, rfl⟩
  have HA1 := Lib.hid ha1
  have HA2 := Lib.hid ha2
  have HB1 := Lib.hid hb1
  have HB2 := Lib.hid hb2
  rw [ha1, ha2] at EV3
  rw [hb1, hb2]
  clear ha1 ha2 hb1 hb2
  go_wp2_with fail
  refine (no_err EV3.out).mono ?_; rintro e w4 ⟨rfl, rfl⟩
  by_cases h1 : a1 = b1
  · have d1 : (a1 == b1) = true := by simpa using h1
    go_wp2_with fail
    refine (place_err EV3.out (HG.out.upd HU3.out (by simp))).mono ?_; rintro e w4 ⟨rfl, u4⟩
    have U4 := Lib.hid u4
    clear u4
    go_wp2_with fail
    go_ret
    unfold DoPostT
    refine ⟨_, rfl, fun e => ?_, HBO.out.upd0 U4.out, HU3.out.trans U4.out, fun g cs h => (KA3.out g cs h).upd U4.out (by simp)⟩
    have : a2 = b2 := by rw [← HA2.out, ← HB2.out, ← e]; rfl
    simpa using this
  · have d1 : (a1 == b1) = false := by simpa using h1
    go_wp2_with fail
    go_ret
    unfold DoPostT
    exact ⟨_, rfl, fun e => absurd (by rw [← HA1.out, ← HB1.out, ← e]; rfl) h1, HBO.out, HU3.out, KA3.out⟩
set_option maxRecDepth 100000 in
set_option maxHeartbeats 8000000 in
theorem doT_1 (B sb am wm rb : Nat) (T : List Nat) (wS : World) (s : SS) (d : DS) (c x n : Int) (w0 w : World) (h : BothT B sb am wm rb T wS w s d) (hl : s.log.length ≤ 1000) (hg : Typed w0) (hB : w0.heap.size ≤ B) (hu0 : Upd [] w0 w) (hBw : B ≤ w.heap.size) :
    Calls Tryd.prog 11 #[.pointer (some ⟨sb, 0, none⟩), .pointer (some ⟨rb, 0, none⟩), .agg #[.int .i64 1, .int .u64 c, .int .u64 x, .int .i64 n]] w fun e w' => DoPostT B sb am wm rb T wS s d (1, c, x, n) w0 w e w' := by
  obtain ⟨F, G, hs, hd, hdj, htk⟩ := h
  have HS0 := Lib.hid hs
  have HD0 := Lib.hid hd
  have HJ0 := Lib.hid hdj
  have TK0 := Lib.hid htk
  have HLL := Lib.hid hl
  have HG := Lib.hid hg
  have HB := Lib.hid hB
  have HU0 := Lib.hid hu0
  have HBW := Lib.hid hBw
  clear hs hd hdj htk hl hg hB hu0 hBw
  go_enter Tryd.func11, Tryd.ntmps11
  go_wp2_with fail
  have UA : Hid (Upd [] w (w.alloc (.cells #[.int .i64 1, .int .u64 c, .int .u64 x, .int .i64 n] 40))) := Lib.hid ((Upd.refl [] w).alloc _)
  have YA : Hid (Blk (w.alloc (.cells #[.int .i64 1, .int .u64 c, .int .u64 x, .int .i64 n] 40)) w.heap.size 40 #[.int .i64 1, .int .u64 c, .int .u64 x, .int .i64 n]) := Lib.hid (Blk.new w _ _)
  generalize (w.alloc (.cells #[.int .i64 1, .int .u64 c, .int .u64 x, .int .i64 n] 40)) = w1 at *
  have HS1 := Lib.hid (HS0.out.upd0 UA.out)
  have HD1 := Lib.hid (HD0.out.upd0 UA.out)
  have HU1 := Lib.hid (HU0.out.trans UA.out)
  have HBW1 : Hid (B ≤ w1.heap.size) := Lib.hid (Nat.le_trans HBW.out UA.out.size)
  have KA1 : Hid (KeepA w w1) := Lib.hid (fun g cs h => h.upd UA.out (by simp))
  have TK1 := Lib.hid (TK0.out.u UA.out)
  clear UA HS0 HD0 HU0 HBW TK0
  have y0 : w1.cell? ⟨w.heap.size, 0, none⟩ = some (.int .i64 1) := YA.out.cell 0
  have y1 : w1.cell? ⟨w.heap.size, 1, none⟩ = some (.int .u64 c) := YA.out.cell 1
  have y2 : w1.cell? ⟨w.heap.size, 2, none⟩ = some (.int .u64 x) := YA.out.cell 2
  have y3 : w1.cell? ⟨w.heap.size, 3, none⟩ = some (.int .i64 n) := YA.out.cell 3
  have HS1' := Lib.hid (HS1.out.upd0 (Upd.refl [] w1).drew)
  have HD1' := Lib.hid (HD1.out.upd0 (Upd.refl [] w1).drew)
  have HU1' := Lib.hid HU1.out.drew
  have YA' := Lib.hid YA.out.drew
  have HBW1' : Hid (B ≤ w1.drew.heap.size) := Lib.hid HBW1.out
  have TK1' := Lib.hid (TK1.out.u (Upd.refl [] w1).drew)
  have KA1' : Hid (KeepA w w1.drew) := Lib.hid (fun g cs h => (KA1.out g cs h).drew)
  clear HS1 HD1 HU1 YA HBW1 KA1 TK1
  have HS1 := HS1'
  have HD1 := HD1'
  have HU1 := HU1'
  have YA := YA'
  have HBW1 := HBW1'
  have KA1 := KA1'
  have TK1 := TK1'
  clear HS1' HD1' HU1' YA' HBW1' KA1' TK1'
  go_region_held3 (fun W => W.cell? ⟨w.heap.size, 1, none⟩ = some (.int .u64 c) ∧ W.cell? ⟨w.heap.size, 2, none⟩ = some (.int .u64 x)) (first | exact ⟨x1, x2⟩ | exact ⟨z1, z2⟩ | exact ⟨y1, y2⟩) (first
    | (go_at_call 28
       refine (rs_write B rb G d c x w2 HD2.out HBW2.out).mono ?_
       rintro e w3 ⟨G3, rfl, h3, f3⟩
       have HBO : Hid (BothT B sb am wm rb T wS w3 (sWrite s c x) (dWrite d c x)) := Lib.hid ⟨_, _, (both_d HS2.out HD2.out HJ2.out h3 f3).1, h3, (both_d HS2.out HD2.out HJ2.out h3 f3).2, TK2.out.d f3⟩
       have HU3 := Lib.hid (both_ud HD2.out HU2.out f3 HB.out)
       have YC : Hid (Blk w3 w.heap.size 40 #[.int .i64 1, .int .u64 c, .int .u64 x, .int .i64 n]) := Lib.hid (YB.out.upd f3.upd (HD2.out.off YB.out (by decide) (by decide) (by decide) (by decide)))
       have KA3 : Hid (KeepA w w3) := Lib.hid (fun g cs h => (KA2.out g cs h).upd f3.upd (HD2.out.off (KA2.out g cs h) (by decide) (by decide) (by decide) (by decide)))
       have EV3 := Lib.hid (EV2.out.byD HD2.out f3.upd)
       clear h3 f3 y1 y2 y3 HS2 HD2 HJ2 HU2 YB HBW2 EV2 HF2 KA2 TK2
       have y3 : w3.cell? ⟨w.heap.size, 3, none⟩ = some (.int .i64 n) := YC.out.cell 3
       obtain ⟨x1, x2⟩ : w3.cell? ⟨w.heap.size, 1, none⟩ = some (.int .u64 c) ∧ w3.cell? ⟨w.heap.size, 2, none⟩ = some (.int .u64 x) := ⟨YC.out.cell 1, YC.out.cell 2⟩)
    | (go_at_call 10
       refine (no_err EV2.out).mono ?_
       rintro e w' ⟨rfl, rfl⟩)
    | (go_at_call 16
       refine (s_write B sb am wm F s c x _ HS1.out HBW1.out HLL.out).mono ?_
       rintro e w2 ⟨va, F2, rfl, ev, h2, f2⟩
       have HS2 := Lib.hid h2
       have HF2 := Lib.hid f2
       have HD2 := Lib.hid (both_s HS1.out HD1.out HJ0.out h2 f2).1
       have HJ2 := Lib.hid (both_s HS1.out HD1.out HJ0.out h2 f2).2
       have HU2 := Lib.hid (both_us HS1.out HU1.out f2 HB.out)
       have YB : Hid (Blk w2 w.heap.size 40 #[.int .i64 1, .int .u64 c, .int .u64 x, .int .i64 n]) := Lib.hid (YA.out.upd f2.upd (HS1.out.off YA.out (by decide) (by decide) (by decide) (by decide)))
       have HBW2 : Hid (B ≤ w2.heap.size) := Lib.hid (Nat.le_trans HBW1.out f2.upd.size)
       have EV2 := Lib.hid ev
       have TK2 := Lib.hid (TK1.out.s f2)
       have KA2 : Hid (KeepA w w2) := Lib.hid (fun g cs h => (KA1.out g cs h).upd f2.upd (HS1.out.off (KA1.out g cs h) (by decide) (by decide) (by decide) (by decide)))
       clear ev h2 f2 y0 y1 y2 y3 HS1 HD1 HJ0 HU1 YA HBW1 KA1 TK1
       have y1 : w2.cell? ⟨w.heap.size, 1, none⟩ = some (.int .u64 c) := YB.out.cell 1
       have y2 : w2.cell? ⟨w.heap.size, 2, none⟩ = some (.int .u64 x) := YB.out.cell 2
       have y3 : w2.cell? ⟨w.heap.size, 3, none⟩ = some (.int .i64 n) := YB.out.cell 3
       obtain ⟨z1, z2⟩ : w2.cell? ⟨w.heap.size, 1, none⟩ = some (.int .u64 c) ∧ w2.cell? ⟨w.heap.size, 2, none⟩ = some (.int .u64 x) := ⟨YB.out.cell 1, YB.out.cell 2⟩))
  go_wp2_with fail
  go_ret
  unfold DoPostT
  refine ⟨_, rfl, fun e => ?_, HBO.out, HU3.out, KA3.out⟩
  subst e
  simp [ofSS]
set_option maxRecDepth 100000 in
set_option maxHeartbeats 8000000 in
theorem doT_2 (B sb am wm rb : Nat) (T : List Nat) (wS : World) (s : SS) (d : DS) (c x n : Int) (w0 w : World) (h : BothT B sb am wm rb T wS w s d) (hl : s.log.length ≤ 1000) (hg : Typed w0) (hB : w0.heap.size ≤ B) (hu0 : Upd [] w0 w) (hBw : B ≤ w.heap.size) :
    Calls Tryd.prog 11 #[.pointer (some ⟨sb, 0, none⟩), .pointer (some ⟨rb, 0, none⟩), .agg #[.int .i64 2, .int .u64 c, .int .u64 x, .int .i64 n]] w fun e w' => DoPostT B sb am wm rb T wS s d (2, c, x, n) w0 w e w' := by
  obtain ⟨F, G, hs, hd, hdj, htk⟩ := h
  have HS0 := Lib.hid hs
  have HD0 := Lib.hid hd
  have HJ0 := Lib.hid hdj
  have TK0 := Lib.hid htk
  have HLL := Lib.hid hl
  have HG := Lib.hid hg
  have HB := Lib.hid hB
  have HU0 := Lib.hid hu0
  have HBW := Lib.hid hBw
  clear hs hd hdj htk hl hg hB hu0 hBw
  go_enter Tryd.func11, Tryd.ntmps11
  go_wp2_with fail
  have UA : Hid (Upd [] w (w.alloc (.cells #[.int .i64 2, .int .u64 c, .int .u64 x, .int .i64 n] 40))) := Lib.hid ((Upd.refl [] w).alloc _)
  have YA : Hid (Blk (w.alloc (.cells #[.int .i64 2, .int .u64 c, .int .u64 x, .int .i64 n] 40)) w.heap.size 40 #[.int .i64 2, .int .u64 c, .int .u64 x, .int .i64 n]) := Lib.hid (Blk.new w _ _)
  generalize (w.alloc (.cells #[.int .i64 2, .int .u64 c, .int .u64 x, .int .i64 n] 40)) = w1 at *
  have HS1 := Lib.hid (HS0.out.upd0 UA.out)
  have HD1 := Lib.hid (HD0.out.upd0 UA.out)
  have HU1 := Lib.hid (HU0.out.trans UA.out)
  have HBW1 : Hid (B ≤ w1.heap.size) := Lib.hid (Nat.le_trans HBW.out UA.out.size)
  have KA1 : Hid (KeepA w w1) := Lib.hid (fun g cs h => h.upd UA.out (by simp))
  have TK1 := Lib.hid (TK0.out.u UA.out)
  clear UA HS0 HD0 HU0 HBW TK0
  have y0 : w1.cell? ⟨w.heap.size, 0, none⟩ = some (.int .i64 2) := YA.out.cell 0
  have y1 : w1.cell? ⟨w.heap.size, 1, none⟩ = some (.int .u64 c) := YA.out.cell 1
  have y2 : w1.cell? ⟨w.heap.size, 2, none⟩ = some (.int .u64 x) := YA.out.cell 2
  have y3 : w1.cell? ⟨w.heap.size, 3, none⟩ = some (.int .i64 n) := YA.out.cell 3
  have HS1' := Lib.hid (HS1.out.upd0 (Upd.refl [] w1).drew)
  have HD1' := Lib.hid (HD1.out.upd0 (Upd.refl [] w1).drew)
  have HU1' := Lib.hid HU1.out.drew
  have YA' := Lib.hid YA.out.drew
  have HBW1' : Hid (B ≤ w1.drew.heap.size) := Lib.hid HBW1.out
  have TK1' := Lib.hid (TK1.out.u (Upd.refl [] w1).drew)
  have KA1' : Hid (KeepA w w1.drew) := Lib.hid (fun g cs h => (KA1.out g cs h).drew)
  clear HS1 HD1 HU1 YA HBW1 KA1 TK1
  have HS1 := HS1'
  have HD1 := HD1'
  have HU1 := HU1'
  have YA := YA'
  have HBW1 := HBW1'
  have KA1 := KA1'
  have TK1 := TK1'
  clear HS1' HD1' HU1' YA' HBW1' KA1' TK1'
  go_region_held3 (fun W => W.cell? ⟨w.heap.size, 1, none⟩ = some (.int .u64 c) ∧ W.cell? ⟨w.heap.size, 2, none⟩ = some (.int .u64 x)) (first | exact ⟨x1, x2⟩ | exact ⟨z1, z2⟩ | exact ⟨y1, y2⟩) (first
    | (go_at_call 28
       refine (rs_write B rb G d c x w2 HD2.out HBW2.out).mono ?_
       rintro e w3 ⟨G3, rfl, h3, f3⟩
       have HBO : Hid (BothT B sb am wm rb T wS w3 (sWrite s c x) (dWrite d c x)) := Lib.hid ⟨_, _, (both_d HS2.out HD2.out HJ2.out h3 f3).1, h3, (both_d HS2.out HD2.out HJ2.out h3 f3).2, TK2.out.d f3⟩
       have HU3 := Lib.hid (both_ud HD2.out HU2.out f3 HB.out)
       have YC : Hid (Blk w3 w.heap.size 40 #[.int .i64 2, .int .u64 c, .int .u64 x, .int .i64 n]) := Lib.hid (YB.out.upd f3.upd (HD2.out.off YB.out (by decide) (by decide) (by decide) (by decide)))
       have KA3 : Hid (KeepA w w3) := Lib.hid (fun g cs h => (KA2.out g cs h).upd f3.upd (HD2.out.off (KA2.out g cs h) (by decide) (by decide) (by decide) (by decide)))
       have EV3 := Lib.hid (EV2.out.byD HD2.out f3.upd)
       clear h3 f3 y1 y2 y3 HS2 HD2 HJ2 HU2 YB HBW2 EV2 HF2 KA2 TK2
       have y3 : w3.cell? ⟨w.heap.size, 3, none⟩ = some (.int .i64 n) := YC.out.cell 3
       obtain ⟨x1, x2⟩ : w3.cell? ⟨w.heap.size, 1, none⟩ = some (.int .u64 c) ∧ w3.cell? ⟨w.heap.size, 2, none⟩ = some (.int .u64 x) := ⟨YC.out.cell 1, YC.out.cell 2⟩)
    | (go_at_call 10
       refine (no_err EV2.out).mono ?_
       rintro e w' ⟨rfl, rfl⟩)
    | (go_at_call 16
       refine (s_write B sb am wm F s c x _ HS1.out HBW1.out HLL.out).mono ?_
       rintro e w2 ⟨va, F2, rfl, ev, h2, f2⟩
       have HS2 := Lib.hid h2
       have HF2 := Lib.hid f2
       have HD2 := Lib.hid (both_s HS1.out HD1.out HJ0.out h2 f2).1
       have HJ2 := Lib.hid (both_s HS1.out HD1.out HJ0.out h2 f2).2
       have HU2 := Lib.hid (both_us HS1.out HU1.out f2 HB.out)
       have YB : Hid (Blk w2 w.heap.size 40 #[.int .i64 2, .int .u64 c, .int .u64 x, .int .i64 n]) := Lib.hid (YA.out.upd f2.upd (HS1.out.off YA.out (by decide) (by decide) (by decide) (by decide)))
       have HBW2 : Hid (B ≤ w2.heap.size) := Lib.hid (Nat.le_trans HBW1.out f2.upd.size)
       have EV2 := Lib.hid ev
       have TK2 := Lib.hid (TK1.out.s f2)
       have KA2 : Hid (KeepA w w2) := Lib.hid (fun g cs h => (KA1.out g cs h).upd f2.upd (HS1.out.off (KA1.out g cs h) (by decide) (by decide) (by decide) (by decide)))
       clear ev h2 f2 y0 y1 y2 y3 HS1 HD1 HJ0 HU1 YA HBW1 KA1 TK1
       have y1 : w2.cell? ⟨w.heap.size, 1, none⟩ = some (.int .u64 c) := YB.out.cell 1
       have y2 : w2.cell? ⟨w.heap.size, 2, none⟩ = some (.int .u64 x) := YB.out.cell 2
       have y3 : w2.cell? ⟨w.heap.size, 3, none⟩ = some (.int .i64 n) := YB.out.cell 3
       obtain ⟨z1, z2⟩ : w2.cell? ⟨w.heap.size, 1, none⟩ = some (.int .u64 c) ∧ w2.cell? ⟨w.heap.size, 2, none⟩ = some (.int .u64 x) := ⟨YB.out.cell 1, YB.out.cell 2⟩))
  go_wp2_with fail
  go_ret
  unfold DoPostT
  refine ⟨_, rfl, fun e => ?_, HBO.out, HU3.out, KA3.out⟩
  subst e
  simp [ofSS]
set_option maxRecDepth 100000 in
set_option maxHeartbeats 8000000 in
theorem doT_3 (B sb am wm rb : Nat) (T : List Nat) (wS : World) (s : SS) (d : DS) (c x n : Int) (w0 w : World) (h : BothT B sb am wm rb T wS w s d) (hl : s.log.length ≤ 1000) (hg : Typed w0) (hB : w0.heap.size ≤ B) (hu0 : Upd [] w0 w) (hBw : B ≤ w.heap.size) :
    Calls Tryd.prog 11 #[.pointer (some ⟨sb, 0, none⟩), .pointer (some ⟨rb, 0, none⟩), .agg #[.int .i64 3, .int .u64 c, .int .u64 x, .int .i64 n]] w fun e w' => DoPostT B sb am wm rb T wS s d (3, c, x, n) w0 w e w' := by
  obtain ⟨F, G, hs, hd, hdj, htk⟩ := h
  have HS0 := Lib.hid hs
  have HD0 := Lib.hid hd
  have HJ0 := Lib.hid hdj
  have TK0 := Lib.hid htk
  have HLL := Lib.hid hl
  have HG := Lib.hid hg
  have HB := Lib.hid hB
  have HU0 := Lib.hid hu0
  have HBW := Lib.hid hBw
  clear hs hd hdj htk hl hg hB hu0 hBw
  go_enter Tryd.func11, Tryd.ntmps11
  go_wp2_with fail
  have UA : Hid (Upd [] w (w.alloc (.cells #[.int .i64 3, .int .u64 c, .int .u64 x, .int .i64 n] 40))) := Lib.hid ((Upd.refl [] w).alloc _)
  have YA : Hid (Blk (w.alloc (.cells #[.int .i64 3, .int .u64 c, .int .u64 x, .int .i64 n] 40)) w.heap.size 40 #[.int .i64 3, .int .u64 c, .int .u64 x, .int .i64 n]) := Lib.hid (Blk.new w _ _)
  generalize (w.alloc (.cells #[.int .i64 3, .int .u64 c, .int .u64 x, .int .i64 n] 40)) = w1 at *
  have HS1 := Lib.hid (HS0.out.upd0 UA.out)
  have HD1 := Lib.hid (HD0.out.upd0 UA.out)
  have HU1 := Lib.hid (HU0.out.trans UA.out)
  have HBW1 : Hid (B ≤ w1.heap.size) := Lib.hid (Nat.le_trans HBW.out UA.out.size)
  have KA1 : Hid (KeepA w w1) := Lib.hid (fun g cs h => h.upd UA.out (by simp))
  have TK1 := Lib.hid (TK0.out.u UA.out)
  clear UA HS0 HD0 HU0 HBW TK0
  have y0 : w1.cell? ⟨w.heap.size, 0, none⟩ = some (.int .i64 3) := YA.out.cell 0
  have y1 : w1.cell? ⟨w.heap.size, 1, none⟩ = some (.int .u64 c) := YA.out.cell 1
  have y2 : w1.cell? ⟨w.heap.size, 2, none⟩ = some (.int .u64 x) := YA.out.cell 2
  have y3 : w1.cell? ⟨w.heap.size, 3, none⟩ = some (.int .i64 n) := YA.out.cell 3
  go_wp2_with fail
  refine (s_mark B sb am wm F s w1 HS1.out HBW1.out).mono ?_; rintro e w2 ⟨va, F2, rfl, ev, h2, f2⟩
  obtain ⟨a1, ha1⟩ : ∃ a, ((if 20 ≤ s.marks.length then 0 else (s.marks.length + 1 : Nat)) : Int) = a := ⟨_, rfl⟩
  obtain ⟨a2, ha2⟩ : ∃ a, ((if 20 ≤ s.marks.length then 10 else 0) : Int) = a := ⟨_, rfl⟩
  rw [ha1]
  rw [ha2] at ev
  have HS2 := Lib.hid h2
  have HF2 := Lib.hid f2
  have HD2 := Lib.hid (both_s HS1.out HD1.out HJ0.out h2 f2).1
  have HJ2 := Lib.hid (both_s HS1.out HD1.out HJ0.out h2 f2).2
  have HU2 := Lib.hid (both_us HS1.out HU1.out f2 HB.out)
  have YB : Hid (Blk w2 w.heap.size 40 #[.int .i64 3, .int .u64 c, .int .u64 x, .int .i64 n]) := Lib.hid (YA.out.upd f2.upd (HS1.out.off YA.out (by decide) (by decide) (by decide) (by decide)))
  have HBW2 : Hid (B ≤ w2.heap.size) := Lib.hid (Nat.le_trans HBW1.out f2.upd.size)
  have EV2 := Lib.hid ev
  have TK2 := Lib.hid (TK1.out.s f2)
  have KA2 : Hid (KeepA w w2) := Lib.hid (fun g cs h => (KA1.out g cs h).upd f2.upd (HS1.out.off (KA1.out g cs h) (by decide) (by decide) (by decide) (by decide)))
  clear ev h2 f2 y0 y1 y2 y3 HS1 HD1 HJ0 HU1 YA HBW1 KA1 TK1
  have y1 : w2.cell? ⟨w.heap.size, 1, none⟩ = some (.int .u64 c) := YB.out.cell 1
  have y2 : w2.cell? ⟨w.heap.size, 2, none⟩ = some (.int .u64 x) := YB.out.cell 2
  have y3 : w2.cell? ⟨w.heap.size, 3, none⟩ = some (.int .i64 n) := YB.out.cell 3
  have HL3 : Hid (ofSS s = d → s.marks.length = d.M.length) := Lib.hid (fun e => by rw [← e]; simp [ofSS, atM])
  have HA1 := Lib.hid ha1
  have HA2 := Lib.hid ha2
  clear ha1 ha2
  go_wp2_with fail
  refine (rs_mark B rb G d w2 HD2.out HBW2.out).mono ?_; rintro e w3 ⟨G3, rfl, h3, f3⟩
  obtain ⟨b1, hb1⟩ : ∃ a, ((if 20 ≤ d.M.length then 0 else (d.M.length + 1 : Nat)) : Int) = a := ⟨_, rfl⟩
  obtain ⟨b2, hb2⟩ : ∃ a, ((if 20 ≤ d.M.length then 10 else 0) : Int) = a := ⟨_, rfl⟩
  rw [hb1, hb2]
  have HBO : Hid (BothT B sb am wm rb T wS w3 (sMark s) (dMark d)) := Lib.hid ⟨_, _, (both_d HS2.out HD2.out HJ2.out h3 f3).1, h3, (both_d HS2.out HD2.out HJ2.out h3 f3).2, TK2.out.d f3⟩
  have HU3 := Lib.hid (both_ud HD2.out HU2.out f3 HB.out)
  have YC : Hid (Blk w3 w.heap.size 40 #[.int .i64 3, .int .u64 c, .int .u64 x, .int .i64 n]) := Lib.hid (YB.out.upd f3.upd (HD2.out.off YB.out (by decide) (by decide) (by decide) (by decide)))
  have KA3 : Hid (KeepA w w3) := Lib.hid (fun g cs h => (KA2.out g cs h).upd f3.upd (HD2.out.off (KA2.out g cs h) (by decide) (by decide) (by decide) (by decide)))
  have EV3 := Lib.hid (EV2.out.byD HD2.out f3.upd)
  clear h3 f3 y1 y2 y3 HS2 HD2 HJ2 HU2 YB HBW2 EV2 HF2 KA2 TK2
  have y3 : w3.cell? ⟨w.heap.size, 3, none⟩ = some (.int .i64 n) := YC.out.cell 3
  have HB1 := Lib.hid hb1
  have HB2 := Lib.hid hb2
  clear hb1 hb2
  by_cases h1 : a1 = b1
  · have d1 : (a1 == b1) = true := by simpa using h1
    go_wp2_with fail
    refine (no_err EV3.out).mono ?_; rintro e w4 ⟨rfl, rfl⟩
    go_wp2_with fail
    go_ret
    unfold DoPostT
    refine ⟨_, rfl, fun e => ?_, HBO.out, HU3.out, KA3.out⟩
    have : a2 = b2 := by rw [← HA2.out, ← HB2.out, HL3.out e]
    simpa using this
  · have d1 : (a1 == b1) = false := by simpa using h1
    go_wp2_with fail
    go_ret
    unfold DoPostT
    exact ⟨_, rfl, fun e => absurd (by rw [← HA1.out, ← HB1.out, HL3.out e]) h1, HBO.out, HU3.out, KA3.out⟩
set_option maxRecDepth 100000 in
set_option maxHeartbeats 8000000 in
theorem doT_4 (B sb am wm rb : Nat) (T : List Nat) (wS : World) (s : SS) (d : DS) (c x n : Int) (w0 w : World) (h : BothT B sb am wm rb T wS w s d) (hl : s.log.length ≤ 1000) (hg : Typed w0) (hB : w0.heap.size ≤ B) (hu0 : Upd [] w0 w) (hBw : B ≤ w.heap.size) :
    Calls Tryd.prog 11 #[.pointer (some ⟨sb, 0, none⟩), .pointer (some ⟨rb, 0, none⟩), .agg #[.int .i64 4, .int .u64 c, .int .u64 x, .int .i64 n]] w fun e w' => DoPostT B sb am wm rb T wS s d (4, c, x, n) w0 w e w' := by
  obtain ⟨F, G, hs, hd, hdj, htk⟩ := h
  have HS0 := Lib.hid hs
  have HD0 := Lib.hid hd
  have HJ0 := Lib.hid hdj
  have TK0 := Lib.hid htk
  have HLL := Lib.hid hl
  have HG := Lib.hid hg
  have HB := Lib.hid hB
  have HU0 := Lib.hid hu0
  have HBW := Lib.hid hBw
  clear hs hd hdj htk hl hg hB hu0 hBw
  go_enter Tryd.func11, Tryd.ntmps11
  go_wp2_with fail
  have UA : Hid (Upd [] w (w.alloc (.cells #[.int .i64 4, .int .u64 c, .int .u64 x, .int .i64 n] 40))) := Lib.hid ((Upd.refl [] w).alloc _)
  have YA : Hid (Blk (w.alloc (.cells #[.int .i64 4, .int .u64 c, .int .u64 x, .int .i64 n] 40)) w.heap.size 40 #[.int .i64 4, .int .u64 c, .int .u64 x, .int .i64 n]) := Lib.hid (Blk.new w _ _)
  generalize (w.alloc (.cells #[.int .i64 4, .int .u64 c, .int .u64 x, .int .i64 n] 40)) = w1 at *
  have HS1 := Lib.hid (HS0.out.upd0 UA.out)
  have HD1 := Lib.hid (HD0.out.upd0 UA.out)
  have HU1 := Lib.hid (HU0.out.trans UA.out)
  have HBW1 : Hid (B ≤ w1.heap.size) := Lib.hid (Nat.le_trans HBW.out UA.out.size)
  have KA1 : Hid (KeepA w w1) := Lib.hid (fun g cs h => h.upd UA.out (by simp))
  have TK1 := Lib.hid (TK0.out.u UA.out)
  clear UA HS0 HD0 HU0 HBW TK0
  have y0 : w1.cell? ⟨w.heap.size, 0, none⟩ = some (.int .i64 4) := YA.out.cell 0
  have y1 : w1.cell? ⟨w.heap.size, 1, none⟩ = some (.int .u64 c) := YA.out.cell 1
  have y2 : w1.cell? ⟨w.heap.size, 2, none⟩ = some (.int .u64 x) := YA.out.cell 2
  have y3 : w1.cell? ⟨w.heap.size, 3, none⟩ = some (.int .i64 n) := YA.out.cell 3
  have HS1' := Lib.hid (HS1.out.upd0 (Upd.refl [] w1).drew)
  have HD1' := Lib.hid (HD1.out.upd0 (Upd.refl [] w1).drew)
  have HU1' := Lib.hid HU1.out.drew
  have YA' := Lib.hid YA.out.drew
  have HBW1' : Hid (B ≤ w1.drew.heap.size) := Lib.hid HBW1.out
  have TK1' := Lib.hid (TK1.out.u (Upd.refl [] w1).drew)
  have KA1' : Hid (KeepA w w1.drew) := Lib.hid (fun g cs h => (KA1.out g cs h).drew)
  clear HS1 HD1 HU1 YA HBW1 KA1 TK1
  have HS1 := HS1'
  have HD1 := HD1'
  have HU1 := HU1'
  have YA := YA'
  have HBW1 := HBW1'
  have KA1 := KA1'
  have TK1 := TK1'
  clear HS1' HD1' HU1' YA' HBW1' KA1' TK1'
  go_region_held3 (fun W => W.cell? ⟨w.heap.size, 3, none⟩ = some (.int .i64 n)) (first | exact x3 | exact z3 | exact y3) (first
    | (go_at_call 30
       refine (rs_keep B rb G d n w2 HD2.out).mono ?_
       rintro e w3 ⟨G3, rfl, h3, f3⟩
       obtain ⟨fv, hfv⟩ : ∃ f, (if isD d n then (0 : Int) else 6) = f := ⟨_, rfl⟩
       rw [hfv]
       have HFV := Lib.hid hfv
       clear hfv
       have HBO : Hid (BothT B sb am wm rb T wS w3 (stepS s (4, c, x, n)) (stepD d (4, c, x, n))) := Lib.hid ⟨_, _, (both_d HS2.out HD2.out HJ2.out h3 f3).1, h3, (both_d HS2.out HD2.out HJ2.out h3 f3).2, TK2.out.d f3⟩
       have HU3 := Lib.hid (both_ud HD2.out HU2.out f3 HB.out)
       have YC : Hid (Blk w3 w.heap.size 40 #[.int .i64 4, .int .u64 c, .int .u64 x, .int .i64 n]) := Lib.hid (YB.out.upd f3.upd (HD2.out.off YB.out (by decide) (by decide) (by decide) (by decide)))
       have KA3 : Hid (KeepA w w3) := Lib.hid (fun g cs h => (KA2.out g cs h).upd f3.upd (HD2.out.off (KA2.out g cs h) (by decide) (by decide) (by decide) (by decide)))
       have EV3 := Lib.hid (EV2.out.byD HD2.out f3.upd)
       clear h3 f3 y1 y2 y3 HS2 HD2 HJ2 HU2 YB HBW2 EV2 HF2 KA2 TK2
       have y3 : w3.cell? ⟨w.heap.size, 3, none⟩ = some (.int .i64 n) := YC.out.cell 3
       have x3 := y3)
    | (go_at_call 17
       refine (s_keep B sb am wm F s n _ HS1.out).mono ?_
       rintro e w2 ⟨va, F2, rfl, ev, h2, f2⟩
       have HS2 := Lib.hid h2
       have HF2 := Lib.hid f2
       have HD2 := Lib.hid (both_s HS1.out HD1.out HJ0.out h2 f2).1
       have HJ2 := Lib.hid (both_s HS1.out HD1.out HJ0.out h2 f2).2
       have HU2 := Lib.hid (both_us HS1.out HU1.out f2 HB.out)
       have YB : Hid (Blk w2 w.heap.size 40 #[.int .i64 4, .int .u64 c, .int .u64 x, .int .i64 n]) := Lib.hid (YA.out.upd f2.upd (HS1.out.off YA.out (by decide) (by decide) (by decide) (by decide)))
       have HBW2 : Hid (B ≤ w2.heap.size) := Lib.hid (Nat.le_trans HBW1.out f2.upd.size)
       have EV2 := Lib.hid ev
       have TK2 := Lib.hid (TK1.out.s f2)
       have KA2 : Hid (KeepA w w2) := Lib.hid (fun g cs h => (KA1.out g cs h).upd f2.upd (HS1.out.off (KA1.out g cs h) (by decide) (by decide) (by decide) (by decide)))
       clear ev h2 f2 y0 y1 y2 y3 HS1 HD1 HJ0 HU1 YA HBW1 KA1 TK1
       have y1 : w2.cell? ⟨w.heap.size, 1, none⟩ = some (.int .u64 c) := YB.out.cell 1
       have y2 : w2.cell? ⟨w.heap.size, 2, none⟩ = some (.int .u64 x) := YB.out.cell 2
       have y3 : w2.cell? ⟨w.heap.size, 3, none⟩ = some (.int .i64 n) := YB.out.cell 3
       have z3 := y3))
  have HIM : Hid (ofSS s = d → isM s n = isD d n) := Lib.hid (fun e => by rw [← e, isD_of])
  have HST : Hid (BothT B sb am wm rb T wS w3 (stepS s (4, c, x, n)) (stepD d (4, c, x, n))) := Lib.hid HBO.out
  have CB : Hid (∀ W', Upd [] w3.drew W' → W'.cell? ⟨w.heap.size, 3, none⟩ = some (.int .i64 n)) := Lib.hid (fun W' hW => (YC.out.upd ((Upd.refl [] w3).drew.trans hW) (by simp)).cell 3)
  clear HBO y3
  try clear z3
  try clear x3
  cases hm : isM s n with
  | true =>
    rw [hm] at EV3 HIM
    simp only [if_true] at EV3
    clear hm
    cases hd : isD d n with
    | true =>
      obtain rfl : (0 : Int) = fv := by have := HFV.out; rw [hd] at this; exact this
      clear hd HFV
      go_wp2_with fail
      refine wp_invN [(1, .det (.int .i64 0))] [] (by kernel_rfl) (by kernel_rfl) (by kernel_rfl) ⟨lasts_det _, trivial⟩ ?_
      with_reducible apply wpV_light
      · simp only [lightOp]
      · intro W hU hF
        have f0 := CB.out W hU
        clear hU hF
        go_simp
        exact rfl
      simp only [Act.put, List.setIfInBounds_toArray, List.set_cons_zero, List.set_cons_succ]
      refine wpV_heavy (by simp only [lightOp]) (by rfl) (fun W hU hk hF K hK => ?_) ?_
      · go_wp2_with fail
        refine (no_err (EV3.out.upd ((Upd.refl [] _).drew.trans hU))).mono ?_; rintro e w2 ⟨rfl, rfl⟩
        go_wp2_with fail
        exact hK.out _ _ (outV_new rfl rfl (by intro b hb; cases hb) (.refl _ _))
      rintro _ rfl
      simp only [Act.put, List.setIfInBounds_toArray, List.set_cons_zero, List.set_cons_succ]
      with_reducible apply wpV_light
      · simp only [lightOp]
      · intro W hU hF
        have f0 := CB.out W hU
        clear hU hF
        go_simp
        exact rfl
      simp only [Act.put, List.setIfInBounds_toArray, List.set_cons_zero, List.set_cons_succ]
      with_reducible apply wpV_light
      · simp only [lightOp]
      · intro W hU hF
        have f0 := CB.out W hU
        clear hU hF
        go_simp
        exact rfl
      simp only [Act.put, List.setIfInBounds_toArray, List.set_cons_zero, List.set_cons_succ]
      with_reducible apply wpV_light
      · simp only [lightOp]
      · intro W hU hF
        have f0 := CB.out W hU
        clear hU hF
        go_simp
        exact rfl
      simp only [Act.put, List.setIfInBounds_toArray, List.set_cons_zero, List.set_cons_succ]
      with_reducible apply wpV_light
      · simp only [lightOp]
      · intro W hU hF
        have f0 := CB.out W hU
        clear hU hF
        go_simp
        exact rfl
      simp only [Act.put, List.setIfInBounds_toArray, List.set_cons_zero, List.set_cons_succ]
      with_reducible apply wpV_light
      · simp only [lightOp]
      · intro W hU hF
        have f0 := CB.out W hU
        clear hU hF
        go_simp
        exact rfl
      simp only [Act.put, List.setIfInBounds_toArray, List.set_cons_zero, List.set_cons_succ]
      with_reducible apply wpV_light
      · simp only [lightOp]
      · intro W hU hF
        have f0 := CB.out W hU
        clear hU hF
        go_simp
        exact rfl
      simp only [Act.put, List.setIfInBounds_toArray, List.set_cons_zero, List.set_cons_succ]
      refine wpV_skip (by rfl) (by simp only [lightOp]) ?_
      simp only [Act.put, List.setIfInBounds_toArray, List.set_cons_zero, List.set_cons_succ]
      refine wpV_heavySkip (by simp only [lightOp]) (by rfl) (fun W hU hk => outV_new rfl trivial (by intro b hb; cases hb) (.refl _ _)) ?_
      rintro _ trivial
      simp only [Act.put, List.setIfInBounds_toArray, List.set_cons_zero, List.set_cons_succ]
      refine wpV_skip (by rfl) (by simp only [lightOp]) ?_
      simp only [Act.put, List.setIfInBounds_toArray, List.set_cons_zero, List.set_cons_succ]
      refine wpV_skip (by rfl) (by simp only [lightOp]) ?_
      simp only [Act.put, List.setIfInBounds_toArray, List.set_cons_zero, List.set_cons_succ]
      refine wpV_skip (by rfl) (by simp only [lightOp]) ?_
      simp only [Act.put, List.setIfInBounds_toArray, List.set_cons_zero, List.set_cons_succ]
      with_reducible apply wpV_light
      · simp only [lightOp]
      · intro W hU hF
        have f0 := CB.out W hU
        clear hU hF
        go_simp
        exact rfl
      simp only [Act.put, List.setIfInBounds_toArray, List.set_cons_zero, List.set_cons_succ]
      with_reducible apply wpV_light
      · simp only [lightOp]
      · intro W hU hF
        have f0 := CB.out W hU
        clear hU hF
        go_simp
        exact rfl
      simp only [Act.put, List.setIfInBounds_toArray, List.set_cons_zero, List.set_cons_succ]
      with_reducible apply wpV_light
      · simp only [lightOp]
      · intro W hU hF
        have f0 := CB.out W hU
        clear hU hF
        go_simp
        exact rfl
      simp only [Act.put, List.setIfInBounds_toArray, List.set_cons_zero, List.set_cons_succ]
      refine wpV_end (fun W hU _ _ => ?_)
      have U4 : Hid (Upd [] w3 W) := Lib.hid ((Upd.refl [] w3).drew.trans hU)
      clear hU
      refine wpT_end ?_
      go_wp2_with fail
      go_ret
      unfold DoPostT
      exact ⟨_, rfl, fun _ => rfl, HST.out.upd0 U4.out, HU3.out.trans U4.out, fun g cs h => (KA3.out g cs h).upd U4.out (by simp)⟩
    | false =>
      rw [hd] at HIM
      obtain rfl : (6 : Int) = fv := by have := HFV.out; rw [hd] at this; exact this
      clear hd HFV
      go_wp2_with fail
      refine wp_invN [(1, .det (.int .i64 0))] [] (by kernel_rfl) (by kernel_rfl) (by kernel_rfl) ⟨lasts_det _, trivial⟩ ?_
      with_reducible apply wpV_light
      · simp only [lightOp]
      · intro W hU hF
        have f0 := CB.out W hU
        clear hU hF
        go_simp
        exact rfl
      simp only [Act.put, List.setIfInBounds_toArray, List.set_cons_zero, List.set_cons_succ]
      refine wpV_heavy (by simp only [lightOp]) (by rfl) (fun W hU hk hF K hK => ?_) ?_
      · go_wp2_with fail
        refine (no_err (EV3.out.upd ((Upd.refl [] _).drew.trans hU))).mono ?_; rintro e w2 ⟨rfl, rfl⟩
        go_wp2_with fail
        exact hK.out _ _ (outV_new rfl rfl (by intro b hb; cases hb) (.refl _ _))
      rintro _ rfl
      simp only [Act.put, List.setIfInBounds_toArray, List.set_cons_zero, List.set_cons_succ]
      with_reducible apply wpV_light
      · simp only [lightOp]
      · intro W hU hF
        have f0 := CB.out W hU
        clear hU hF
        go_simp
        exact rfl
      simp only [Act.put, List.setIfInBounds_toArray, List.set_cons_zero, List.set_cons_succ]
      with_reducible apply wpV_light
      · simp only [lightOp]
      · intro W hU hF
        have f0 := CB.out W hU
        clear hU hF
        go_simp
        exact rfl
      simp only [Act.put, List.setIfInBounds_toArray, List.set_cons_zero, List.set_cons_succ]
      with_reducible apply wpV_light
      · simp only [lightOp]
      · intro W hU hF
        have f0 := CB.out W hU
        clear hU hF
        go_simp
        exact rfl
      simp only [Act.put, List.setIfInBounds_toArray, List.set_cons_zero, List.set_cons_succ]
      refine wpV_skip (by rfl) (by simp only [lightOp]) ?_
      simp only [Act.put, List.setIfInBounds_toArray, List.set_cons_zero, List.set_cons_succ]
      refine wpV_skip (by rfl) (by simp only [lightOp]) ?_
      simp only [Act.put, List.setIfInBounds_toArray, List.set_cons_zero, List.set_cons_succ]
      refine wpV_skip (by rfl) (by simp only [lightOp]) ?_
      simp only [Act.put, List.setIfInBounds_toArray, List.set_cons_zero, List.set_cons_succ]
      refine wpV_skip (by rfl) (by simp only [lightOp]) ?_
      simp only [Act.put, List.setIfInBounds_toArray, List.set_cons_zero, List.set_cons_succ]
      refine wpV_heavySkip (by simp only [lightOp]) (by rfl) (fun W hU hk => outV_new rfl trivial (by intro b hb; cases hb) (.refl _ _)) ?_
      rintro _ trivial
      simp only [Act.put, List.setIfInBounds_toArray, List.set_cons_zero, List.set_cons_succ]
      refine wpV_skip (by rfl) (by simp only [lightOp]) ?_
      simp only [Act.put, List.setIfInBounds_toArray, List.set_cons_zero, List.set_cons_succ]
      refine wpV_skip (by rfl) (by simp only [lightOp]) ?_
      simp only [Act.put, List.setIfInBounds_toArray, List.set_cons_zero, List.set_cons_succ]
      refine wpV_skip (by rfl) (by simp only [lightOp]) ?_
      simp only [Act.put, List.setIfInBounds_toArray, List.set_cons_zero, List.set_cons_succ]
      refine wpV_skip (by rfl) (by simp only [lightOp]) ?_
      simp only [Act.put, List.setIfInBounds_toArray, List.set_cons_zero, List.set_cons_succ]
      with_reducible apply wpV_light
      · simp only [lightOp]
      · intro W hU hF
        have f0 := CB.out W hU
        clear hU hF
        go_simp
        exact rfl
      simp only [Act.put, List.setIfInBounds_toArray, List.set_cons_zero, List.set_cons_succ]
      with_reducible apply wpV_light
      · simp only [lightOp]
      · intro W hU hF
        have f0 := CB.out W hU
        clear hU hF
        go_simp
        exact rfl
      simp only [Act.put, List.setIfInBounds_toArray, List.set_cons_zero, List.set_cons_succ]
      refine wpV_end (fun W hU _ _ => ?_)
      have U4 : Hid (Upd [] w3 W) := Lib.hid ((Upd.refl [] w3).drew.trans hU)
      clear hU
      refine wpT_end ?_
      go_wp2_with fail
      go_ret
      unfold DoPostT
      exact ⟨_, rfl, fun e => absurd (HIM.out e) (by decide), HST.out.upd0 U4.out, HU3.out.trans U4.out, fun g cs h => (KA3.out g cs h).upd U4.out (by simp)⟩
  | false =>
    rw [hm] at EV3 HIM
    simp only [Bool.false_eq_true, if_false] at EV3
    clear hm
    cases hd : isD d n with
    | true =>
      rw [hd] at HIM
      obtain rfl : (0 : Int) = fv := by have := HFV.out; rw [hd] at this; exact this
      clear hd HFV
      go_wp2_with fail
      refine wp_invN [(1, .det (.int .i64 6))] [] (by kernel_rfl) (by kernel_rfl) (by kernel_rfl) ⟨lasts_det _, trivial⟩ ?_
      with_reducible apply wpV_light
      · simp only [lightOp]
      · intro W hU hF
        have f0 := CB.out W hU
        clear hU hF
        go_simp
        exact rfl
      simp only [Act.put, List.setIfInBounds_toArray, List.set_cons_zero, List.set_cons_succ]
      refine wpV_heavy (by simp only [lightOp]) (by rfl) (fun W hU hk hF K hK => ?_) ?_
      · go_wp2_with fail
        refine (no_err (EV3.out.upd ((Upd.refl [] _).drew.trans hU))).mono ?_; rintro e w2 ⟨rfl, rfl⟩
        go_wp2_with fail
        exact hK.out _ _ (outV_new rfl rfl (by intro b hb; cases hb) (.refl _ _))
      rintro _ rfl
      simp only [Act.put, List.setIfInBounds_toArray, List.set_cons_zero, List.set_cons_succ]
      with_reducible apply wpV_light
      · simp only [lightOp]
      · intro W hU hF
        have f0 := CB.out W hU
        clear hU hF
        go_simp
        exact rfl
      simp only [Act.put, List.setIfInBounds_toArray, List.set_cons_zero, List.set_cons_succ]
      with_reducible apply wpV_light
      · simp only [lightOp]
      · intro W hU hF
        have f0 := CB.out W hU
        clear hU hF
        go_simp
        exact rfl
      simp only [Act.put, List.setIfInBounds_toArray, List.set_cons_zero, List.set_cons_succ]
      with_reducible apply wpV_light
      · simp only [lightOp]
      · intro W hU hF
        have f0 := CB.out W hU
        clear hU hF
        go_simp
        exact rfl
      simp only [Act.put, List.setIfInBounds_toArray, List.set_cons_zero, List.set_cons_succ]
      refine wpV_skip (by rfl) (by simp only [lightOp]) ?_
      simp only [Act.put, List.setIfInBounds_toArray, List.set_cons_zero, List.set_cons_succ]
      refine wpV_skip (by rfl) (by simp only [lightOp]) ?_
      simp only [Act.put, List.setIfInBounds_toArray, List.set_cons_zero, List.set_cons_succ]
      refine wpV_skip (by rfl) (by simp only [lightOp]) ?_
      simp only [Act.put, List.setIfInBounds_toArray, List.set_cons_zero, List.set_cons_succ]
      refine wpV_skip (by rfl) (by simp only [lightOp]) ?_
      simp only [Act.put, List.setIfInBounds_toArray, List.set_cons_zero, List.set_cons_succ]
      refine wpV_heavySkip (by simp only [lightOp]) (by rfl) (fun W hU hk => outV_new rfl trivial (by intro b hb; cases hb) (.refl _ _)) ?_
      rintro _ trivial
      simp only [Act.put, List.setIfInBounds_toArray, List.set_cons_zero, List.set_cons_succ]
      refine wpV_skip (by rfl) (by simp only [lightOp]) ?_
      simp only [Act.put, List.setIfInBounds_toArray, List.set_cons_zero, List.set_cons_succ]
      refine wpV_skip (by rfl) (by simp only [lightOp]) ?_
      simp only [Act.put, List.setIfInBounds_toArray, List.set_cons_zero, List.set_cons_succ]
      refine wpV_skip (by rfl) (by simp only [lightOp]) ?_
      simp only [Act.put, List.setIfInBounds_toArray, List.set_cons_zero, List.set_cons_succ]
      refine wpV_skip (by rfl) (by simp only [lightOp]) ?_
      simp only [Act.put, List.setIfInBounds_toArray, List.set_cons_zero, List.set_cons_succ]
      with_reducible apply wpV_light
      · simp only [lightOp]
      · intro W hU hF
        have f0 := CB.out W hU
        clear hU hF
        go_simp
        exact rfl
      simp only [Act.put, List.setIfInBounds_toArray, List.set_cons_zero, List.set_cons_succ]
      with_reducible apply wpV_light
      · simp only [lightOp]
      · intro W hU hF
        have f0 := CB.out W hU
        clear hU hF
        go_simp
        exact rfl
      simp only [Act.put, List.setIfInBounds_toArray, List.set_cons_zero, List.set_cons_succ]
      refine wpV_end (fun W hU _ _ => ?_)
      have U4 : Hid (Upd [] w3 W) := Lib.hid ((Upd.refl [] w3).drew.trans hU)
      clear hU
      refine wpT_end ?_
      go_wp2_with fail
      go_ret
      unfold DoPostT
      exact ⟨_, rfl, fun e => absurd (HIM.out e) (by decide), HST.out.upd0 U4.out, HU3.out.trans U4.out, fun g cs h => (KA3.out g cs h).upd U4.out (by simp)⟩
    | false =>
      obtain rfl : (6 : Int) = fv := by have := HFV.out; rw [hd] at this; exact this
      clear hd HFV
      go_wp2_with fail
      refine wp_invN [(1, .det (.int .i64 6)), (9, .det (.int .i64 n))] [] (by kernel_rfl) (by kernel_rfl) (by kernel_rfl) ⟨lasts_det _, lasts_det _, trivial⟩ ?_
      with_reducible apply wpV_light
      · simp only [lightOp]
      · intro W hU hF
        have f0 := CB.out W hU
        clear hU hF
        go_simp
        exact rfl
      simp only [Act.put, List.setIfInBounds_toArray, List.set_cons_zero, List.set_cons_succ]
      refine wpV_heavy (by simp only [lightOp]) (by rfl) (fun W hU hk hF K hK => ?_) ?_
      · go_wp2_with fail
        refine (no_err (EV3.out.upd ((Upd.refl [] _).drew.trans hU))).mono ?_; rintro e w2 ⟨rfl, rfl⟩
        go_wp2_with fail
        exact hK.out _ _ (outV_new rfl rfl (by intro b hb; cases hb) (.refl _ _))
      rintro _ rfl
      simp only [Act.put, List.setIfInBounds_toArray, List.set_cons_zero, List.set_cons_succ]
      with_reducible apply wpV_light
      · simp only [lightOp]
      · intro W hU hF
        have f0 := CB.out W hU
        clear hU hF
        go_simp
        exact rfl
      simp only [Act.put, List.setIfInBounds_toArray, List.set_cons_zero, List.set_cons_succ]
      with_reducible apply wpV_light
      · simp only [lightOp]
      · intro W hU hF
        have f0 := CB.out W hU
        clear hU hF
        go_simp
        exact rfl
      simp only [Act.put, List.setIfInBounds_toArray, List.set_cons_zero, List.set_cons_succ]
      with_reducible apply wpV_light
      · simp only [lightOp]
      · intro W hU hF
        have f0 := CB.out W hU
        clear hU hF
        go_simp
        exact rfl
      simp only [Act.put, List.setIfInBounds_toArray, List.set_cons_zero, List.set_cons_succ]
      with_reducible apply wpV_light
      · simp only [lightOp]
      · intro W hU hF
        have f0 := CB.out W hU
        clear hU hF
        go_simp
        exact rfl
      simp only [Act.put, List.setIfInBounds_toArray, List.set_cons_zero, List.set_cons_succ]
      with_reducible apply wpV_light
      · simp only [lightOp]
      · intro W hU hF
        have f0 := CB.out W hU
        clear hU hF
        go_simp
        exact rfl
      simp only [Act.put, List.setIfInBounds_toArray, List.set_cons_zero, List.set_cons_succ]
      with_reducible apply wpV_light
      · simp only [lightOp]
      · intro W hU hF
        have f0 := CB.out W hU
        clear hU hF
        go_simp
        exact rfl
      simp only [Act.put, List.setIfInBounds_toArray, List.set_cons_zero, List.set_cons_succ]
      with_reducible apply wpV_light
      · simp only [lightOp]
      · intro W hU hF
        have f0 := CB.out W hU
        clear hU hF
        go_simp
        exact rfl
      simp only [Act.put, List.setIfInBounds_toArray, List.set_cons_zero, List.set_cons_succ]
      refine wpV_heavy (by simp only [lightOp]) (by rfl) (fun W hU hk hF K hK => ?_) ?_
      · go_wp2_with fail
        refine (place_err (EV3.out.upd ((Upd.refl [] _).drew.trans hU)) (HG.out.upd (HU3.out.trans ((Upd.refl [] _).drew.trans hU)) (by simp))).mono ?_; rintro e w2 ⟨rfl, u2⟩
        go_wp2_with fail
        exact hK.out _ _ (outV_new rfl rfl (by intro b hb; cases hb) u2)
      rintro _ rfl
      simp only [Act.put, List.setIfInBounds_toArray, List.set_cons_zero, List.set_cons_succ]
      with_reducible apply wpV_light
      · simp only [lightOp]
      · intro W hU hF
        have f0 := CB.out W hU
        clear hU hF
        go_simp
        exact rfl
      simp only [Act.put, List.setIfInBounds_toArray, List.set_cons_zero, List.set_cons_succ]
      with_reducible apply wpV_light
      · simp only [lightOp]
      · intro W hU hF
        have f0 := CB.out W hU
        clear hU hF
        go_simp
        exact rfl
      simp only [Act.put, List.setIfInBounds_toArray, List.set_cons_zero, List.set_cons_succ]
      with_reducible apply wpV_light
      · simp only [lightOp]
      · intro W hU hF
        have f0 := CB.out W hU
        clear hU hF
        go_simp
        exact rfl
      simp only [Act.put, List.setIfInBounds_toArray, List.set_cons_zero, List.set_cons_succ]
      with_reducible apply wpV_light
      · simp only [lightOp]
      · intro W hU hF
        have f0 := CB.out W hU
        clear hU hF
        go_simp
        exact rfl
      simp only [Act.put, List.setIfInBounds_toArray, List.set_cons_zero, List.set_cons_succ]
      with_reducible apply wpV_light
      · simp only [lightOp]
      · intro W hU hF
        have f0 := CB.out W hU
        clear hU hF
        go_simp
        exact rfl
      simp only [Act.put, List.setIfInBounds_toArray, List.set_cons_zero, List.set_cons_succ]
      with_reducible apply wpV_light
      · simp only [lightOp]
      · intro W hU hF
        have f0 := CB.out W hU
        clear hU hF
        go_simp
        exact rfl
      simp only [Act.put, List.setIfInBounds_toArray, List.set_cons_zero, List.set_cons_succ]
      refine wpV_end (fun W hU _ _ => ?_)
      have U4 : Hid (Upd [] w3 W) := Lib.hid ((Upd.refl [] w3).drew.trans hU)
      clear hU
      refine wpT_end ?_
      go_wp2_with fail
      go_ret
      unfold DoPostT
      exact ⟨_, rfl, fun _ => by simp, HST.out.upd0 U4.out, HU3.out.trans U4.out, fun g cs h => (KA3.out g cs h).upd U4.out (by simp)⟩
set_option maxRecDepth 100000 in
set_option maxHeartbeats 8000000 in
theorem doT_5 (B sb am wm rb : Nat) (T : List Nat) (wS : World) (s : SS) (d : DS) (c x n : Int) (w0 w : World) (h : BothT B sb am wm rb T wS w s d) (hl : s.log.length ≤ 1000) (hg : Typed w0) (hB : w0.heap.size ≤ B) (hu0 : Upd [] w0 w) (hBw : B ≤ w.heap.size) :
    Calls Tryd.prog 11 #[.pointer (some ⟨sb, 0, none⟩), .pointer (some ⟨rb, 0, none⟩), .agg #[.int .i64 5, .int .u64 c, .int .u64 x, .int .i64 n]] w fun e w' => DoPostT B sb am wm rb T wS s d (5, c, x, n) w0 w e w' := by
  obtain ⟨F, G, hs, hd, hdj, htk⟩ := h
  have HS0 := Lib.hid hs
  have HD0 := Lib.hid hd
  have HJ0 := Lib.hid hdj
  have TK0 := Lib.hid htk
  have HLL := Lib.hid hl
  have HG := Lib.hid hg
  have HB := Lib.hid hB
  have HU0 := Lib.hid hu0
  have HBW := Lib.hid hBw
  clear hs hd hdj htk hl hg hB hu0 hBw
  go_enter Tryd.func11, Tryd.ntmps11
  go_wp2_with fail
  have UA : Hid (Upd [] w (w.alloc (.cells #[.int .i64 5, .int .u64 c, .int .u64 x, .int .i64 n] 40))) := Lib.hid ((Upd.refl [] w).alloc _)
  have YA : Hid (Blk (w.alloc (.cells #[.int .i64 5, .int .u64 c, .int .u64 x, .int .i64 n] 40)) w.heap.size 40 #[.int .i64 5, .int .u64 c, .int .u64 x, .int .i64 n]) := Lib.hid (Blk.new w _ _)
  generalize (w.alloc (.cells #[.int .i64 5, .int .u64 c, .int .u64 x, .int .i64 n] 40)) = w1 at *
  have HS1 := Lib.hid (HS0.out.upd0 UA.out)
  have HD1 := Lib.hid (HD0.out.upd0 UA.out)
  have HU1 := Lib.hid (HU0.out.trans UA.out)
  have HBW1 : Hid (B ≤ w1.heap.size) := Lib.hid (Nat.le_trans HBW.out UA.out.size)
  have KA1 : Hid (KeepA w w1) := Lib.hid (fun g cs h => h.upd UA.out (by simp))
  have TK1 := Lib.hid (TK0.out.u UA.out)
  clear UA HS0 HD0 HU0 HBW TK0
  have y0 : w1.cell? ⟨w.heap.size, 0, none⟩ = some (.int .i64 5) := YA.out.cell 0
  have y1 : w1.cell? ⟨w.heap.size, 1, none⟩ = some (.int .u64 c) := YA.out.cell 1
  have y2 : w1.cell? ⟨w.heap.size, 2, none⟩ = some (.int .u64 x) := YA.out.cell 2
  have y3 : w1.cell? ⟨w.heap.size, 3, none⟩ = some (.int .i64 n) := YA.out.cell 3
  have HS1' := Lib.hid (HS1.out.upd0 (Upd.refl [] w1).drew)
  have HD1' := Lib.hid (HD1.out.upd0 (Upd.refl [] w1).drew)
  have HU1' := Lib.hid HU1.out.drew
  have YA' := Lib.hid YA.out.drew
  have HBW1' : Hid (B ≤ w1.drew.heap.size) := Lib.hid HBW1.out
  have TK1' := Lib.hid (TK1.out.u (Upd.refl [] w1).drew)
  have KA1' : Hid (KeepA w w1.drew) := Lib.hid (fun g cs h => (KA1.out g cs h).drew)
  clear HS1 HD1 HU1 YA HBW1 KA1 TK1
  have HS1 := HS1'
  have HD1 := HD1'
  have HU1 := HU1'
  have YA := YA'
  have HBW1 := HBW1'
  have KA1 := KA1'
  have TK1 := TK1'
  clear HS1' HD1' HU1' YA' HBW1' KA1' TK1'
  go_region_held3 (fun W => W.cell? ⟨w.heap.size, 3, none⟩ = some (.int .i64 n)) (first | exact x3 | exact z3 | exact y3) (first
    | (go_at_call 31
       refine (rs_back B rb G d n w2 HD2.out).mono ?_
       rintro e w3 ⟨G3, rfl, h3, f3⟩
       obtain ⟨fv, hfv⟩ : ∃ f, (if isD d n then (0 : Int) else 6) = f := ⟨_, rfl⟩
       rw [hfv]
       have HFV := Lib.hid hfv
       clear hfv
       have HBO : Hid (BothT B sb am wm rb T wS w3 (stepS s (5, c, x, n)) (stepD d (5, c, x, n))) := Lib.hid ⟨_, _, (both_d HS2.out HD2.out HJ2.out h3 f3).1, h3, (both_d HS2.out HD2.out HJ2.out h3 f3).2, TK2.out.d f3⟩
       have HU3 := Lib.hid (both_ud HD2.out HU2.out f3 HB.out)
       have YC : Hid (Blk w3 w.heap.size 40 #[.int .i64 5, .int .u64 c, .int .u64 x, .int .i64 n]) := Lib.hid (YB.out.upd f3.upd (HD2.out.off YB.out (by decide) (by decide) (by decide) (by decide)))
       have KA3 : Hid (KeepA w w3) := Lib.hid (fun g cs h => (KA2.out g cs h).upd f3.upd (HD2.out.off (KA2.out g cs h) (by decide) (by decide) (by decide) (by decide)))
       have EV3 := Lib.hid (EV2.out.byD HD2.out f3.upd)
       clear h3 f3 y1 y2 y3 HS2 HD2 HJ2 HU2 YB HBW2 EV2 HF2 KA2 TK2
       have y3 : w3.cell? ⟨w.heap.size, 3, none⟩ = some (.int .i64 n) := YC.out.cell 3
       have x3 := y3)
    | (go_at_call 13
       refine (s_back B sb am wm F s n _ HS1.out HLL.out).mono ?_
       rintro e w2 ⟨va, F2, rfl, ev, h2, f2⟩
       have HS2 := Lib.hid h2
       have HF2 := Lib.hid f2
       have HD2 := Lib.hid (both_s HS1.out HD1.out HJ0.out h2 f2).1
       have HJ2 := Lib.hid (both_s HS1.out HD1.out HJ0.out h2 f2).2
       have HU2 := Lib.hid (both_us HS1.out HU1.out f2 HB.out)
       have YB : Hid (Blk w2 w.heap.size 40 #[.int .i64 5, .int .u64 c, .int .u64 x, .int .i64 n]) := Lib.hid (YA.out.upd f2.upd (HS1.out.off YA.out (by decide) (by decide) (by decide) (by decide)))
       have HBW2 : Hid (B ≤ w2.heap.size) := Lib.hid (Nat.le_trans HBW1.out f2.upd.size)
       have EV2 := Lib.hid ev
       have TK2 := Lib.hid (TK1.out.s f2)
       have KA2 : Hid (KeepA w w2) := Lib.hid (fun g cs h => (KA1.out g cs h).upd f2.upd (HS1.out.off (KA1.out g cs h) (by decide) (by decide) (by decide) (by decide)))
       clear ev h2 f2 y0 y1 y2 y3 HS1 HD1 HJ0 HU1 YA HBW1 KA1 TK1
       have y1 : w2.cell? ⟨w.heap.size, 1, none⟩ = some (.int .u64 c) := YB.out.cell 1
       have y2 : w2.cell? ⟨w.heap.size, 2, none⟩ = some (.int .u64 x) := YB.out.cell 2
       have y3 : w2.cell? ⟨w.heap.size, 3, none⟩ = some (.int .i64 n) := YB.out.cell 3
       have z3 := y3))
  have HIM : Hid (ofSS s = d → isM s n = isD d n) := Lib.hid (fun e => by rw [← e, isD_of])
  have HST : Hid (BothT B sb am wm rb T wS w3 (stepS s (5, c, x, n)) (stepD d (5, c, x, n))) := Lib.hid HBO.out
  have CB : Hid (∀ W', Upd [] w3.drew W' → W'.cell? ⟨w.heap.size, 3, none⟩ = some (.int .i64 n)) := Lib.hid (fun W' hW => (YC.out.upd ((Upd.refl [] w3).drew.trans hW) (by simp)).cell 3)
  clear HBO y3
  try clear z3
  try clear x3
  cases hm : isM s n with
  | true =>
    rw [hm] at EV3 HIM
    simp only [if_true] at EV3
    clear hm
    cases hd : isD d n with
    | true =>
      obtain rfl : (0 : Int) = fv := by have := HFV.out; rw [hd] at this; exact this
      clear hd HFV
      go_wp2_with fail
      refine wp_invN [(1, .det (.int .i64 0))] [] (by kernel_rfl) (by kernel_rfl) (by kernel_rfl) ⟨lasts_det _, trivial⟩ ?_
      with_reducible apply wpV_light
      · simp only [lightOp]
      · intro W hU hF
        have f0 := CB.out W hU
        clear hU hF
        go_simp
        exact rfl
      simp only [Act.put, List.setIfInBounds_toArray, List.set_cons_zero, List.set_cons_succ]
      refine wpV_heavy (by simp only [lightOp]) (by rfl) (fun W hU hk hF K hK => ?_) ?_
      · go_wp2_with fail
        refine (no_err (EV3.out.upd ((Upd.refl [] _).drew.trans hU))).mono ?_; rintro e w2 ⟨rfl, rfl⟩
        go_wp2_with fail
        exact hK.out _ _ (outV_new rfl rfl (by intro b hb; cases hb) (.refl _ _))
      rintro _ rfl
      simp only [Act.put, List.setIfInBounds_toArray, List.set_cons_zero, List.set_cons_succ]
      with_reducible apply wpV_light
      · simp only [lightOp]
      · intro W hU hF
        have f0 := CB.out W hU
        clear hU hF
        go_simp
        exact rfl
      simp only [Act.put, List.setIfInBounds_toArray, List.set_cons_zero, List.set_cons_succ]
      with_reducible apply wpV_light
      · simp only [lightOp]
      · intro W hU hF
        have f0 := CB.out W hU
        clear hU hF
        go_simp
        exact rfl
      simp only [Act.put, List.setIfInBounds_toArray, List.set_cons_zero, List.set_cons_succ]
      with_reducible apply wpV_light
      · simp only [lightOp]
      · intro W hU hF
        have f0 := CB.out W hU
        clear hU hF
        go_simp
        exact rfl
      simp only [Act.put, List.setIfInBounds_toArray, List.set_cons_zero, List.set_cons_succ]
      with_reducible apply wpV_light
      · simp only [lightOp]
      · intro W hU hF
        have f0 := CB.out W hU
        clear hU hF
        go_simp
        exact rfl
      simp only [Act.put, List.setIfInBounds_toArray, List.set_cons_zero, List.set_cons_succ]
      with_reducible apply wpV_light
      · simp only [lightOp]
      · intro W hU hF
        have f0 := CB.out W hU
        clear hU hF
        go_simp
        exact rfl
      simp only [Act.put, List.setIfInBounds_toArray, List.set_cons_zero, List.set_cons_succ]
      with_reducible apply wpV_light
      · simp only [lightOp]
      · intro W hU hF
        have f0 := CB.out W hU
        clear hU hF
        go_simp
        exact rfl
      simp only [Act.put, List.setIfInBounds_toArray, List.set_cons_zero, List.set_cons_succ]
      refine wpV_skip (by rfl) (by simp only [lightOp]) ?_
      simp only [Act.put, List.setIfInBounds_toArray, List.set_cons_zero, List.set_cons_succ]
      refine wpV_heavySkip (by simp only [lightOp]) (by rfl) (fun W hU hk => outV_new rfl trivial (by intro b hb; cases hb) (.refl _ _)) ?_
      rintro _ trivial
      simp only [Act.put, List.setIfInBounds_toArray, List.set_cons_zero, List.set_cons_succ]
      refine wpV_skip (by rfl) (by simp only [lightOp]) ?_
      simp only [Act.put, List.setIfInBounds_toArray, List.set_cons_zero, List.set_cons_succ]
      refine wpV_skip (by rfl) (by simp only [lightOp]) ?_
      simp only [Act.put, List.setIfInBounds_toArray, List.set_cons_zero, List.set_cons_succ]
      refine wpV_skip (by rfl) (by simp only [lightOp]) ?_
      simp only [Act.put, List.setIfInBounds_toArray, List.set_cons_zero, List.set_cons_succ]
      with_reducible apply wpV_light
      · simp only [lightOp]
      · intro W hU hF
        have f0 := CB.out W hU
        clear hU hF
        go_simp
        exact rfl
      simp only [Act.put, List.setIfInBounds_toArray, List.set_cons_zero, List.set_cons_succ]
      with_reducible apply wpV_light
      · simp only [lightOp]
      · intro W hU hF
        have f0 := CB.out W hU
        clear hU hF
        go_simp
        exact rfl
      simp only [Act.put, List.setIfInBounds_toArray, List.set_cons_zero, List.set_cons_succ]
      with_reducible apply wpV_light
      · simp only [lightOp]
      · intro W hU hF
        have f0 := CB.out W hU
        clear hU hF
        go_simp
        exact rfl
      simp only [Act.put, List.setIfInBounds_toArray, List.set_cons_zero, List.set_cons_succ]
      refine wpV_end (fun W hU _ _ => ?_)
      have U4 : Hid (Upd [] w3 W) := Lib.hid ((Upd.refl [] w3).drew.trans hU)
      clear hU
      refine wpT_end ?_
      go_wp2_with fail
      go_ret
      unfold DoPostT
      exact ⟨_, rfl, fun _ => rfl, HST.out.upd0 U4.out, HU3.out.trans U4.out, fun g cs h => (KA3.out g cs h).upd U4.out (by simp)⟩
    | false =>
      rw [hd] at HIM
      obtain rfl : (6 : Int) = fv := by have := HFV.out; rw [hd] at this; exact this
      clear hd HFV
      go_wp2_with fail
      refine wp_invN [(1, .det (.int .i64 0))] [] (by kernel_rfl) (by kernel_rfl) (by kernel_rfl) ⟨lasts_det _, trivial⟩ ?_
      with_reducible apply wpV_light
      · simp only [lightOp]
      · intro W hU hF
        have f0 := CB.out W hU
        clear hU hF
        go_simp
        exact rfl
      simp only [Act.put, List.setIfInBounds_toArray, List.set_cons_zero, List.set_cons_succ]
      refine wpV_heavy (by simp only [lightOp]) (by rfl) (fun W hU hk hF K hK => ?_) ?_
      · go_wp2_with fail
        refine (no_err (EV3.out.upd ((Upd.refl [] _).drew.trans hU))).mono ?_; rintro e w2 ⟨rfl, rfl⟩
        go_wp2_with fail
        exact hK.out _ _ (outV_new rfl rfl (by intro b hb; cases hb) (.refl _ _))
      rintro _ rfl
      simp only [Act.put, List.setIfInBounds_toArray, List.set_cons_zero, List.set_cons_succ]
      with_reducible apply wpV_light
      · simp only [lightOp]
      · intro W hU hF
        have f0 := CB.out W hU
        clear hU hF
        go_simp
        exact rfl
      simp only [Act.put, List.setIfInBounds_toArray, List.set_cons_zero, List.set_cons_succ]
      with_reducible apply wpV_light
      · simp only [lightOp]
      · intro W hU hF
        have f0 := CB.out W hU
        clear hU hF
        go_simp
        exact rfl
      simp only [Act.put, List.setIfInBounds_toArray, List.set_cons_zero, List.set_cons_succ]
      with_reducible apply wpV_light
      · simp only [lightOp]
      · intro W hU hF
        have f0 := CB.out W hU
        clear hU hF
        go_simp
        exact rfl
      simp only [Act.put, List.setIfInBounds_toArray, List.set_cons_zero, List.set_cons_succ]
      refine wpV_skip (by rfl) (by simp only [lightOp]) ?_
      simp only [Act.put, List.setIfInBounds_toArray, List.set_cons_zero, List.set_cons_succ]
      refine wpV_skip (by rfl) (by simp only [lightOp]) ?_
      simp only [Act.put, List.setIfInBounds_toArray, List.set_cons_zero, List.set_cons_succ]
      refine wpV_skip (by rfl) (by simp only [lightOp]) ?_
      simp only [Act.put, List.setIfInBounds_toArray, List.set_cons_zero, List.set_cons_succ]
      refine wpV_skip (by rfl) (by simp only [lightOp]) ?_
      simp only [Act.put, List.setIfInBounds_toArray, List.set_cons_zero, List.set_cons_succ]
      refine wpV_heavySkip (by simp only [lightOp]) (by rfl) (fun W hU hk => outV_new rfl trivial (by intro b hb; cases hb) (.refl _ _)) ?_
      rintro _ trivial
      simp only [Act.put, List.setIfInBounds_toArray, List.set_cons_zero, List.set_cons_succ]
      refine wpV_skip (by rfl) (by simp only [lightOp]) ?_
      simp only [Act.put, List.setIfInBounds_toArray, List.set_cons_zero, List.set_cons_succ]
      refine wpV_skip (by rfl) (by simp only [lightOp]) ?_
      simp only [Act.put, List.setIfInBounds_toArray, List.set_cons_zero, List.set_cons_succ]
      refine wpV_skip (by rfl) (by simp only [lightOp]) ?_
      simp only [Act.put, List.setIfInBounds_toArray, List.set_cons_zero, List.set_cons_succ]
      refine wpV_skip (by rfl) (by simp only [lightOp]) ?_
      simp only [Act.put, List.setIfInBounds_toArray, List.set_cons_zero, List.set_cons_succ]
      with_reducible apply wpV_light
      · simp only [lightOp]
      · intro W hU hF
        have f0 := CB.out W hU
        clear hU hF
        go_simp
        exact rfl
      simp only [Act.put, List.setIfInBounds_toArray, List.set_cons_zero, List.set_cons_succ]
      with_reducible apply wpV_light
      · simp only [lightOp]
      · intro W hU hF
        have f0 := CB.out W hU
        clear hU hF
        go_simp
        exact rfl
      simp only [Act.put, List.setIfInBounds_toArray, List.set_cons_zero, List.set_cons_succ]
      refine wpV_end (fun W hU _ _ => ?_)
      have U4 : Hid (Upd [] w3 W) := Lib.hid ((Upd.refl [] w3).drew.trans hU)
      clear hU
      refine wpT_end ?_
      go_wp2_with fail
      go_ret
      unfold DoPostT
      exact ⟨_, rfl, fun e => absurd (HIM.out e) (by decide), HST.out.upd0 U4.out, HU3.out.trans U4.out, fun g cs h => (KA3.out g cs h).upd U4.out (by simp)⟩
  | false =>
    rw [hm] at EV3 HIM
    simp only [Bool.false_eq_true, if_false] at EV3
    clear hm
    cases hd : isD d n with
    | true =>
      rw [hd] at HIM
      obtain rfl : (0 : Int) = fv := by have := HFV.out; rw [hd] at this; exact this
      clear hd HFV
      go_wp2_with fail
      refine wp_invN [(1, .det (.int .i64 6))] [] (by kernel_rfl) (by kernel_rfl) (by kernel_rfl) ⟨lasts_det _, trivial⟩ ?_
      with_reducible apply wpV_light
      · simp only [lightOp]
      · intro W hU hF
        have f0 := CB.out W hU
        clear hU hF
        go_simp
        exact rfl
      simp only [Act.put, List.setIfInBounds_toArray, List.set_cons_zero, List.set_cons_succ]
      refine wpV_heavy (by simp only [lightOp]) (by rfl) (fun W hU hk hF K hK => ?_) ?_
      · go_wp2_with fail
        refine (no_err (EV3.out.upd ((Upd.refl [] _).drew.trans hU))).mono ?_; rintro e w2 ⟨rfl, rfl⟩
        go_wp2_with fail
        exact hK.out _ _ (outV_new rfl rfl (by intro b hb; cases hb) (.refl _ _))
      rintro _ rfl
      simp only [Act.put, List.setIfInBounds_toArray, List.set_cons_zero, List.set_cons_succ]
      with_reducible apply wpV_light
      · simp only [lightOp]
      · intro W hU hF
        have f0 := CB.out W hU
        clear hU hF
        go_simp
        exact rfl
      simp only [Act.put, List.setIfInBounds_toArray, List.set_cons_zero, List.set_cons_succ]
      with_reducible apply wpV_light
      · simp only [lightOp]
      · intro W hU hF
        have f0 := CB.out W hU
        clear hU hF
        go_simp
        exact rfl
      simp only [Act.put, List.setIfInBounds_toArray, List.set_cons_zero, List.set_cons_succ]
      with_reducible apply wpV_light
      · simp only [lightOp]
      · intro W hU hF
        have f0 := CB.out W hU
        clear hU hF
        go_simp
        exact rfl
      simp only [Act.put, List.setIfInBounds_toArray, List.set_cons_zero, List.set_cons_succ]
      refine wpV_skip (by rfl) (by simp only [lightOp]) ?_
      simp only [Act.put, List.setIfInBounds_toArray, List.set_cons_zero, List.set_cons_succ]
      refine wpV_skip (by rfl) (by simp only [lightOp]) ?_
      simp only [Act.put, List.setIfInBounds_toArray, List.set_cons_zero, List.set_cons_succ]
      refine wpV_skip (by rfl) (by simp only [lightOp]) ?_
      simp only [Act.put, List.setIfInBounds_toArray, List.set_cons_zero, List.set_cons_succ]
      refine wpV_skip (by rfl) (by simp only [lightOp]) ?_
      simp only [Act.put, List.setIfInBounds_toArray, List.set_cons_zero, List.set_cons_succ]
      refine wpV_heavySkip (by simp only [lightOp]) (by rfl) (fun W hU hk => outV_new rfl trivial (by intro b hb; cases hb) (.refl _ _)) ?_
      rintro _ trivial
      simp only [Act.put, List.setIfInBounds_toArray, List.set_cons_zero, List.set_cons_succ]
      refine wpV_skip (by rfl) (by simp only [lightOp]) ?_
      simp only [Act.put, List.setIfInBounds_toArray, List.set_cons_zero, List.set_cons_succ]
      refine wpV_skip (by rfl) (by simp only [lightOp]) ?_
      simp only [Act.put, List.setIfInBounds_toArray, List.set_cons_zero, List.set_cons_succ]
      refine wpV_skip (by rfl) (by simp only [lightOp]) ?_
      simp only [Act.put, List.setIfInBounds_toArray, List.set_cons_zero, List.set_cons_succ]
      refine wpV_skip (by rfl) (by simp only [lightOp]) ?_
      simp only [Act.put, List.setIfInBounds_toArray, List.set_cons_zero, List.set_cons_succ]
      with_reducible apply wpV_light
      · simp only [lightOp]
      · intro W hU hF
        have f0 := CB.out W hU
        clear hU hF
        go_simp
        exact rfl
      simp only [Act.put, List.setIfInBounds_toArray, List.set_cons_zero, List.set_cons_succ]
      with_reducible apply wpV_light
      · simp only [lightOp]
      · intro W hU hF
        have f0 := CB.out W hU
        clear hU hF
        go_simp
        exact rfl
      simp only [Act.put, List.setIfInBounds_toArray, List.set_cons_zero, List.set_cons_succ]
      refine wpV_end (fun W hU _ _ => ?_)
      have U4 : Hid (Upd [] w3 W) := Lib.hid ((Upd.refl [] w3).drew.trans hU)
      clear hU
      refine wpT_end ?_
      go_wp2_with fail
      go_ret
      unfold DoPostT
      exact ⟨_, rfl, fun e => absurd (HIM.out e) (by decide), HST.out.upd0 U4.out, HU3.out.trans U4.out, fun g cs h => (KA3.out g cs h).upd U4.out (by simp)⟩
    | false =>
      obtain rfl : (6 : Int) = fv := by have := HFV.out; rw [hd] at this; exact this
      clear hd HFV
      go_wp2_with fail
      refine wp_invN [(1, .det (.int .i64 6)), (9, .det (.int .i64 n))] [] (by kernel_rfl) (by kernel_rfl) (by kernel_rfl) ⟨lasts_det _, lasts_det _, trivial⟩ ?_
      with_reducible apply wpV_light
      · simp only [lightOp]
      · intro W hU hF
        have f0 := CB.out W hU
        clear hU hF
        go_simp
        exact rfl
      simp only [Act.put, List.setIfInBounds_toArray, List.set_cons_zero, List.set_cons_succ]
      refine wpV_heavy (by simp only [lightOp]) (by rfl) (fun W hU hk hF K hK => ?_) ?_
      · go_wp2_with fail
        refine (no_err (EV3.out.upd ((Upd.refl [] _).drew.trans hU))).mono ?_; rintro e w2 ⟨rfl, rfl⟩
        go_wp2_with fail
        exact hK.out _ _ (outV_new rfl rfl (by intro b hb; cases hb) (.refl _ _))
      rintro _ rfl
      simp only [Act.put, List.setIfInBounds_toArray, List.set_cons_zero, List.set_cons_succ]
      with_reducible apply wpV_light
      · simp only [lightOp]
      · intro W hU hF
        have f0 := CB.out W hU
        clear hU hF
        go_simp
        exact rfl
      simp only [Act.put, List.setIfInBounds_toArray, List.set_cons_zero, List.set_cons_succ]
      with_reducible apply wpV_light
      · simp only [lightOp]
      · intro W hU hF
        have f0 := CB.out W hU
        clear hU hF
        go_simp
        exact rfl
      simp only [Act.put, List.setIfInBounds_toArray, List.set_cons_zero, List.set_cons_succ]
      with_reducible apply wpV_light
      · simp only [lightOp]
      · intro W hU hF
        have f0 := CB.out W hU
        clear hU hF
        go_simp
        exact rfl
      simp only [Act.put, List.setIfInBounds_toArray, List.set_cons_zero, List.set_cons_succ]
      with_reducible apply wpV_light
      · simp only [lightOp]
      · intro W hU hF
        have f0 := CB.out W hU
        clear hU hF
        go_simp
        exact rfl
      simp only [Act.put, List.setIfInBounds_toArray, List.set_cons_zero, List.set_cons_succ]
      with_reducible apply wpV_light
      · simp only [lightOp]
      · intro W hU hF
        have f0 := CB.out W hU
        clear hU hF
        go_simp
        exact rfl
      simp only [Act.put, List.setIfInBounds_toArray, List.set_cons_zero, List.set_cons_succ]
      with_reducible apply wpV_light
      · simp only [lightOp]
      · intro W hU hF
        have f0 := CB.out W hU
        clear hU hF
        go_simp
        exact rfl
      simp only [Act.put, List.setIfInBounds_toArray, List.set_cons_zero, List.set_cons_succ]
      with_reducible apply wpV_light
      · simp only [lightOp]
      · intro W hU hF
        have f0 := CB.out W hU
        clear hU hF
        go_simp
        exact rfl
      simp only [Act.put, List.setIfInBounds_toArray, List.set_cons_zero, List.set_cons_succ]
      refine wpV_heavy (by simp only [lightOp]) (by rfl) (fun W hU hk hF K hK => ?_) ?_
      · go_wp2_with fail
        refine (place_err (EV3.out.upd ((Upd.refl [] _).drew.trans hU)) (HG.out.upd (HU3.out.trans ((Upd.refl [] _).drew.trans hU)) (by simp))).mono ?_; rintro e w2 ⟨rfl, u2⟩
        go_wp2_with fail
        exact hK.out _ _ (outV_new rfl rfl (by intro b hb; cases hb) u2)
      rintro _ rfl
      simp only [Act.put, List.setIfInBounds_toArray, List.set_cons_zero, List.set_cons_succ]
      with_reducible apply wpV_light
      · simp only [lightOp]
      · intro W hU hF
        have f0 := CB.out W hU
        clear hU hF
        go_simp
        exact rfl
      simp only [Act.put, List.setIfInBounds_toArray, List.set_cons_zero, List.set_cons_succ]
      with_reducible apply wpV_light
      · simp only [lightOp]
      · intro W hU hF
        have f0 := CB.out W hU
        clear hU hF
        go_simp
        exact rfl
      simp only [Act.put, List.setIfInBounds_toArray, List.set_cons_zero, List.set_cons_succ]
      with_reducible apply wpV_light
      · simp only [lightOp]
      · intro W hU hF
        have f0 := CB.out W hU
        clear hU hF
        go_simp
        exact rfl
      simp only [Act.put, List.setIfInBounds_toArray, List.set_cons_zero, List.set_cons_succ]
      with_reducible apply wpV_light
      · simp only [lightOp]
      · intro W hU hF
        have f0 := CB.out W hU
        clear hU hF
        go_simp
        exact rfl
      simp only [Act.put, List.setIfInBounds_toArray, List.set_cons_zero, List.set_cons_succ]
      with_reducible apply wpV_light
      · simp only [lightOp]
      · intro W hU hF
        have f0 := CB.out W hU
        clear hU hF
        go_simp
        exact rfl
      simp only [Act.put, List.setIfInBounds_toArray, List.set_cons_zero, List.set_cons_succ]
      with_reducible apply wpV_light
      · simp only [lightOp]
      · intro W hU hF
        have f0 := CB.out W hU
        clear hU hF
        go_simp
        exact rfl
      simp only [Act.put, List.setIfInBounds_toArray, List.set_cons_zero, List.set_cons_succ]
      refine wpV_end (fun W hU _ _ => ?_)
      have U4 : Hid (Upd [] w3 W) := Lib.hid ((Upd.refl [] w3).drew.trans hU)
      clear hU
      refine wpT_end ?_
      go_wp2_with fail
      go_ret
      unfold DoPostT
      exact ⟨_, rfl, fun _ => by simp, HST.out.upd0 U4.out, HU3.out.trans U4.out, fun g cs h => (KA3.out g cs h).upd U4.out (by simp)⟩
theorem doT_ok (B sb am wm rb : Nat) (T : List Nat) (wS : World) (s : SS) (d : DS) (k c x n : Int) (w0 w : World) (h : BothT B sb am wm rb T wS w s d) (hl : s.log.length ≤ 1000) (hg : Typed w0) (hB : w0.heap.size ≤ B) (hu0 : Upd [] w0 w) (hBw : B ≤ w.heap.size) :
    Calls Tryd.prog 11 #[.pointer (some ⟨sb, 0, none⟩), .pointer (some ⟨rb, 0, none⟩), .agg #[.int .i64 k, .int .u64 c, .int .u64 x, .int .i64 n]] w fun e w' => DoPostT B sb am wm rb T wS s d (k, c, x, n) w0 w e w' := by
  by_cases h0 : k = 0
  · subst h0; exact doT_0 B sb am wm rb T wS s d c x n w0 w h hl hg hB hu0 hBw
  by_cases h1 : k = 1
  · subst h1; exact doT_1 B sb am wm rb T wS s d c x n w0 w h hl hg hB hu0 hBw
  by_cases h2 : k = 2
  · subst h2; exact doT_2 B sb am wm rb T wS s d c x n w0 w h hl hg hB hu0 hBw
  by_cases h3 : k = 3
  · subst h3; exact doT_3 B sb am wm rb T wS s d c x n w0 w h hl hg hB hu0 hBw
  by_cases h4 : k = 4
  · subst h4; exact doT_4 B sb am wm rb T wS s d c x n w0 w h hl hg hB hu0 hBw
  by_cases h5 : k = 5
  · subst h5; exact doT_5 B sb am wm rb T wS s d c x n w0 w h hl hg hB hu0 hBw
  have d0 : (k == 0) = false := by simpa using h0
  have d1 : (k == 1) = false := by simpa using h1
  have d2 : (k == 2) = false := by simpa using h2
  have d3 : (k == 3) = false := by simpa using h3
  have d4 : (k == 4) = false := by simpa using h4
  have d5 : (k == 5) = false := by simpa using h5
  have HE : Hid (stepS s (k, c, x, n) = s ∧ stepD d (k, c, x, n) = d) := Lib.hid (by unfold stepS stepD; simp [h0, h1, h2, h3, h4, h5])
  clear h0 h1 h2 h3 h4 h5
  obtain ⟨F, G, hs, hd, hdj, htk⟩ := h
  have HS0 := Lib.hid hs
  have HD0 := Lib.hid hd
  have HJ0 := Lib.hid hdj
  have TK0 := Lib.hid htk
  have HLL := Lib.hid hl
  have HG := Lib.hid hg
  have HB := Lib.hid hB
  have HU0 := Lib.hid hu0
  have HBW := Lib.hid hBw
  clear hs hd hdj htk hl hg hB hu0 hBw
  go_enter Tryd.func11, Tryd.ntmps11
  go_wp2_with fail
  have UA : Hid (Upd [] w (w.alloc (.cells #[.int .i64 k, .int .u64 c, .int .u64 x, .int .i64 n] 40))) := Lib.hid ((Upd.refl [] w).alloc _)
  have YA : Hid (Blk (w.alloc (.cells #[.int .i64 k, .int .u64 c, .int .u64 x, .int .i64 n] 40)) w.heap.size 40 #[.int .i64 k, .int .u64 c, .int .u64 x, .int .i64 n]) := Lib.hid (Blk.new w _ _)
  generalize (w.alloc (.cells #[.int .i64 k, .int .u64 c, .int .u64 x, .int .i64 n] 40)) = w1 at *
  have HS1 := Lib.hid (HS0.out.upd0 UA.out)
  have HD1 := Lib.hid (HD0.out.upd0 UA.out)
  have HU1 := Lib.hid (HU0.out.trans UA.out)
  have HBW1 : Hid (B ≤ w1.heap.size) := Lib.hid (Nat.le_trans HBW.out UA.out.size)
  have KA1 : Hid (KeepA w w1) := Lib.hid (fun g cs h => h.upd UA.out (by simp))
  have TK1 := Lib.hid (TK0.out.u UA.out)
  clear UA HS0 HD0 HU0 HBW TK0
  have y0 : w1.cell? ⟨w.heap.size, 0, none⟩ = some (.int .i64 k) := YA.out.cell 0
  have y1 : w1.cell? ⟨w.heap.size, 1, none⟩ = some (.int .u64 c) := YA.out.cell 1
  have y2 : w1.cell? ⟨w.heap.size, 2, none⟩ = some (.int .u64 x) := YA.out.cell 2
  have y3 : w1.cell? ⟨w.heap.size, 3, none⟩ = some (.int .i64 n) := YA.out.cell 3
  go_wp2_with fail
  go_ret
  unfold DoPostT
  rw [HE.out.1, HE.out.2]
  exact ⟨_, rfl, fun _ => rfl, ⟨_, _, HS1.out, HD1.out, HJ0.out, TK1.out⟩, HU1.out, KA1.out⟩
end Go.Proofs.YtbpmkbcpnnpdjaaDoor

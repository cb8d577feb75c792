/-
  ProgJudges: the walk.
-/
import Derived.Test.YtblfklnnojhadaaDoorPAlive
import Derived.Test.YtblfklnnojhadaaDoorRefR
set_option linter.unusedVariables false
namespace Go.Proofs.YtblfklnnojhadaaDoor
open Go.RowKit

set_option maxRecDepth 100000 in
set_option maxHeartbeats 2000000 in
theorem law_pjudges (v : Value) (l : List Stm) (A : Option Addr) (n c : Nat) (ks : List Int) (w : World) (hv : Stms w w.heap.size v l) (hk : Src w 1 (.slice A n c) n (ks.map (Value.int .i64))) (hc : n ≤ c) (hm : c ≤ 9223372036854775807) (hg : Typed w) :
    Calls Tryd.prog 3 #[v, .slice A n c] w fun e w' => e = .returned (.bool true) ∧ Upd [] w w' := by
  have hn9 : n ≤ 9223372036854775807 := by omega
  have HV := Lib.hid hv
  have HK := Lib.hid hk
  have HG := Lib.hid hg
  obtain ⟨Av, nv, cv, rfl⟩ := hv.slice
  obtain ⟨b, hb⟩ : ∃ b, fewB l = b := ⟨_, rfl⟩
  have HB := Lib.hid hb
  clear hv hk hg hb
  have keep : Hid (∀ W, Upd [] w W → Stms W W.heap.size (.slice Av nv cv) l ∧ Src W 1 (.slice A n c) n (ks.map (Value.int .i64)) ∧ Typed W) := Lib.hid (fun W hu => ⟨(HV.out.belowW (hu.below (Nat.le_refl _) (by simp))).more hu.size, HK.out.upd0 hu, HG.out.upd hu (by simp)⟩)
  have fin : Hid (∀ W, Upd [] w W → Calls Tryd.prog 9 #[] W fun e w' => e = .returned (.bool true) ∧ Upd [] w w') := Lib.hid (fun W hu => (palive_ok W (HG.out.upd hu (by simp))).mono fun e w' ⟨h1, h2⟩ => ⟨h1, hu.trans h2⟩)
  go_enter Tryd.func3, Tryd.ntmps3
  go_wp2_with fail
  refine (few_ok l (.slice Av nv cv) _ HV.out).mono ?_; rintro e w1 ⟨rfl, u1⟩
  rw [HB.out]
  have U1 := Lib.hid u1
  clear u1
  cases b with
  | false =>
    go_wp2_with fail
    refine (fin.out _ U1.out).mono ?_; rintro e w2 ⟨rfl, u2⟩
    have U2 := Lib.hid u2
    clear u2
    go_wp2_with fail
    go_ret
    exact ⟨rfl, U2.out⟩
  | true =>
    have hs := few_sizes HB.out
    by_cases h20 : 20 < n
    · have h20' : decide ((20 : Int) < n) = true := by simp; omega
      go_wp2_with fail
      refine (fin.out _ U1.out).mono ?_; rintro e w2 ⟨rfl, u2⟩
      have U2 := Lib.hid u2
      clear u2
      go_wp2_with fail
      go_ret
      exact ⟨rfl, U2.out⟩
    · have h20' : decide ((20 : Int) < n) = false := by simp; omega
      go_wp2_with fail
      refine (prog_right_ok l (.slice Av nv cv) A n c ks _ (keep.out _ U1.out).1 (keep.out _ U1.out).2.1 (by omega) (by omega)).mono ?_; rintro e w2 ⟨v2, rfl, e2, u2⟩
      have E2 := Lib.hid e2
      have U2 := Lib.hid (U1.out.trans u2)
      clear e2 u2 U1
      go_wp2_with fail
      refine (ref_right_ok l (.slice Av nv cv) A n c ks _ (keep.out _ U2.out).1 (keep.out _ U2.out).2.1 (by omega) (by omega)).mono ?_; rintro e w3 ⟨rfl, u3⟩
      have E3 := Lib.hid (E2.out.upd u3)
      have U3 := Lib.hid (U2.out.trans u3)
      clear u3 E2 U2
      go_wp2_with fail
      refine (no_err E3.out).mono ?_; rintro e w4 ⟨rfl, rfl⟩
      go_wp2_with fail
      refine (place_err E3.out (keep.out _ U3.out).2.2).mono ?_; rintro e w4 ⟨rfl, u4⟩
      have U4 := Lib.hid (U3.out.trans u4)
      clear u4 E3
      go_wp2_with fail
      refine (fin.out _ U4.out).mono ?_; rintro e w5 ⟨rfl, u5⟩
      have U5 := Lib.hid u5
      clear u5
      go_wp2_with fail
      go_ret
      exact ⟨rfl, U5.out⟩
end Go.Proofs.YtblfklnnojhadaaDoor

/-
  ProgWithin: the walk.
-/
import Derived.Test.YtblfklnnojhadaaDoorStmsR
import Derived.Test.YtblfklnnojhadaaDoorPPlain
set_option linter.unusedVariables false
namespace Go.Proofs.YtblfklnnojhadaaDoor
open Go.RowKit

set_option maxRecDepth 100000 in
set_option maxHeartbeats 4000000 in
theorem law_pwithin (v : Value) (l : List Stm) (A : Option Addr) (n c : Nat) (ks : List Int) (w : World) (hv : Stms w w.heap.size v l) (hk : Src w 1 (.slice A n c) n (ks.map (Value.int .i64))) (hc : n ≤ c) (hm : c ≤ 9223372036854775807) (hg : Typed w) :
    Calls Tryd.prog 6 #[v, .slice A n c] w fun e w' => e = .returned (.bool true) ∧ Upd [] w w' := by
  have hn9 : n ≤ 9223372036854775807 := by omega
  have HV := Lib.hid hv
  have HK := Lib.hid hk
  have HG := Lib.hid hg
  obtain ⟨Av, nv, cv, rfl⟩ := hv.slice
  obtain ⟨b, hb⟩ : ∃ b, fewB l = b := ⟨_, rfl⟩
  have HB := Lib.hid hb
  clear hv hk hg hb
  have keep : Hid (∀ W, Upd [] w W → Stms W W.heap.size (.slice Av nv cv) l ∧ Src W 1 (.slice A n c) n (ks.map (Value.int .i64)) ∧ Typed W) := Lib.hid (fun W hu => ⟨(HV.out.belowW (hu.below (Nat.le_refl _) (by simp))).more hu.size, HK.out.upd0 hu, HG.out.upd hu (by simp)⟩)
  have fin : Hid (∀ W, Upd [] w W → Calls Tryd.prog 9 #[] W fun e w' => e = .returned (.bool true) ∧ Upd [] w w') := Lib.hid (fun W hu => (palive_ok W (HG.out.upd hu (by simp))).mono fun e w' ⟨h1, h2⟩ => ⟨h1, hu.trans h2⟩)
  go_enter Tryd.func6, Tryd.ntmps6
  go_wp2_with fail
  refine (few_ok l (.slice Av nv cv) _ HV.out).mono ?_; rintro e w1 ⟨rfl, u1⟩
  rw [HB.out]
  have U1 := Lib.hid u1
  clear u1
  cases b with
  | false =>
    go_wp2_with fail
    refine (fin.out _ U1.out).mono ?_; rintro e w2 ⟨rfl, u2⟩
    have U2 := Lib.hid u2
    clear u2
    go_wp2_with fail
    go_ret
    exact ⟨rfl, U2.out⟩
  | true =>
    have hs := few_sizes HB.out
    by_cases h20 : 20 < n
    · have h20' : decide ((20 : Int) < n) = true := by simp; omega
      go_wp2_with fail
      refine (fin.out _ U1.out).mono ?_; rintro e w2 ⟨rfl, u2⟩
      have U2 := Lib.hid u2
      clear u2
      go_wp2_with fail
      go_ret
      exact ⟨rfl, U2.out⟩
    · have h20' : decide ((20 : Int) < n) = false := by simp; omega
      go_wp2_with fail
      refine (prog_right_ok l (.slice Av nv cv) A n c ks _ (keep.out _ U1.out).1 (keep.out _ U1.out).2.1 (by omega) (by omega)).mono ?_; rintro e w2 ⟨v2, rfl, e2, u2⟩
      have E2 := Lib.hid e2
      have U2 := Lib.hid (U1.out.trans u2)
      clear e2 u2 U1
      go_wp2_with fail
      refine (no_err E2.out).mono ?_; rintro e w3 ⟨rfl, rfl⟩
      by_cases hr : (rightR ks l).1 = 0
      · have RW := Lib.hid (right_whole ks l hr)
        have hr' : ((rightR ks l).1 != 0) = false := by simp [hr]
        have HR := Lib.hid hr
        clear hr
        go_wp2_with fail
        have S3 : Hid (∀ W, Upd [] (w2.alloc (.cells #[.int .i64 13, .int .i64 0, .int .i64 0, .int .i64 0, .int .i64 0, .int .i64 0, .int .i64 0, .slice Av nv cv, .slice none 0 0] 39)) W → Stms W W.heap.size (.slice (some ⟨w2.heap.size, 0, none⟩) 1 1) (whole l)) := Lib.hid (fun W hu =>
          stms_one ((Blk.new w2 39 _).upd hu (by simp)) _ (by have := hu.size; simp at this; omega) 1 (by omega) (by omega) (keep.out W ((U2.out.alloc _).trans hu)).1 (stms_nil _ _))
        have U3 : Hid (Upd [] w (w2.alloc (.cells #[.int .i64 13, .int .i64 0, .int .i64 0, .int .i64 0, .int .i64 0, .int .i64 0, .int .i64 0, .slice Av nv cv, .slice none 0 0] 39))) := Lib.hid (U2.out.alloc _)
        generalize (w2.alloc (.cells #[.int .i64 13, .int .i64 0, .int .i64 0, .int .i64 0, .int .i64 0, .int .i64 0, .int .i64 0, .slice Av nv cv, .slice none 0 0] 39)) = w3 at *
        have hsw : sizes (whole l) ≤ 900000 := by unfold whole; rw [sizes_cons, size_mk, sizes_nil]; omega
        have SW := Lib.hid (size_whole l)
        have DW := Lib.hid (deep_whole l)
        have dp0 := deepR_pos l
        have sz0 : sizeR l ≤ 250 := by rw [sizeR_eq]; omega
        have sz1 : 0 ≤ sizeR l := by rw [sizeR_eq]; omega
        obtain ⟨dl, hdl⟩ : ∃ s, deepR l = s := ⟨_, rfl⟩
        obtain ⟨sl, hsl⟩ : ∃ s, sizeR l = s := ⟨_, rfl⟩
        rw [hdl] at dp0 RW DW
        rw [hsl] at sz0 sz1 RW SW
        have DL := Lib.hid hdl
        have SL := Lib.hid hsl
        clear hdl hsl
        have dlm : dl ≤ 1000 := by
          have := maxD_at (linesOf 1 l) 0
          rw [← deepR_eq, DL.out] at this
          rcases this with h | ⟨p, hp, h⟩
          · omega
          · have := (refR_ok ks _ 0 (by rw [← refR_walk]; exact HR.out)).2 p hp
            omega
        refine (prog_right_ok (whole l) _ A n c ks w3 (S3.out _ (.refl _ _)) (keep.out _ U3.out).2.1 (by omega) hsw).mono ?_; rintro e w4 ⟨v4, rfl, e4, u4⟩
        have E4 := Lib.hid e4
        have U4 := Lib.hid (U3.out.trans u4)
        have K4 := Lib.hid u4
        clear e4 u4 E2 U2
        go_wp2_with fail
        refine (deep_ok l (.slice Av nv cv) _ (keep.out _ U4.out).1 (by omega)).mono ?_; rintro e w5 ⟨rfl, u5⟩
        rw [DL.out]
        have E5 := Lib.hid (E4.out.upd u5)
        have U5 := Lib.hid (U4.out.trans u5)
        have K5 := Lib.hid (K4.out.trans u5)
        clear u5 E4 U4 K4
        by_cases hd8 : dl = 8
        · have hd8' : (dl == 8) = true := by simp [hd8]
          rcases RW.out.1 hd8 with hq | hq
          · have HQ := Lib.hid hq
            clear hq hd8
            go_wp2_with fail
            refine (no_err E5.out).mono ?_; rintro e w6 ⟨rfl, rfl⟩
            rw [HQ.out]
            go_wp2_with fail
            refine (fin.out _ U5.out).mono ?_; rintro e w7 ⟨rfl, u7⟩
            have U7 := Lib.hid u7
            clear u7
            go_wp2_with fail
            go_ret
            exact ⟨rfl, U7.out⟩
          · have HQ := Lib.hid hq
            clear hq hd8
            go_wp2_with fail
            refine (no_err E5.out).mono ?_; rintro e w6 ⟨rfl, rfl⟩
            rw [HQ.out]
            go_wp2_with fail
            refine (no_err E5.out).mono ?_; rintro e w6 ⟨rfl, rfl⟩
            rw [HQ.out]
            go_wp2_with fail
            refine (fin.out _ U5.out).mono ?_; rintro e w7 ⟨rfl, u7⟩
            have U7 := Lib.hid u7
            clear u7
            go_wp2_with fail
            go_ret
            exact ⟨rfl, U7.out⟩
        · have hd8' : (dl == 8) = false := by simpa using hd8
          go_wp2_with fail
          refine (size_ok l (.slice Av nv cv) _ (keep.out _ U5.out).1 (by omega)).mono ?_; rintro e w6 ⟨rfl, u6⟩
          rw [SL.out]
          have E6 := Lib.hid (E5.out.upd u6)
          have U6 := Lib.hid (U5.out.trans u6)
          have K6 := Lib.hid (K5.out.trans u6)
          clear u6 E5 U5 K5
          by_cases hs100 : sl = 100
          · have hs100' : (sl == 100) = true := by simp [hs100]
            have HQ := Lib.hid (RW.out.2.1 hd8 hs100)
            clear hs100 hd8
            go_wp2_with fail
            refine (no_err E6.out).mono ?_; rintro e w7 ⟨rfl, rfl⟩
            rw [HQ.out]
            go_wp2_with fail
            refine (fin.out _ U6.out).mono ?_; rintro e w7 ⟨rfl, u7⟩
            have U7 := Lib.hid u7
            clear u7
            go_wp2_with fail
            go_ret
            exact ⟨rfl, U7.out⟩
          · have hs100' : (sl == 100) = false := by simpa using hs100
            have HQ := Lib.hid (RW.out.2.2 hd8 hs100)
            clear hs100 hd8
            go_wp2_with fail
            refine (no_err E6.out).mono ?_; rintro e w7 ⟨rfl, rfl⟩
            rw [HQ.out]
            go_wp2_with fail
            refine (size_ok (whole l) _ _ (S3.out _ K6.out) hsw).mono ?_; rintro e w7 ⟨rfl, u7⟩
            rw [SW.out]
            have U7 := Lib.hid (U6.out.trans u7)
            have K7 := Lib.hid (K6.out.trans u7)
            clear u7 U6 K6 E6
            go_wp2_with fail
            refine (size_ok l (.slice Av nv cv) _ (keep.out _ U7.out).1 (by omega)).mono ?_; rintro e w8 ⟨rfl, u8⟩
            rw [SL.out]
            have U8 := Lib.hid (U7.out.trans u8)
            have K8 := Lib.hid (K7.out.trans u8)
            clear u8 U7 K7
            go_wp2_with fail
            refine (deep_ok (whole l) _ _ (S3.out _ K8.out) hsw).mono ?_; rintro e w9 ⟨rfl, u9⟩
            rw [DW.out]
            have U9 := Lib.hid (U8.out.trans u9)
            have K9 := Lib.hid (K8.out.trans u9)
            clear u9 U8 K8
            go_wp2_with fail
            refine (deep_ok l (.slice Av nv cv) _ (keep.out _ U9.out).1 (by omega)).mono ?_; rintro e w10 ⟨rfl, u10⟩
            rw [DL.out]
            have U10 := Lib.hid (U9.out.trans u10)
            clear u10 U9 K9
            go_wp2_with fail
            refine (fin.out _ U10.out).mono ?_; rintro e w11 ⟨rfl, u11⟩
            have U11 := Lib.hid u11
            clear u11
            go_wp2_with fail
            go_ret
            exact ⟨rfl, U11.out⟩
      · have hr' : ((rightR ks l).1 != 0) = true := by simpa using hr
        clear hr
        go_wp2_with fail
        refine (fin.out _ U2.out).mono ?_; rintro e w4 ⟨rfl, u4⟩
        have U4 := Lib.hid u4
        clear u4
        go_wp2_with fail
        go_ret
        exact ⟨rfl, U4.out⟩
end Go.Proofs.YtblfklnnojhadaaDoor

/-
  EvalLoops, the walk.
-/
import Derived.Test.YtfbeaklplefojaaGreatDoorEvB13
import Derived.Test.YtfbeaklplefojaaGreatDoorEvB26
set_option linter.unusedVariables false
namespace Go.Proofs.YtfbeaklplefojaaGreatDoor.Ev
open Go.RowKit Assoc MP
attribute [local go_sem] litStep_value

set_option maxRecDepth 100000 in
set_option maxHeartbeats 1000000 in
theorem emod_ok (n m : Int) (w : World) (hm : 0 < m) (hb : m ≤ 1000) : Calls Tryz.prog 13 #[.int .i64 n, .int .i64 m] w fun e w' => e = .returned (.int .i64 (modI n m)) ∧ w = w' := by
  have z : ¬ m = 0 := by omega
  have hw := tmod_in n m hm hb
  obtain ⟨x, hx⟩ : ∃ x, modI n m = x := ⟨_, rfl⟩
  have HX : Hid ((n.tmod m + m).tmod m = x) := Lib.hid hx
  rw [hx]
  clear hx
  go_enter Tryz.func13, Tryz.ntmps13
  go_wp2_with fail
  go_ret
  rw [← HX.out]
  exact ⟨rfl, rfl⟩
set_option maxRecDepth 100000 in
theorem same_nils (w : World) : Calls Tryz.prog 14 #[.slice none 0 0, .slice none 0 0] w fun e w' => e = .returned (.bool true) ∧ w = w' := by
  go_enter Tryz.func14, Tryz.ntmps14
  go_wp2_with fail
  refine wp_loop_rounds 1 ?_
  rw [rounds_succ]
  go_wp2_with fail
  go_ret
  exact ⟨rfl, rfl⟩
theorem sizes_times (p : List Stm) : ∀ n, sizes (timesL p n) = n * sizes p
  | 0 => by simp [timesL, sizes_nil]
  | n + 1 => by
    show sizes (timesL p n ++ p) = _
    rw [sizes_append, sizes_times p n, Nat.add_mul]; omega
theorem len_times (p : List Stm) : ∀ n, (timesL p n).length = n * p.length
  | 0 => by simp [timesL]
  | n + 1 => by
    show (timesL p n ++ p).length = _
    rw [List.length_append, len_times p n, Nat.add_mul]; omega
/-- The list so far. -/
def FlatW (B : Nat) (l : List Stm) (k : Nat) (fv : Value) (w : World) : Prop := ∃ ys, w.ownsRow B 40 9 fv (timesL l k).length ys ∧ StmsR w B (timesL l k) ys
set_option maxRecDepth 100000 in
set_option maxHeartbeats 8000000 in
theorem law_loops (A' : Option Addr) (m d : Nat) (ks : List Int) (A : Option Addr) (n c : Nat) (L : List MAct) (v : Value) (l : List Stm) (q : Int) (w : World) (hK : Rd encK w (.slice A' m d) ks) (hm : ks.length = m) (hmm : m ≤ 9223372036854775807) (hA : Rd encA w (.slice A n c) L) (hn : L.length = n) (hkb : ∀ a ∈ L, kB a.2.2.1) (hv : Stms w w.heap.size v l) (hg : Typed w) :
    Calls Tryz.prog 5 #[.slice A' m d, .slice A n c, v, .int .i64 q] w fun e w' => e = .returned (.bool true) ∧ Upd [] w w' := by
  obtain ⟨X, xn, xc, rfl⟩ := hv.slice
  have HG := Lib.hid hg
  have HV := Lib.hid hv
  have HB := Lib.hid (both_ok A A' m d n c ks L w hK hm hmm hA hn hkb hg)
  clear hg hv hA hn hK hm hkb
  go_enter Tryz.func5, Tryz.ntmps5
  go_wp2_with fail
  refine HB.out.mono ?_; rintro e w1 h
  rcases h with ⟨rfl, u1⟩ | ⟨sb, F, rb, rfl, s1, _, _, u1⟩
  · have U1 := Lib.hid u1
    clear u1 HB
    go_wp2_with fail
    refine (emod_ok q 6 w1 (by omega) (by omega)).mono ?_; rintro e w' ⟨rfl, rfl⟩
    go_wp2_with fail
    refine (e_alive w1 (HG.out.upd U1.out (by simp))).mono ?_; rintro e w9 ⟨rfl, u9⟩
    have U9 := Lib.hid (U1.out.trans u9)
    clear u9
    go_wp2_with fail
    go_ret
    exact ⟨rfl, U9.out⟩
  · have U1 := Lib.hid u1
    obtain ⟨s, hs⟩ : ∃ s, runM ks L = s := ⟨_, rfl⟩
    rw [hs] at s1
    have S1 := Lib.hid s1
    clear u1 s1 hs HB
    go_wp2_with fail
    refine (emod_ok q 6 w1 (by omega) (by omega)).mono ?_; rintro e w' ⟨rfl, rfl⟩
    obtain ⟨N, hN⟩ : ∃ N : Nat, modI q 6 = N := ⟨(modI q 6).toNat, by have := modI_rng q 6 (by omega); omega⟩
    have hN6 : N < 6 := by have := modI_rng q 6 (by omega); omega
    rw [hN]
    clear hN
    go_wp2_with fail
    refine (few_ok l _ w1 ((HV.out.belowW (U1.out.below (Nat.le_refl _) (by simp))).more U1.out.size)).mono ?_; rintro e w2 ⟨rfl, u2⟩
    have U2 := Lib.hid (U1.out.trans u2)
    have S2 := Lib.hid (S1.out.upd0 u2)
    clear u2 U1 S1
    obtain ⟨b, hb⟩ : ∃ b, fewB l = b := ⟨_, rfl⟩
    have HB := Lib.hid hb
    rw [hb]
    clear hb
    cases b with
    | false =>
      go_wp2_with fail
      refine (e_alive w2 (HG.out.upd U2.out (by simp))).mono ?_; rintro e w9 ⟨rfl, u9⟩
      have U9 := Lib.hid (U2.out.trans u9)
      clear u9
      go_wp2_with fail
      go_ret
      exact ⟨rfl, U9.out⟩
    | true =>
      have hs := few_sizes HB.out
      have V2 : Hid (Stms w2 w2.heap.size (.slice X xn xc) l) := Lib.hid ((HV.out.belowW (U2.out.below (Nat.le_refl _) (by simp))).more U2.out.size)
      have HSZ := Lib.hid hs
      have HLN : Hid (l.length = xn) := Lib.hid (by cases HV.out with | mk _ _ _ _ _ _ h => exact h)
      have hxn : xn ≤ 250 := by rw [← HLN.out]; exact Nat.le_trans (list_le_sizes l) hs
      obtain ⟨xs, sx, rx⟩ := stmsR_of V2.out (Nat.le_refl _)
      have SX := Lib.hid sx
      have RX := Lib.hid rx
      have F2 : Hid (FlatW w2.heap.size l 0 (.slice none 0 0) w2) := Lib.hid ⟨[], own_nil _ _ _ _, rfl⟩
      clear sx rx hs V2
      go_wp2_with fail
      go_loopw [39, 11] (fun v fv wr => ∃ (k : Nat) (Y : Option Addr) (y yc : Nat), v = .int .i64 k ∧ k ≤ N ∧ fv = .slice Y y yc ∧ Hid (FlatW w2.heap.size l k fv wr) ∧ Hid (Upd [] w2 wr)) (fun v _ _ => N - (intOf v).toNat)
      case atStart => exact ⟨0, _, _, _, rfl, by omega, rfl, F2, Lib.hid (.refl _ _)⟩
      case round =>
        obtain ⟨k, Y, y, yc, rfl, hk, rfl, FK, UK⟩ := hrel
        rename World => wr
        by_cases hkN : k < N
        · obtain ⟨ys, oy, ry⟩ := FK.out
          obtain ⟨Y', yc', e1, _, _⟩ := own_slice oy
          injection e1 with _ e2 _
          have hy : y ≤ 1500 := by rw [e2, len_times, HLN.out]; exact Nat.le_trans (Nat.mul_le_mul (by omega : k ≤ 6) hxn) (by omega)
          have HY := Lib.hid e2
          have OY : Hid (wr.ownsRow w2.heap.size 40 9 (.slice Y y yc) y ys) := Lib.hid (by rw [← e2] at oy; exact oy)
          have RY := Lib.hid ry
          have hsz : w2.heap.size ≤ wr.heap.size := UK.out.size
          clear oy ry e2
          go_wp2_with (at_builtin; refine stopped ?_)
          refine Lib.hid ?_
          refine wpList_app _ (by rfl) (.tmp 41) (.tmp 42) _ (by rfl) stm_elem (.slice Y y yc) (.slice X xn xc) (by rfl) (by rfl) OY.out (SX.out.upd0 UK.out) RX.out.one (by simp only [maxLen]; omega) (by omega) hsz ?_
          intro v3 w3 o3 u3 b3
          obtain ⟨Y3, c3, rfl, _, _⟩ := own_slice o3
          have U3 : Hid (Upd [] w2 w3) := Lib.hid (UK.out.trans' u3 (fun x hx => .inr (own_lt OY.out (b := x) (by simpa using hx)).1))
          have F3 : Hid (FlatW w2.heap.size l (k + 1) (.slice Y3 (y + xn) c3) w3) := Lib.hid ⟨ys ++ xs, by rw [len_times, Nat.add_mul, ← len_times, ← HY.out, HLN.out, Nat.one_mul]; exact o3, (RY.out.keep (u3.below hsz (fun x hx => (own_lt OY.out (b := x) (by simpa using hx)).1)) (Nat.le_refl _)).append (RX.out.keep (U3.out.below (Nat.le_refl _) (by simp)) (Nat.le_refl _))⟩
          clear o3 u3 b3
          go_wp2_with fail
          go_roundw
          case rel => exact ⟨k + 1, _, _, _, by go_num, by omega, rfl, F3, U3⟩
          case measure => simp [intOf]; omega
        · obtain rfl : k = N := by omega
          obtain ⟨ys, oy, ry⟩ := FK.out
          have U2' := Lib.hid (U2.out.trans UK.out)
          have S2' := Lib.hid (S2.out.upd0 UK.out)
          have V2' : Hid (Stms wr wr.heap.size (.slice Y y yc) (timesL l k)) := Lib.hid (by
            obtain ⟨Y', yc', e1, _, _⟩ := own_slice oy
            injection e1 with _ e2 _
            exact stms_of_own oy ry rfl UK.out.size (Nat.le_refl _))
          clear oy ry FK
          go_wp2_with fail
          refine (ran_law w.heap.size sb F s (timesL l k) _ wr S2'.out V2'.out (by rw [sizes_times]; exact Nat.le_trans (Nat.mul_le_mul (by omega : k ≤ 6) HSZ.out) (by omega)) (HG.out.upd U2'.out (by simp))).mono ?_
          rintro e w3 ⟨p3, A3, n3, c3, u3, rfl, r3, hu3⟩
          have R3 := Lib.hid r3
          have U3 := Lib.hid (U2'.out.trans hu3)
          have S3 := Lib.hid (S2'.out.upd0 hu3)
          have V3 : Hid (Stms w3 w3.heap.size (.slice X xn xc) l) := Lib.hid ((HV.out.belowW (U3.out.below (Nat.le_refl _) (by simp))).more U3.out.size)
          obtain ⟨e3, he3⟩ : ∃ x, endE s (timesL l k) = x := ⟨_, rfl⟩
          have HE3 := Lib.hid he3
          rw [he3]
          clear r3 hu3 he3 U2' S2' V2'
          go_wp2_with fail
          have B4 : Hid (Blk
            ((w3.alloc (.cells #[.int .i64 e3, .slice A3 n3 c3] 32)).alloc (.cells #[.int .i64 12, .int .i64 0, .int .i64 0, .int .i64 0, .int .i64 k, .int .i64 0, .int .i64 0, .slice X xn xc, .slice none 0 0] 40))
            w3.heap.size 32 #[.int .i64 e3, .slice A3 n3 c3]) := Lib.hid ((Blk.new _ _ _).alloc _)
          have C4 : Hid (Blk
            ((w3.alloc (.cells #[.int .i64 e3, .slice A3 n3 c3] 32)).alloc (.cells #[.int .i64 12, .int .i64 0, .int .i64 0, .int .i64 0, .int .i64 k, .int .i64 0, .int .i64 0, .slice X xn xc, .slice none 0 0] 40))
            (w3.heap.size + 1) 40 #[.int .i64 12, .int .i64 0, .int .i64 0, .int .i64 0, .int .i64 k, .int .i64 0, .int .i64 0, .slice X xn xc, .slice none 0 0]) := Lib.hid (Blk.newAt _ _ (by simp))
          have U4 : Hid (Upd [] w3
            ((w3.alloc (.cells #[.int .i64 e3, .slice A3 n3 c3] 32)).alloc (.cells #[.int .i64 12, .int .i64 0, .int .i64 0, .int .i64 0, .int .i64 k, .int .i64 0, .int .i64 0, .slice X xn xc, .slice none 0 0] 40))
            ) := Lib.hid (((Upd.refl [] w3).alloc _).alloc _)
          generalize
            ((w3.alloc (.cells #[.int .i64 e3, .slice A3 n3 c3] 32)).alloc (.cells #[.int .i64 12, .int .i64 0, .int .i64 0, .int .i64 0, .int .i64 k, .int .i64 0, .int .i64 0, .slice X xn xc, .slice none 0 0] 40))
            = w4 at B4 C4 U4 ⊢
          have V4 : Hid (Stms w4 w4.heap.size (.slice (some ⟨w3.heap.size + 1, 0, none⟩) 1 1) [.mk 12 0 0 0 (k : Int) 0 0 l []]) := Lib.hid (stms_one C4.out _ C4.out.lt 1 (by omega) (by omega) ((V3.out.belowW (U4.out.below (Nat.le_refl _) (by simp))).more U4.out.size) (stms_nil _ _))
          refine (ran_law w.heap.size sb F s [.mk 12 0 0 0 (k : Int) 0 0 l []] _ w4 (S3.out.upd0 U4.out) V4.out (by rw [sizes_cons, size_mk, sizes_nil]; have := HSZ.out; omega) (HG.out.upd (U3.out.trans U4.out) (by simp))).mono ?_
          rintro e w5 ⟨p5, A5, n5, c5, u5, rfl, r5, hu5⟩
          have R5 := Lib.hid r5
          have R35 := Lib.hid (R3.out.upd0 (U4.out.trans hu5))
          have U5 := Lib.hid (U3.out.trans (U4.out.trans hu5))
          have S5 := Lib.hid (S3.out.upd0 (U4.out.trans hu5))
          have B5 := Lib.hid (B4.out.upd hu5 (by simp))
          obtain ⟨e5, he5⟩ : ∃ x, endE s [.mk 12 0 0 0 (k : Int) 0 0 l []] = x := ⟨_, rfl⟩
          have HE5 := Lib.hid he5
          rw [he5]
          clear r5 hu5 he5 U3 S3 V3 R3 B4 C4 U4 V4
          have g0 : w5.cell? ⟨w3.heap.size, 0, none⟩ = some (.int .i64 e3) := B5.out.cell 0
          have g1 : w5.cell? ⟨w3.heap.size, 1, none⟩ = some (.slice A3 n3 c3) := B5.out.cell 1
          have gl : w3.heap.size < w5.heap.size := B5.out.lt
          obtain ⟨x3, hx3⟩ : ∃ x, errE s (timesL l k) = x := ⟨_, rfl⟩
          have HX3 := Lib.hid hx3
          obtain ⟨x5, hx5⟩ : ∃ x, errE s [.mk 12 0 0 0 (k : Int) 0 0 l []] = x := ⟨_, rfl⟩
          have HX5 := Lib.hid hx5
          clear hx3 hx5
          have U6 : Hid (Upd [] w5 (w5.alloc (.cells #[.int .i64 e5, .slice A5 n5 c5] 32))) := Lib.hid ((Upd.refl [] w5).alloc _)
          have U56 := Lib.hid (U5.out.trans U6.out)
          by_cases h3 : x3 = 0
          · have d3 : (x3 != (0 : Int)) = false := by simpa using h3
            by_cases h5 : x5 = 0
            · have d5 : (x5 != (0 : Int)) = false := by simpa using h5
              by_cases h34 : e3 = 4
              · have d34 : (e3 == (4 : Int)) = true := by simpa using h34
                clear h3 h5 h34
                go_wp2_with fail
                refine (ran_no (R35.out.upd0 U6.out)).mono ?_; rintro e w' ⟨rfl, rfl⟩
                rw [HX3.out]
                go_wp2_with fail
                refine (ran_no (R5.out.upd0 U6.out)).mono ?_; rintro e w' ⟨rfl, rfl⟩
                rw [HX5.out]
                go_wp2_with fail
                refine (e_alive (w5.alloc (.cells #[.int .i64 e5, .slice A5 n5 c5] 32)) (HG.out.upd U56.out (by simp))).mono ?_; rintro e w9 ⟨rfl, u9⟩
                have U9 := Lib.hid (U56.out.trans u9)
                clear u9
                go_wp2_with fail
                go_ret
                exact ⟨rfl, U9.out⟩
              · have d34 : (e3 == (4 : Int)) = false := by simpa using h34
                by_cases h54 : e5 = 4
                · have d54 : (e5 == (4 : Int)) = true := by simpa using h54
                  clear h3 h5 h34 h54
                  go_wp2_with fail
                  refine (ran_no (R35.out.upd0 U6.out)).mono ?_; rintro e w' ⟨rfl, rfl⟩
                  rw [HX3.out]
                  go_wp2_with fail
                  refine (ran_no (R5.out.upd0 U6.out)).mono ?_; rintro e w' ⟨rfl, rfl⟩
                  rw [HX5.out]
                  go_wp2_with fail
                  refine (e_alive (w5.alloc (.cells #[.int .i64 e5, .slice A5 n5 c5] 32)) (HG.out.upd U56.out (by simp))).mono ?_; rintro e w9 ⟨rfl, u9⟩
                  have U9 := Lib.hid (U56.out.trans u9)
                  clear u9
                  go_wp2_with fail
                  go_ret
                  exact ⟨rfl, U9.out⟩
                · have d54 : (e5 == (4 : Int)) = false := by simpa using h54
                  have L1 := Lib.hid (loop_law (s := s) (p := l) (n := k) (by rw [HX3.out]; exact h3) (by rw [HX5.out]; exact h5) (by rw [HE5.out]; exact h54))
                  have H3 := Lib.hid h3
                  have H5 := Lib.hid h5
                  clear h3 h5 h34 h54
                  go_wp2_with fail
                  refine (ran_no (R35.out.upd0 U6.out)).mono ?_; rintro e w' ⟨rfl, rfl⟩
                  rw [HX3.out]
                  go_wp2_with fail
                  refine (ran_no (R5.out.upd0 U6.out)).mono ?_; rintro e w' ⟨rfl, rfl⟩
                  rw [HX5.out]
                  go_wp2_with fail
                  refine (ran_same e3 e5 (R35.out.upd0 U6.out) (R5.out.upd0 U6.out)).mono ?_; rintro e w6 ⟨rfl, u6⟩
                  rw [decide_eq_true ⟨HE3.out.symm.trans (L1.out.1.symm.trans HE5.out), L1.out.2.1.symm⟩]
                  have U7 := Lib.hid (U6.out.trans u6)
                  clear u6 g0 g1 gl
                  go_wp2_with fail
                  refine (ran_msame (R35.out.upd0 U7.out) (R5.out.upd0 U7.out) (by rw [HX3.out]; exact H3.out) (by rw [HX5.out]; exact H5.out)).mono ?_; rintro e w7 ⟨b, rfl, hb, u7⟩
                  obtain rfl : b = true := hb.2 L1.out.2.2.symm
                  have U8 := Lib.hid (U5.out.trans (U7.out.trans u7))
                  clear u7 hb
                  go_wp2_with fail
                  refine (same_nils w7).mono ?_; rintro e w' ⟨rfl, rfl⟩
                  go_wp2_with fail
                  refine (e_alive w7 (HG.out.upd U8.out (by simp))).mono ?_; rintro e w9 ⟨rfl, u9⟩
                  have U9 := Lib.hid (U8.out.trans u9)
                  clear u9
                  go_wp2_with fail
                  go_ret
                  exact ⟨rfl, U9.out⟩
            · have d5 : (x5 != (0 : Int)) = true := by simpa using h5
              clear h3 h5
              go_wp2_with fail
              refine (ran_no (R35.out.upd0 U6.out)).mono ?_; rintro e w' ⟨rfl, rfl⟩
              rw [HX3.out]
              go_wp2_with fail
              refine (ran_no (R5.out.upd0 U6.out)).mono ?_; rintro e w' ⟨rfl, rfl⟩
              rw [HX5.out]
              go_wp2_with fail
              refine (e_alive (w5.alloc (.cells #[.int .i64 e5, .slice A5 n5 c5] 32)) (HG.out.upd U56.out (by simp))).mono ?_; rintro e w9 ⟨rfl, u9⟩
              have U9 := Lib.hid (U56.out.trans u9)
              clear u9
              go_wp2_with fail
              go_ret
              exact ⟨rfl, U9.out⟩
          · have d3 : (x3 != (0 : Int)) = true := by simpa using h3
            clear h3
            go_wp2_with fail
            refine (ran_no (R35.out.upd0 U6.out)).mono ?_; rintro e w' ⟨rfl, rfl⟩
            rw [HX3.out]
            go_wp2_with fail
            refine (e_alive (w5.alloc (.cells #[.int .i64 e5, .slice A5 n5 c5] 32)) (HG.out.upd U56.out (by simp))).mono ?_; rintro e w9 ⟨rfl, u9⟩
            have U9 := Lib.hid (U56.out.trans u9)
            clear u9
            go_wp2_with fail
            go_ret
            exact ⟨rfl, U9.out⟩
end Go.Proofs.YtfbeaklplefojaaGreatDoor.Ev

/-
  EvalOr, the walk.
-/
import Derived.Test.YtfbeaklplefojaaGreatDoorEvB13
import Derived.Test.YtfbeaklplefojaaGreatDoorEvB26
set_option linter.unusedVariables false
namespace Go.Proofs.YtfbeaklplefojaaGreatDoor.Ev
open Go.RowKit Assoc MP
attribute [local go_sem] litStep_value

theorem err_rng {s : MS} {l : List Stm} {w : World} {p : Option Addr} {v u : Value} (h : Ran s l w p v u) : 0 ≤ errE s l ∧ errE s l ≤ 17 := by
  obtain ⟨a, h⟩ := h.err
  rcases h with ⟨_, h, _⟩ | ⟨_, ⟨h, h'⟩, _⟩ | ⟨_, _, _, h, h'⟩ <;> omega
theorem _root_.Go.Proofs.YtfbeaklplefojaaGreatDoor.Stms.up0 {w w' : World} {v : Value} {l : List Stm} (h : Stms w w.heap.size v l) (hu : Upd [] w w') : Stms w' w'.heap.size v l := (h.belowW (hu.below (Nat.le_refl _) (by simp))).more hu.size
def ors (x y : List Stm) : List Stm := [.mk 14 0 0 0 0 0 0 x y]
def rty (x : List Stm) : List Stm := x ++ [.mk 15 0 0 0 0 0 0 [] []]
theorem size_ors (x y : List Stm) : sizes (ors x y) = 1 + sizes x + sizes y := by unfold ors; rw [sizes_cons, size_mk, sizes_nil]; omega
theorem size_rty (x : List Stm) : sizes (rty x) = sizes x + 1 := by unfold rty; rw [sizes_append]; rfl
set_option maxRecDepth 100000 in
set_option maxHeartbeats 8000000 in
theorem law_or (A' : Option Addr) (m d : Nat) (ks : List Int) (A : Option Addr) (n c : Nat) (L : List MAct) (v : Value) (p : List Stm) (v' : Value) (q : List Stm) (w : World) (hK : Rd encK w (.slice A' m d) ks) (hm : ks.length = m) (hmm : m ≤ 9223372036854775807) (hA : Rd encA w (.slice A n c) L) (hn : L.length = n) (hkb : ∀ a ∈ L, kB a.2.2.1) (hv : Stms w w.heap.size v p) (hv' : Stms w w.heap.size v' q) (hg : Typed w) :
    Calls Tryz.prog 4 #[.slice A' m d, .slice A n c, v, v'] w fun e w' => e = .returned (.bool true) ∧ Upd [] w w' := by
  obtain ⟨X, xn, xc, rfl⟩ := hv.slice
  obtain ⟨Z, zn, zc, rfl⟩ := hv'.slice
  have HG := Lib.hid hg
  have HV := Lib.hid hv
  have HZ := Lib.hid hv'
  have HB := Lib.hid (both_ok A A' m d n c ks L w hK hm hmm hA hn hkb hg)
  clear hg hv hv' hA hn hK hm hkb
  go_enter Tryz.func4, Tryz.ntmps4
  go_wp2_with fail
  refine HB.out.mono ?_; rintro e w1 h
  rcases h with ⟨rfl, u1⟩ | ⟨sb, F, rb, rfl, s1, _, _, u1⟩
  · have U1 := Lib.hid u1
    clear u1 HB
    go_wp2_with fail
    refine (e_alive w1 (HG.out.upd U1.out (by simp))).mono ?_; rintro e w9 ⟨rfl, u9⟩
    have U9 := Lib.hid (U1.out.trans u9)
    clear u9
    go_wp2_with fail
    go_ret
    exact ⟨rfl, U9.out⟩
  · have U1 := Lib.hid u1
    obtain ⟨s, hs⟩ : ∃ s, runM ks L = s := ⟨_, rfl⟩
    rw [hs] at s1
    have S1 := Lib.hid s1
    clear u1 s1 hs HB
    go_wp2_with fail
    refine (few_ok p _ w1 ((HV.out.belowW (U1.out.below (Nat.le_refl _) (by simp))).more U1.out.size)).mono ?_; rintro e w2 ⟨rfl, u2⟩
    have U2 := Lib.hid (U1.out.trans u2)
    have S2 := Lib.hid (S1.out.upd0 u2)
    clear u2 U1 S1
    obtain ⟨b, hb⟩ : ∃ b, fewB p = b := ⟨_, rfl⟩
    have HB := Lib.hid hb
    rw [hb]
    clear hb
    cases b with
    | false =>
      go_wp2_with fail
      refine (e_alive w2 (HG.out.upd U2.out (by simp))).mono ?_; rintro e w9 ⟨rfl, u9⟩
      have U9 := Lib.hid (U2.out.trans u9)
      clear u9
      go_wp2_with fail
      go_ret
      exact ⟨rfl, U9.out⟩
    | true =>
      go_wp2_with fail
      refine (few_ok q _ w2 (HZ.out.up0 U2.out)).mono ?_; rintro e w3 ⟨rfl, u3⟩
      have U3 := Lib.hid (U2.out.trans u3)
      have S3 := Lib.hid (S2.out.upd0 u3)
      clear u3 U2 S2
      obtain ⟨b, hb⟩ : ∃ b, fewB q = b := ⟨_, rfl⟩
      have HB' := Lib.hid hb
      rw [hb]
      clear hb
      cases b with
      | false =>
        go_wp2_with fail
        refine (e_alive w3 (HG.out.upd U3.out (by simp))).mono ?_; rintro e w9 ⟨rfl, u9⟩
        have U9 := Lib.hid (U3.out.trans u9)
        clear u9
        go_wp2_with fail
        go_ret
        exact ⟨rfl, U9.out⟩
      | true =>
        have HSP := Lib.hid (few_sizes HB.out)
        have HSQ := Lib.hid (few_sizes HB'.out)
        have HLP : Hid (p.length = xn) := Lib.hid (by cases HV.out with | mk _ _ _ _ _ _ h => exact h)
        have hxn : xn ≤ 250 := by rw [← HLP.out]; exact Nat.le_trans (list_le_sizes p) HSP.out
        have P3 := Lib.hid (HV.out.up0 U3.out)
        have Q3 := Lib.hid (HZ.out.up0 U3.out)
        obtain ⟨xs, sx, rx⟩ := stmsR_of P3.out (Nat.le_refl _)
        have SX := Lib.hid sx
        have RX := Lib.hid rx
        clear sx rx
        go_wp2_with fail
        refine (ran_law w.heap.size sb F s p _ w3 S3.out P3.out (by have := HSP.out; omega) (HG.out.upd U3.out (by simp))).mono ?_
        rintro e w4 ⟨p1, A1, n1, c1, u1, rfl, r1, hu4⟩
        have R1 := Lib.hid r1
        have U4 := Lib.hid hu4
        obtain ⟨e1, he1⟩ : ∃ x, endE s p = x := ⟨_, rfl⟩
        have HE1 := Lib.hid he1
        rw [he1]
        clear r1 hu4 he1
        go_wp2_with fail
        have B1 : Hid (Blk (w4.alloc (.cells #[.int .i64 e1, .slice A1 n1 c1] 32)) w4.heap.size 32 #[.int .i64 e1, .slice A1 n1 c1]) := Lib.hid (Blk.new _ _ _)
        have V5 : Hid (Upd [] w4 (w4.alloc (.cells #[.int .i64 e1, .slice A1 n1 c1] 32))) := Lib.hid ((Upd.refl [] w4).alloc _)
        obtain ⟨g1, hg1⟩ : ∃ g, w4.heap.size = g := ⟨_, rfl⟩
        rw [hg1] at B1 ⊢
        clear hg1
        generalize (w4.alloc (.cells #[.int .i64 e1, .slice A1 n1 c1] 32)) = w5 at B1 V5 ⊢
        have R15 := Lib.hid (R1.out.upd0 V5.out)
        have U5 := Lib.hid (U4.out.trans V5.out)
        clear R1 V5 U4
        refine (ran_law w.heap.size sb F s q _ w5 (S3.out.upd0 U5.out) (Q3.out.up0 U5.out) (by have := HSQ.out; omega) (HG.out.upd (U3.out.trans U5.out) (by simp))).mono ?_
        rintro e w6 ⟨p2, A2, n2, c2, u2, rfl, r2, hu6⟩
        have R2 := Lib.hid r2
        have R16 := Lib.hid (R15.out.upd0 hu6)
        have B16 := Lib.hid (B1.out.upd hu6 (by simp))
        have U6 := Lib.hid (U5.out.trans hu6)
        obtain ⟨e2, he2⟩ : ∃ x, endE s q = x := ⟨_, rfl⟩
        have HE2 := Lib.hid he2
        rw [he2]
        clear r2 hu6 he2 R15 B1 U5
        have hsz0 : w6.heap.size ≤ w6.heap.size + 1 := by omega
        go_wp2_with (at_builtin; refine stopped ?_)
        refine Lib.hid ?_
        have UA : Hid (Upd [] w6 ((w6.alloc (.cells #[.int .i64 e2, .slice A2 n2 c2] 32)).alloc (.cells #[] 40))) := Lib.hid (((Upd.refl [] w6).alloc _).alloc _)
        have BA : Hid (Blk ((w6.alloc (.cells #[.int .i64 e2, .slice A2 n2 c2] 32)).alloc (.cells #[] 40)) w6.heap.size 32 #[.int .i64 e2, .slice A2 n2 c2]) := Lib.hid ((Blk.new _ _ _).alloc _)
        refine wpList_app _ (by rfl) (.tmp 61) (.tmp 62) _ (by rfl) stm_elem _ (.slice X xn xc) (by rfl) (by rfl) (own_made (B := w6.heap.size + 1) 9 (Blk.newAt _ _ (by simp)) (Nat.le_refl _)) (SX.out.upd0 (U6.out.trans UA.out)) RX.out.one (by simp only [maxLen]; omega) (by omega) (by simp) ?_
        intro v7 w7 o7 u7 b7
        simp only [Nat.zero_add, List.nil_append] at o7
        obtain ⟨A7, c7, rfl, _, _⟩ := own_slice o7
        have U7 : Hid (Upd [] w6 w7) := Lib.hid (UA.out.trans' u7 (fun x hx => by simp [Value.ownBlock] at hx; subst hx; exact .inr (Nat.le_succ _)))
        have B7 : Hid (Blk w7 w6.heap.size 32 #[.int .i64 e2, .slice A2 n2 c2]) := Lib.hid (BA.out.upd u7 (by simp [Value.ownBlock]))
        have O7 := Lib.hid o7
        clear o7 u7 b7 UA BA
        go_wp2_with (at_builtin; refine stopped ?_)
        refine Lib.hid ?_
        have RT : Hid (Src (w7.alloc (.cells #[.int .i64 15, .int .i64 0, .int .i64 0, .int .i64 0, .int .i64 0, .int .i64 0, .int .i64 0, .slice none 0 0, .slice none 0 0] 40)) 9 (.slice (some ⟨w7.heap.size, 0, none⟩) 1 1) 1 [.int .i64 15, .int .i64 0, .int .i64 0, .int .i64 0, .int .i64 0, .int .i64 0, .int .i64 0, .slice none 0 0, .slice none 0 0]) := Lib.hid (.of_blk (Blk.new _ _ _) (m := 1) 1 rfl)
        have hsz7 : w6.heap.size + 1 ≤ w7.heap.size + 1 := by have := U7.out.size; omega
        refine wpList_app _ (by rfl) (.tmp 63) (.tmp 65) _ (by rfl) stm_elem (.slice A7 xn c7) _ (by rfl) (by rfl) (own_upd0 O7.out ((Upd.refl [] w7).alloc _)) RT.out (stmsR_retry w7 0).one (by simp only [maxLen]; omega) (by omega) (by simpa using hsz7) ?_
        intro v8 w8 o8 u8 b8
        obtain ⟨A8, c8, rfl, _, _⟩ := own_slice o8
        have U8 : Hid (Upd [] w6 w8) := Lib.hid ((U7.out.alloc _).trans' u8 (fun x hx => .inr (by have := (own_lt O7.out (b := x) (by simpa using hx)).1; omega)))
        have B8 : Hid (Blk w8 w6.heap.size 32 #[.int .i64 e2, .slice A2 n2 c2]) := Lib.hid ((B7.out.alloc _).upd u8 (fun hx => by have := (own_lt O7.out (b := w6.heap.size) (by simpa using hx)).1; omega))
        have R18 := Lib.hid (R16.out.upd0 U8.out)
        have R28 := Lib.hid (R2.out.upd0 U8.out)
        have B18 := Lib.hid (B16.out.upd U8.out (by simp))
        have UB8 : Hid (Upd [] w3 w8) := Lib.hid (U6.out.trans U8.out)
        have T8 : Hid (Stms w8 w8.heap.size (.slice A8 (xn + 1) c8) (rty p)) := Lib.hid (stms_of_own o8 ((RX.out.keep (UB8.out.below (Nat.le_refl _) (by simp)) (Nat.le_refl _)).append (stmsR_retry w8 _)) (by unfold rty; rw [List.length_append, HLP.out]; rfl) UB8.out.size (Nat.le_refl _))
        clear o8 u8 b8 O7 B7 RT U7 hsz7 R16 R2 B16 U6
        obtain ⟨g2, hg2⟩ : ∃ g, w6.heap.size = g := ⟨_, rfl⟩
        rw [hg2] at B8 ⊢
        clear hg2 U8 hsz0
        go_wp2_with fail
        have V9 : Hid (Upd [] w8 (w8.alloc (.cells #[.int .i64 14, .int .i64 0, .int .i64 0, .int .i64 0, .int .i64 0, .int .i64 0, .int .i64 0, .slice A8 (xn + 1) c8, .slice Z zn zc] 40))) := Lib.hid ((Upd.refl [] w8).alloc _)
        have T9 : Hid (Stms (w8.alloc (.cells #[.int .i64 14, .int .i64 0, .int .i64 0, .int .i64 0, .int .i64 0, .int .i64 0, .int .i64 0, .slice A8 (xn + 1) c8, .slice Z zn zc] 40)) (w8.alloc (.cells #[.int .i64 14, .int .i64 0, .int .i64 0, .int .i64 0, .int .i64 0, .int .i64 0, .int .i64 0, .slice A8 (xn + 1) c8, .slice Z zn zc] 40)).heap.size (.slice (some ⟨w8.heap.size, 0, none⟩) 1 1) (ors (rty p) q)) := Lib.hid (stms_one (Blk.new w8 _ _) _ (by simp) 1 (by omega) (by omega) (T8.out.up0 V9.out) (Q3.out.up0 (UB8.out.trans V9.out)))
        generalize (w8.alloc (.cells #[.int .i64 14, .int .i64 0, .int .i64 0, .int .i64 0, .int .i64 0, .int .i64 0, .int .i64 0, .slice A8 (xn + 1) c8, .slice Z zn zc] 40)) = w9 at V9 T9 ⊢
        refine (ran_law w.heap.size sb F s (ors (rty p) q) _ w9 (S3.out.upd0 (UB8.out.trans V9.out)) T9.out (by have := HSQ.out; have := HSP.out; rw [size_ors, size_rty]; omega) (HG.out.upd (U3.out.trans (UB8.out.trans V9.out)) (by simp))).mono ?_
        rintro e w10 ⟨p3, A3, n3, c3, u3, rfl, r3, hu10⟩
        have W810 := V9.out.trans hu10
        have R3 := Lib.hid r3
        have R1a := Lib.hid (R18.out.upd0 W810)
        have R2a := Lib.hid (R28.out.upd0 W810)
        have B1a := Lib.hid (B18.out.upd W810 (by simp))
        have B2a := Lib.hid (B8.out.upd W810 (by simp))
        have U10 := Lib.hid (UB8.out.trans W810)
        obtain ⟨e3, he3⟩ : ∃ x, endE s (ors (rty p) q) = x := ⟨_, rfl⟩
        have HE3 := Lib.hid he3
        rw [he3]
        clear r3 hu10 he3 W810 R18 R28 B18 B8 UB8 V9 T9 T8
        go_wp2_with fail
        have V11 : Hid (Upd [] w10 ((w10.alloc (.cells #[.int .i64 e3, .slice A3 n3 c3] 32)).alloc (.cells #[.int .i64 14, .int .i64 0, .int .i64 0, .int .i64 0, .int .i64 0, .int .i64 0, .int .i64 0, .slice X xn xc, .slice Z zn zc] 40))) := Lib.hid (((Upd.refl [] w10).alloc _).alloc _)
        have T11 : Hid (Stms ((w10.alloc (.cells #[.int .i64 e3, .slice A3 n3 c3] 32)).alloc (.cells #[.int .i64 14, .int .i64 0, .int .i64 0, .int .i64 0, .int .i64 0, .int .i64 0, .int .i64 0, .slice X xn xc, .slice Z zn zc] 40)) ((w10.alloc (.cells #[.int .i64 e3, .slice A3 n3 c3] 32)).alloc (.cells #[.int .i64 14, .int .i64 0, .int .i64 0, .int .i64 0, .int .i64 0, .int .i64 0, .int .i64 0, .slice X xn xc, .slice Z zn zc] 40)).heap.size (.slice (some ⟨w10.heap.size + 1, 0, none⟩) 1 1) (ors p q)) := Lib.hid (stms_one (Blk.newAt _ _ (by simp)) _ (by simp) 1 (by omega) (by omega) (P3.out.up0 (U10.out.trans V11.out)) (Q3.out.up0 (U10.out.trans V11.out)))
        have B3 : Hid (Blk ((w10.alloc (.cells #[.int .i64 e3, .slice A3 n3 c3] 32)).alloc (.cells #[.int .i64 14, .int .i64 0, .int .i64 0, .int .i64 0, .int .i64 0, .int .i64 0, .int .i64 0, .slice X xn xc, .slice Z zn zc] 40)) w10.heap.size 32 #[.int .i64 e3, .slice A3 n3 c3]) := Lib.hid ((Blk.new _ _ _).alloc _)
        generalize ((w10.alloc (.cells #[.int .i64 e3, .slice A3 n3 c3] 32)).alloc (.cells #[.int .i64 14, .int .i64 0, .int .i64 0, .int .i64 0, .int .i64 0, .int .i64 0, .int .i64 0, .slice X xn xc, .slice Z zn zc] 40)) = w11 at V11 T11 B3 ⊢
        refine (ran_law w.heap.size sb F s (ors p q) _ w11 (S3.out.upd0 (U10.out.trans V11.out)) T11.out (by have := HSQ.out; have := HSP.out; rw [size_ors]; omega) (HG.out.upd (U3.out.trans (U10.out.trans V11.out)) (by simp))).mono ?_
        rintro e w12 ⟨p4, A4, n4, c4, u4, rfl, r4, hu12⟩
        have W1012 := V11.out.trans hu12
        have R4 := Lib.hid r4
        have R3b := Lib.hid (R3.out.upd0 W1012)
        have R1b := Lib.hid (R1a.out.upd0 W1012)
        have R2b := Lib.hid (R2a.out.upd0 W1012)
        have B1b := Lib.hid (B1a.out.upd W1012 (by simp))
        have B2b := Lib.hid (B2a.out.upd W1012 (by simp))
        have B3b := Lib.hid (B3.out.upd hu12 (by simp))
        obtain ⟨g3, hg3⟩ : ∃ g, w10.heap.size = g := ⟨_, rfl⟩
        rw [hg3] at B3b ⊢
        have U12 := Lib.hid (U3.out.trans (U10.out.trans W1012))
        obtain ⟨e4, he4⟩ : ∃ x, endE s (ors p q) = x := ⟨_, rfl⟩
        have HE4 := Lib.hid he4
        rw [he4]
        clear r4 hu12 he4 W1012 R3 R1a R2a B1a B2a B3 U10 V11 T11 hg3 S3 P3 Q3 SX RX HSP HSQ HLP hxn
        go_wp2_with fail
        have V13 : Hid (Upd [] w12 (w12.alloc (.cells #[.int .i64 e4, .slice A4 n4 c4] 32))) := Lib.hid ((Upd.refl [] w12).alloc _)
        have D4 : Hid (Blk (w12.alloc (.cells #[.int .i64 e4, .slice A4 n4 c4] 32)) w12.heap.size 32 #[.int .i64 e4, .slice A4 n4 c4]) := Lib.hid (Blk.new _ _ _)
        obtain ⟨g4, hg4⟩ : ∃ g, w12.heap.size = g := ⟨_, rfl⟩
        rw [hg4] at D4 ⊢
        clear hg4
        generalize (w12.alloc (.cells #[.int .i64 e4, .slice A4 n4 c4] 32)) = w13 at V13 D4 ⊢
        have Q1 := Lib.hid (R1b.out.upd0 V13.out)
        have Q2 := Lib.hid (R2b.out.upd0 V13.out)
        have Q3 := Lib.hid (R3b.out.upd0 V13.out)
        have Q4 := Lib.hid (R4.out.upd0 V13.out)
        have D1 := Lib.hid (B1b.out.upd V13.out (by simp))
        have D2 := Lib.hid (B2b.out.upd V13.out (by simp))
        have D3 := Lib.hid (B3b.out.upd V13.out (by simp))
        have U13 := Lib.hid (U12.out.trans V13.out)
        clear R1b R2b R3b R4 B1b B2b B3b V13 U12
        have r1 := err_rng Q1.out
        obtain ⟨x1, hx1⟩ : ∃ x, errE s p = x := ⟨_, rfl⟩
        have HX1 := Lib.hid hx1
        rw [hx1] at r1
        obtain ⟨ra1, rb1⟩ := r1
        clear hx1
        have r2 := err_rng Q2.out
        obtain ⟨x2, hx2⟩ : ∃ x, errE s q = x := ⟨_, rfl⟩
        have HX2 := Lib.hid hx2
        rw [hx2] at r2
        obtain ⟨ra2, rb2⟩ := r2
        clear hx2
        have r3 := err_rng Q3.out
        obtain ⟨x3, hx3⟩ : ∃ x, errE s (ors (rty p) q) = x := ⟨_, rfl⟩
        have HX3 := Lib.hid hx3
        rw [hx3] at r3
        obtain ⟨ra3, rb3⟩ := r3
        clear hx3
        have r4 := err_rng Q4.out
        obtain ⟨x4, hx4⟩ : ∃ x, errE s (ors p q) = x := ⟨_, rfl⟩
        have HX4 := Lib.hid hx4
        rw [hx4] at r4
        obtain ⟨ra4, rb4⟩ := r4
        clear hx4
        have d10 : w13.cell? ⟨g1, 0, none⟩ = some (.int .i64 e1) := D1.out.cell 0
        have d11 : w13.cell? ⟨g1, 1, none⟩ = some (.slice A1 n1 c1) := D1.out.cell 1
        have d20 : w13.cell? ⟨g2, 0, none⟩ = some (.int .i64 e2) := D2.out.cell 0
        have d21 : w13.cell? ⟨g2, 1, none⟩ = some (.slice A2 n2 c2) := D2.out.cell 1
        have d30 : w13.cell? ⟨g3, 0, none⟩ = some (.int .i64 e3) := D3.out.cell 0
        have d31 : w13.cell? ⟨g3, 1, none⟩ = some (.slice A3 n3 c3) := D3.out.cell 1
        have d40 : w13.cell? ⟨g4, 0, none⟩ = some (.int .i64 e4) := D4.out.cell 0
        have d41 : w13.cell? ⟨g4, 1, none⟩ = some (.slice A4 n4 c4) := D4.out.cell 1
        by_cases hz : x1 = 0 ∧ x2 = 0 ∧ x3 = 0 ∧ x4 = 0
        · obtain ⟨rfl, rfl, rfl, rfl⟩ := hz
          clear ra1 ra2 ra3 ra4 rb1 rb2 rb3 rb4
          by_cases h1 : e1 = 4
          · have d14 : (e1 == (4 : Int)) = true := by simpa using h1
            clear h1
            refine (ran_no Q1.out).mono ?_; rintro e w' ⟨rfl, rfl⟩
            rw [HX1.out]
            go_wp2_with fail
            refine (ran_no Q2.out).mono ?_; rintro e w' ⟨rfl, rfl⟩
            rw [HX2.out]
            go_wp2_with fail
            refine (ran_no Q3.out).mono ?_; rintro e w' ⟨rfl, rfl⟩
            rw [HX3.out]
            go_wp2_with fail
            refine (ran_no Q4.out).mono ?_; rintro e w' ⟨rfl, rfl⟩
            rw [HX4.out]
            go_wp2_with fail
            refine (e_alive w13 (HG.out.upd U13.out (by simp))).mono ?_; rintro e w99 ⟨rfl, u99⟩
            have U99 := Lib.hid (U13.out.trans u99)
            clear u99
            go_wp2_with fail
            go_ret
            exact ⟨rfl, U99.out⟩
          · have d14 : (e1 == (4 : Int)) = false := by simpa using h1
            by_cases h2 : e2 = 4
            · have d24 : (e2 == (4 : Int)) = true := by simpa using h2
              clear h1 h2
              refine (ran_no Q1.out).mono ?_; rintro e w' ⟨rfl, rfl⟩
              rw [HX1.out]
              go_wp2_with fail
              refine (ran_no Q2.out).mono ?_; rintro e w' ⟨rfl, rfl⟩
              rw [HX2.out]
              go_wp2_with fail
              refine (ran_no Q3.out).mono ?_; rintro e w' ⟨rfl, rfl⟩
              rw [HX3.out]
              go_wp2_with fail
              refine (ran_no Q4.out).mono ?_; rintro e w' ⟨rfl, rfl⟩
              rw [HX4.out]
              go_wp2_with fail
              refine (e_alive w13 (HG.out.upd U13.out (by simp))).mono ?_; rintro e w99 ⟨rfl, u99⟩
              have U99 := Lib.hid (U13.out.trans u99)
              clear u99
              go_wp2_with fail
              go_ret
              exact ⟨rfl, U99.out⟩
            · have d24 : (e2 == (4 : Int)) = false := by simpa using h2
              by_cases h3 : e3 = 4
              · have d34 : (e3 == (4 : Int)) = true := by simpa using h3
                clear h1 h2 h3
                refine (ran_no Q1.out).mono ?_; rintro e w' ⟨rfl, rfl⟩
                rw [HX1.out]
                go_wp2_with fail
                refine (ran_no Q2.out).mono ?_; rintro e w' ⟨rfl, rfl⟩
                rw [HX2.out]
                go_wp2_with fail
                refine (ran_no Q3.out).mono ?_; rintro e w' ⟨rfl, rfl⟩
                rw [HX3.out]
                go_wp2_with fail
                refine (ran_no Q4.out).mono ?_; rintro e w' ⟨rfl, rfl⟩
                rw [HX4.out]
                go_wp2_with fail
                refine (e_alive w13 (HG.out.upd U13.out (by simp))).mono ?_; rintro e w99 ⟨rfl, u99⟩
                have U99 := Lib.hid (U13.out.trans u99)
                clear u99
                go_wp2_with fail
                go_ret
                exact ⟨rfl, U99.out⟩
              · have d34 : (e3 == (4 : Int)) = false := by simpa using h3
                by_cases h4 : e4 = 4
                · have d44 : (e4 == (4 : Int)) = true := by simpa using h4
                  clear h1 h2 h3 h4
                  refine (ran_no Q1.out).mono ?_; rintro e w' ⟨rfl, rfl⟩
                  rw [HX1.out]
                  go_wp2_with fail
                  refine (ran_no Q2.out).mono ?_; rintro e w' ⟨rfl, rfl⟩
                  rw [HX2.out]
                  go_wp2_with fail
                  refine (ran_no Q3.out).mono ?_; rintro e w' ⟨rfl, rfl⟩
                  rw [HX3.out]
                  go_wp2_with fail
                  refine (ran_no Q4.out).mono ?_; rintro e w' ⟨rfl, rfl⟩
                  rw [HX4.out]
                  go_wp2_with fail
                  refine (e_alive w13 (HG.out.upd U13.out (by simp))).mono ?_; rintro e w99 ⟨rfl, u99⟩
                  have U99 := Lib.hid (U13.out.trans u99)
                  clear u99
                  go_wp2_with fail
                  go_ret
                  exact ⟨rfl, U99.out⟩
                · have d44 : (e4 == (4 : Int)) = false := by simpa using h4
                  have LAW := Lib.hid (or_law (s := s) (p := p) (q := q) HX1.out HX2.out HX3.out HX4.out (by rw [HE1.out]; exact h1) (fun h => h3 (HE3.out.symm.trans h)) (fun h => h4 (HE4.out.symm.trans h)))
                  clear h1 h2 h3 h4
                  by_cases h12 : e1 = 2
                  · have d12 : (e1 == (2 : Int)) = true := by simpa using h12
                    have L1 := LAW.out.1 (by rw [HE1.out]; exact h12)
                    have d32 : (e3 == (2 : Int)) = true := by simpa using HE3.out.symm.trans L1.1
                    have d42 : (e4 == (2 : Int)) = true := by simpa using HE4.out.symm.trans L1.2
                    clear h12 L1
                    refine (ran_no Q1.out).mono ?_; rintro e w' ⟨rfl, rfl⟩
                    rw [HX1.out]
                    go_wp2_with fail
                    refine (ran_no Q2.out).mono ?_; rintro e w' ⟨rfl, rfl⟩
                    rw [HX2.out]
                    go_wp2_with fail
                    refine (ran_no Q3.out).mono ?_; rintro e w' ⟨rfl, rfl⟩
                    rw [HX3.out]
                    go_wp2_with fail
                    refine (ran_no Q4.out).mono ?_; rintro e w' ⟨rfl, rfl⟩
                    rw [HX4.out]
                    go_wp2_with fail
                    refine (e_alive w13 (HG.out.upd U13.out (by simp))).mono ?_; rintro e w99 ⟨rfl, u99⟩
                    have U99 := Lib.hid (U13.out.trans u99)
                    clear u99
                    go_wp2_with fail
                    go_ret
                    exact ⟨rfl, U99.out⟩
                  · have d12 : (e1 == (2 : Int)) = false := by simpa using h12
                    have L2 := Lib.hid (LAW.out.2.1 (by rw [HE1.out]; exact h12))
                    have H12 := Lib.hid h12
                    clear h12
                    by_cases h13 : e1 = 3
                    · have d13 : (e1 == (3 : Int)) = true := by simpa using h13
                      have L3 := Lib.hid (LAW.out.2.2.1 (by rw [HE1.out]; exact h13))
                      clear h13
                      refine (ran_no Q1.out).mono ?_; rintro e w' ⟨rfl, rfl⟩
                      rw [HX1.out]
                      go_wp2_with fail
                      refine (ran_no Q2.out).mono ?_; rintro e w' ⟨rfl, rfl⟩
                      rw [HX2.out]
                      go_wp2_with fail
                      refine (ran_no Q3.out).mono ?_; rintro e w' ⟨rfl, rfl⟩
                      rw [HX3.out]
                      go_wp2_with fail
                      refine (ran_no Q4.out).mono ?_; rintro e w' ⟨rfl, rfl⟩
                      rw [HX4.out]
                      go_wp2_with fail
                      refine (ran_same e3 e2 Q3.out Q2.out).mono ?_; rintro e w14 ⟨rfl, u14⟩
                      rw [decide_eq_true ⟨HE3.out.symm.trans (L2.out.1.trans HE2.out), L2.out.2.1⟩]
                      have U14 := Lib.hid u14
                      clear u14
                      go_wp2_with fail
                      refine (ran_msame (Q3.out.upd0 U14.out) (Q2.out.upd0 U14.out) HX3.out HX2.out).mono ?_; rintro e w15 ⟨b, rfl, hb, u15⟩
                      obtain rfl : b = true := hb.2 L2.out.2.2
                      have U15 := Lib.hid (U14.out.trans u15)
                      clear u15 hb U14
                      clear d10 d11
                      have d10 : w15.cell? ⟨g1, 0, none⟩ = some (.int .i64 e1) := (D1.out.upd U15.out (by simp)).cell 0
                      have d11 : w15.cell? ⟨g1, 1, none⟩ = some (.slice A1 n1 c1) := (D1.out.upd U15.out (by simp)).cell 1
                      clear d20 d21
                      have d20 : w15.cell? ⟨g2, 0, none⟩ = some (.int .i64 e2) := (D2.out.upd U15.out (by simp)).cell 0
                      have d21 : w15.cell? ⟨g2, 1, none⟩ = some (.slice A2 n2 c2) := (D2.out.upd U15.out (by simp)).cell 1
                      clear d30 d31
                      have d30 : w15.cell? ⟨g3, 0, none⟩ = some (.int .i64 e3) := (D3.out.upd U15.out (by simp)).cell 0
                      have d31 : w15.cell? ⟨g3, 1, none⟩ = some (.slice A3 n3 c3) := (D3.out.upd U15.out (by simp)).cell 1
                      clear d40 d41
                      have d40 : w15.cell? ⟨g4, 0, none⟩ = some (.int .i64 e4) := (D4.out.upd U15.out (by simp)).cell 0
                      have d41 : w15.cell? ⟨g4, 1, none⟩ = some (.slice A4 n4 c4) := (D4.out.upd U15.out (by simp)).cell 1
                      go_wp2_with fail
                      refine (ran_same e4 e2 (Q4.out.upd0 U15.out) (Q2.out.upd0 U15.out)).mono ?_; rintro e w16 ⟨rfl, u16⟩
                      rw [decide_eq_true ⟨HE4.out.symm.trans (L3.out.1.trans HE2.out), L3.out.2.1⟩]
                      have U16 := Lib.hid (U15.out.trans u16)
                      clear u16
                      go_wp2_with fail
                      refine (ran_msame (Q4.out.upd0 U16.out) (Q2.out.upd0 U16.out) HX4.out HX2.out).mono ?_; rintro e w17 ⟨b, rfl, hb, u17⟩
                      obtain rfl : b = true := hb.2 L3.out.2.2
                      have U17 := Lib.hid (U13.out.trans (U16.out.trans u17))
                      clear u17 hb
                      go_wp2_with fail
                      refine (e_alive w17 (HG.out.upd U17.out (by simp))).mono ?_; rintro e w99 ⟨rfl, u99⟩
                      have U99 := Lib.hid (U17.out.trans u99)
                      clear u99
                      go_wp2_with fail
                      go_ret
                      exact ⟨rfl, U99.out⟩
                    · have d13 : (e1 == (3 : Int)) = false := by simpa using h13
                      have L4 := Lib.hid (LAW.out.2.2.2 (by rw [HE1.out]; exact H12.out) (by rw [HE1.out]; exact h13))
                      clear h13
                      refine (ran_no Q1.out).mono ?_; rintro e w' ⟨rfl, rfl⟩
                      rw [HX1.out]
                      go_wp2_with fail
                      refine (ran_no Q2.out).mono ?_; rintro e w' ⟨rfl, rfl⟩
                      rw [HX2.out]
                      go_wp2_with fail
                      refine (ran_no Q3.out).mono ?_; rintro e w' ⟨rfl, rfl⟩
                      rw [HX3.out]
                      go_wp2_with fail
                      refine (ran_no Q4.out).mono ?_; rintro e w' ⟨rfl, rfl⟩
                      rw [HX4.out]
                      go_wp2_with fail
                      refine (ran_same e3 e2 Q3.out Q2.out).mono ?_; rintro e w14 ⟨rfl, u14⟩
                      rw [decide_eq_true ⟨HE3.out.symm.trans (L2.out.1.trans HE2.out), L2.out.2.1⟩]
                      have U14 := Lib.hid u14
                      clear u14
                      go_wp2_with fail
                      refine (ran_msame (Q3.out.upd0 U14.out) (Q2.out.upd0 U14.out) HX3.out HX2.out).mono ?_; rintro e w15 ⟨b, rfl, hb, u15⟩
                      obtain rfl : b = true := hb.2 L2.out.2.2
                      have U15 := Lib.hid (U14.out.trans u15)
                      clear u15 hb U14
                      clear d10 d11
                      have d10 : w15.cell? ⟨g1, 0, none⟩ = some (.int .i64 e1) := (D1.out.upd U15.out (by simp)).cell 0
                      have d11 : w15.cell? ⟨g1, 1, none⟩ = some (.slice A1 n1 c1) := (D1.out.upd U15.out (by simp)).cell 1
                      clear d20 d21
                      have d20 : w15.cell? ⟨g2, 0, none⟩ = some (.int .i64 e2) := (D2.out.upd U15.out (by simp)).cell 0
                      have d21 : w15.cell? ⟨g2, 1, none⟩ = some (.slice A2 n2 c2) := (D2.out.upd U15.out (by simp)).cell 1
                      clear d30 d31
                      have d30 : w15.cell? ⟨g3, 0, none⟩ = some (.int .i64 e3) := (D3.out.upd U15.out (by simp)).cell 0
                      have d31 : w15.cell? ⟨g3, 1, none⟩ = some (.slice A3 n3 c3) := (D3.out.upd U15.out (by simp)).cell 1
                      clear d40 d41
                      have d40 : w15.cell? ⟨g4, 0, none⟩ = some (.int .i64 e4) := (D4.out.upd U15.out (by simp)).cell 0
                      have d41 : w15.cell? ⟨g4, 1, none⟩ = some (.slice A4 n4 c4) := (D4.out.upd U15.out (by simp)).cell 1
                      go_wp2_with fail
                      refine (ran_same e4 e1 (Q4.out.upd0 U15.out) (Q1.out.upd0 U15.out)).mono ?_; rintro e w16 ⟨rfl, u16⟩
                      rw [decide_eq_true ⟨HE4.out.symm.trans (L4.out.1.trans HE1.out), L4.out.2.1⟩]
                      have U16 := Lib.hid (U15.out.trans u16)
                      clear u16
                      go_wp2_with fail
                      refine (ran_msame (Q4.out.upd0 U16.out) (Q1.out.upd0 U16.out) HX4.out HX1.out).mono ?_; rintro e w17 ⟨b, rfl, hb, u17⟩
                      obtain rfl : b = true := hb.2 L4.out.2.2
                      have U17 := Lib.hid (U13.out.trans (U16.out.trans u17))
                      clear u17 hb
                      go_wp2_with fail
                      refine (e_alive w17 (HG.out.upd U17.out (by simp))).mono ?_; rintro e w99 ⟨rfl, u99⟩
                      have U99 := Lib.hid (U17.out.trans u99)
                      clear u99
                      go_wp2_with fail
                      go_ret
                      exact ⟨rfl, U99.out⟩
        · have dz : (x1 + x2 + x3 + x4 != (0 : Int)) = true := by
            rw [bne_iff_ne]
            omega
          clear hz
          refine (ran_no Q1.out).mono ?_; rintro e w' ⟨rfl, rfl⟩
          rw [HX1.out]
          go_wp2_with fail
          refine (ran_no Q2.out).mono ?_; rintro e w' ⟨rfl, rfl⟩
          rw [HX2.out]
          go_wp2_with fail
          refine (ran_no Q3.out).mono ?_; rintro e w' ⟨rfl, rfl⟩
          rw [HX3.out]
          go_wp2_with fail
          refine (ran_no Q4.out).mono ?_; rintro e w' ⟨rfl, rfl⟩
          rw [HX4.out]
          go_wp2_with fail
          refine (e_alive w13 (HG.out.upd U13.out (by simp))).mono ?_; rintro e w99 ⟨rfl, u99⟩
          have U99 := Lib.hid (U13.out.trans u99)
          clear u99
          go_wp2_with fail
          go_ret
          exact ⟨rfl, U99.out⟩
end Go.Proofs.YtfbeaklplefojaaGreatDoor.Ev

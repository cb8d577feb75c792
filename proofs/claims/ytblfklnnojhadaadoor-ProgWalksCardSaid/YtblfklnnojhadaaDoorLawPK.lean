/-
  ProgWalks, the walk.
-/
import Derived.Test.YtblfklnnojhadaaDoorWalksV
import Derived.Test.YtblfklnnojhadaaDoorPAlive
set_option linter.unusedVariables false
namespace Go.Proofs.YtblfklnnojhadaaDoor.Drw
open Go.RowKit
attribute [local go_sem] litStep_value

theorem stepW_next (en : Int) (L pre suf : List (Stm × Nat)) (x : Stm) (d : Nat) (hL : L = pre ++ (x, d) :: suf) (hb : L.length ≤ 1000000) :
    stepW en L ((pre.length : Int), true) (pre.length + 1) x = (decide (¬ ((pre.length + 1 : Nat) : Int) = en), (((pre.length + 1 : Nat) : Int), true)) := by
  have h1 : L.length = pre.length + (suf.length + 1) := by rw [hL]; simp
  have h2 : wrap64 ((pre.length : Int) + 1) = ((pre.length + 1 : Nat) : Int) := by unfold wrap64; omega
  have h3 : L[pre.length]? = some (x, d) := by rw [hL]; simp
  have h4 : ((pre.length + 1 : Nat) : Int) ≤ (L.length : Int) := by omega
  unfold stepW
  simp only [h2, h4, decide_true, Nat.add_sub_cancel, h3, Option.map_some, Bool.true_and, Bool.and_true]
/-- How many lines are told. -/
def toldW (en : Int) (p n : Nat) : Int := if (p : Int) < en ∧ en ≤ n then en else n
theorem walkF_t {σ : Type} {step : σ → Nat → Nat → Stm → Bool × σ} {x : Stm} {d n : Nat} {s s' : σ} {l : List (Stm × Nat)} (h : step s (n + 1) d x = (true, s')) : walkF step ((x, d) :: l) s n = walkF step l s' (n + 1) := by
  rw [walkF, h]
theorem walkF_f {σ : Type} {step : σ → Nat → Nat → Stm → Bool × σ} {x : Stm} {d n : Nat} {s s' : σ} {l : List (Stm × Nat)} (h : step s (n + 1) d x = (false, s')) : walkF step ((x, d) :: l) s n = (false, s', n + 1) := by
  rw [walkF, h]
theorem told_stop {en : Int} {p n : Nat} (h : ((p + 1 : Nat) : Int) = en) (hn : p + 1 ≤ n) : toldW en p n = ((p + 1 : Nat) : Int) := by
  unfold toldW
  rw [if_pos ⟨by omega, by omega⟩, h]
theorem told_next {en : Int} {p n : Nat} (h : ¬ ((p + 1 : Nat) : Int) = en) : toldW en (p + 1) n = toldW en p n := by
  unfold toldW
  by_cases hc : (p : Int) < en ∧ en ≤ n
  · rw [if_pos hc, if_pos ⟨by omega, hc.2⟩]
  · rw [if_neg hc, if_neg (fun c => hc ⟨by omega, c.2⟩)]
theorem told_end {en : Int} {n : Nat} : toldW en n n = n := by
  unfold toldW
  rw [if_neg (fun c => by omega)]
theorem walk_told (en : Int) (L : List (Stm × Nat)) (hb : L.length ≤ 1000000) : ∀ (suf pre : List (Stm × Nat)), L = pre ++ suf → ∀ p, pre.length = p →
    (walkF (fun s n _ x => stepW en L s n x) suf ((p : Int), true) p).2.1 = (toldW en p L.length, true)
  | [], pre, h, p, hp => by
    have : L.length = p := by rw [h]; simpa using hp
    rw [walkF, this, told_end]
  | (x, d) :: suf, pre, h, p, hp => by
    have h1 : L.length = p + (suf.length + 1) := by rw [h, ← hp]; simp
    have hst := stepW_next en L pre suf x d h hb
    rw [hp] at hst
    by_cases hk : ((p + 1 : Nat) : Int) = en
    · have e : stepW en L ((p : Int), true) (p + 1) x = (false, (((p + 1 : Nat) : Int), true)) := hst.trans (by rw [show decide (¬ ((p + 1 : Nat) : Int) = en) = false by simpa using hk])
      rw [walkF_f (step := fun s n _ x => stepW en L s n x) e, told_stop hk (by omega)]
    · have e : stepW en L ((p : Int), true) (p + 1) x = (true, (((p + 1 : Nat) : Int), true)) := hst.trans (by rw [show decide (¬ ((p + 1 : Nat) : Int) = en) = true by simpa using hk])
      rw [walkF_t (step := fun s n _ x => stepW en L s n x) e, ← told_next hk]
      exact walk_told en L hb suf (pre ++ [(x, d)]) (by rw [h]; simp) (p + 1) (by rw [← hp]; simp)
set_option maxRecDepth 100000 in
set_option maxHeartbeats 4000000 in
theorem law_pwalks (v : Value) (l : List Stm) (en : Int) (w : World) (hv : Stms w w.heap.size v l) (hg : Typed w) :
    Calls Tryd.prog 4 #[v, .int .i64 en] w fun e w' => e = .returned (.bool true) ∧ Upd [] w w' := by
  have HV := Lib.hid hv
  have HG := Lib.hid hg
  obtain ⟨Av, nv, cv, rfl⟩ := hv.slice
  obtain ⟨b, hb⟩ : ∃ b, fewB l = b := ⟨_, rfl⟩
  have HB := Lib.hid hb
  clear hv hg hb
  have fin : Hid (∀ W, Upd [] w W → Calls Tryd.prog 9 #[] W fun e w' => e = .returned (.bool true) ∧ Upd [] w w') := Lib.hid (fun W hu => (palive_ok W (HG.out.upd hu (by simp))).mono fun e w' ⟨h1, h2⟩ => ⟨h1, hu.trans h2⟩)
  go_enter Tryd.func4, Tryd.ntmps4
  go_wp2_with fail
  have U0 : Hid (Upd [] w (w.alloc (.cells #[.int .i64 en] 3))) := Lib.hid ((Upd.refl [] w).alloc _)
  have BE : Hid (Blk (w.alloc (.cells #[.int .i64 en] 3)) w.heap.size 3 #[.int .i64 en]) := Lib.hid (Blk.new w _ _)
  generalize (w.alloc (.cells #[.int .i64 en] 3)) = w0 at *
  have keep : Hid (∀ W, Upd [] w W → Stms W w.heap.size (.slice Av nv cv) l) := Lib.hid (fun W hu => HV.out.belowW (hu.below (Nat.le_refl _) (by simp)))
  refine (few_ok l (.slice Av nv cv) _ ((keep.out _ U0.out).more U0.out.size)).mono ?_; rintro e w1 ⟨rfl, u1⟩
  rw [HB.out]
  have U1 := Lib.hid (U0.out.trans u1)
  have BE1 := Lib.hid (BE.out.upd u1 (by simp))
  clear u1 BE
  cases b with
  | false =>
    go_wp2_with fail
    refine (fin.out _ U1.out).mono ?_; rintro e w2 ⟨rfl, u2⟩
    have U2 := Lib.hid u2
    clear u2
    go_wp2_with fail
    go_ret
    exact ⟨rfl, U2.out⟩
  | true =>
    have hs := few_sizes HB.out
    go_wp2_with fail
    refine (lines_ok (Nat.le_refl w.heap.size) (sizes l + 1) l (.slice Av nv cv) (.slice none 0 0) w1 1 0 [] (by omega) (keep.out _ U1.out) (own_nil _ _ _ _) U1.out.size (by omega) (by omega)).mono ?_
    rintro e w2 ⟨vL, xs, rfl, oL, rL, u2, -⟩
    rw [Nat.zero_add, List.nil_append] at oL
    obtain ⟨L, hL⟩ : ∃ L, linesOf 1 l = L := ⟨_, rfl⟩
    rw [hL] at oL rL
    have HLN : Hid (L.length ≤ 900000) := Lib.hid (by rw [← hL, lines_sizes _ l 1 (Nat.le_refl _)]; omega)
    have HL := Lib.hid hL
    obtain ⟨A, cc, rfl, -, -⟩ := own_slice oL
    obtain ⟨m, hm⟩ : ∃ m, L.length = m := ⟨_, rfl⟩
    have HM := Lib.hid hm
    have U2 : Hid (Upd [] w w2) := Lib.hid (U1.out.trans (by simpa [Value.ownBlock] using u2))
    have BE2 : Hid (Blk w2 w.heap.size 3 #[.int .i64 en]) := Lib.hid (BE1.out.upd u2 (by simp [Value.ownBlock]))
    have OL := Lib.hid oL
    have RL := Lib.hid rL
    simp only [hm]
    clear oL rL u2 hL hm U1 BE1
    have U3 : Hid (Upd [] w2 (((w2.alloc (.cells #[.slice A m cc] 33)).alloc (.cells #[.int .i64 0] 3)).alloc (.cells #[.bool true] 4))) := Lib.hid ((((Upd.refl [] w2).alloc _).alloc _).alloc _)
    have B1 : Hid (Blk (((w2.alloc (.cells #[.slice A m cc] 33)).alloc (.cells #[.int .i64 0] 3)).alloc (.cells #[.bool true] 4)) w2.heap.size 33 #[.slice A m cc]) := Lib.hid (((Blk.new w2 _ _).alloc _).alloc _)
    have B2 : Hid (Blk (((w2.alloc (.cells #[.slice A m cc] 33)).alloc (.cells #[.int .i64 0] 3)).alloc (.cells #[.bool true] 4)) (w2.heap.size + 1) 3 #[.int .i64 0]) := Lib.hid ((Blk.newAt _ _ (by simp)).alloc _)
    have B3 : Hid (Blk (((w2.alloc (.cells #[.slice A m cc] 33)).alloc (.cells #[.int .i64 0] 3)).alloc (.cells #[.bool true] 4)) (w2.heap.size + 2) 4 #[.bool true]) := Lib.hid (Blk.newAt _ _ (by simp))
    have ent : ∀ args w, (callFunc 15 args).run Tryd.prog w = .ok (.enter 15 args) w := fun args w => rfl
    go_wp2_with fail
    generalize (((w2.alloc (.cells #[.slice A m cc] 33)).alloc (.cells #[.int .i64 0] 3)).alloc (.cells #[.bool true] 4)) = w3 at *
    have U4 := Lib.hid (U2.out.trans U3.out)
    have hz2 := U2.out.size
    have ST : Hid (WkSt w.heap.size (w2.heap.size + 1) (w2.heap.size + 2) w2.heap.size w.heap.size en A cc L xs w3 (((0 : Nat) : Int), true)) := Lib.hid ⟨⟨B2.out, B3.out, by rw [HM.out]; exact B1.out, BE2.out.upd U3.out (by simp), own_upd0 OL.out U3.out, RL.out.keep (U3.out.below hz2 (by simp)), by have := BE2.out.lt; omega, by omega, by omega, by omega, Nat.le_refl _⟩, .inl ⟨by simp, by simp⟩⟩
    refine (walkQ_ok (walks_visitor w.heap.size (w2.heap.size + 1) (w2.heap.size + 2) w2.heap.size w.heap.size en A cc L xs (by have := HLN.out; omega)) l (.slice Av nv cv) w3 (((0 : Nat) : Int), true) (keep.out _ U4.out) ST.out U4.out.size (by omega)).mono ?_
    rintro e w4 ⟨rfl, st4, up4, -⟩
    rw [HL.out, walk_told en L (by have := HLN.out; omega) L [] rfl 0 rfl, HM.out] at st4
    have S4 := Lib.hid st4
    have U5 : Hid (Upd [] w w4) := Lib.hid (up4.to_upd' U4.out (fun x hx => by
      rcases hx with rfl | rfl | rfl | rfl | hx
      · omega
      · omega
      · omega
      · exact Nat.le_refl _
      · exact (own_lt OL.out hx).1))
    have c1 : w4.cell? ⟨w2.heap.size, 0, none⟩ = some (.slice A m cc) := by rw [← HM.out]; exact S4.out.1.l.cell 0
    have c2 : w4.cell? ⟨w2.heap.size + 1, 0, none⟩ = some (.int .i64 (toldW en 0 m)) := S4.out.1.n.cell 0
    have c3 : w4.cell? ⟨w2.heap.size + 2, 0, none⟩ = some (.bool true) := S4.out.1.ok.cell 0
    have c4 : w4.cell? ⟨w.heap.size, 0, none⟩ = some (.int .i64 en) := S4.out.1.e.cell 0
    clear st4 up4 U3 B1 B2 B3 ST
    by_cases h1 : 1 ≤ en
    · have d1 : decide (1 ≤ en) = true := by simpa using h1
      by_cases h2 : en ≤ (m : Int)
      · have d2 : decide (en ≤ (m : Int)) = true := by simpa using h2
        have ht : toldW en 0 m = en := by unfold toldW; rw [if_pos ⟨by omega, h2⟩]
        rw [ht] at c2
        have d3 : (en == en) = true := by simp
        clear ht
        go_wp2_with fail
        refine (fin.out _ U5.out).mono ?_; rintro e w5 ⟨rfl, u5⟩
        have U6 := Lib.hid u5
        clear u5
        go_wp2_with fail
        go_ret
        exact ⟨rfl, U6.out⟩
      · have d2 : decide (en ≤ (m : Int)) = false := by simpa using h2
        have ht : toldW en 0 m = m := by unfold toldW; rw [if_neg (fun c => h2 c.2)]
        rw [ht] at c2
        have d3 : ((m : Int) == (m : Int)) = true := by simp
        clear ht
        go_wp2_with fail
        refine (fin.out _ U5.out).mono ?_; rintro e w5 ⟨rfl, u5⟩
        have U6 := Lib.hid u5
        clear u5
        go_wp2_with fail
        go_ret
        exact ⟨rfl, U6.out⟩
    · have d1 : decide (1 ≤ en) = false := by simpa using h1
      have ht : toldW en 0 m = m := by unfold toldW; rw [if_neg (fun c => h1 (by have := c.1; omega))]
      rw [ht] at c2
      have d3 : ((m : Int) == (m : Int)) = true := by simp
      clear ht
      go_wp2_with fail
      refine (fin.out _ U5.out).mono ?_; rintro e w5 ⟨rfl, u5⟩
      have U6 := Lib.hid u5
      clear u5
      go_wp2_with fail
      go_ret
      exact ⟨rfl, U6.out⟩
end Go.Proofs.YtblfklnnojhadaaDoor.Drw

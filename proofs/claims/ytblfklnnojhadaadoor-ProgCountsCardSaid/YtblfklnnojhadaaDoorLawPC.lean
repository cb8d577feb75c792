/-
  ProgCounts: the walk.
-/
import Derived.Test.YtblfklnnojhadaaDoorPAlive
import Derived.Test.YtblfklnnojhadaaDoorRefC
import Derived.Test.YtblfklnnojhadaaDoorIntsC
set_option linter.unusedVariables false
namespace Go.Proofs.YtblfklnnojhadaaDoor.Drw
open Go.RowKit Colls

set_option maxRecDepth 100000 in
set_option maxHeartbeats 2000000 in
theorem law_pcounts (v : Value) (l : List Stm) (w : World) (hv : Stms w w.heap.size v l) (hg : Typed w) :
    Calls Tryd.prog 7 #[v] w fun e w' => e = .returned (.bool true) ∧ Upd [] w w' := by
  have HV := Lib.hid hv
  have HG := Lib.hid hg
  obtain ⟨Av, nv, cv, rfl⟩ := hv.slice
  obtain ⟨b, hb⟩ : ∃ b, fewB l = b := ⟨_, rfl⟩
  have HB := Lib.hid hb
  clear hv hg hb
  have keep : Hid (∀ W, Upd [] w W → Stms W W.heap.size (.slice Av nv cv) l) := Lib.hid (fun W hu => (HV.out.belowW (hu.below (Nat.le_refl _) (by simp))).more hu.size)
  have fin : Hid (∀ W, Upd [] w W → Calls Tryd.prog 9 #[] W fun e w' => e = .returned (.bool true) ∧ Upd [] w w') := Lib.hid (fun W hu => (palive_ok W (HG.out.upd hu (by simp))).mono fun e w' ⟨h1, h2⟩ => ⟨h1, hu.trans h2⟩)
  go_enter Tryd.func7, Tryd.ntmps7
  go_wp2_with fail
  refine (few_ok l (.slice Av nv cv) _ HV.out).mono ?_; rintro e w1 ⟨rfl, u1⟩
  rw [HB.out]
  have U1 := Lib.hid u1
  clear u1
  cases b with
  | false =>
    go_wp2_with fail
    refine (fin.out _ U1.out).mono ?_; rintro e w2 ⟨rfl, u2⟩
    have U2 := Lib.hid u2
    clear u2
    go_wp2_with fail
    go_ret
    exact ⟨rfl, U2.out⟩
  | true =>
    have hs := few_sizes HB.out
    have SR : Hid (sizeR l = (linesOf 1 l).length) := Lib.hid (by rw [sizeR_eq, lines_sizes _ l 1 (Nat.le_refl _)])
    have CR : Hid ((collsR l).length ≤ 1000000) := Lib.hid (by have := collsR_len l; omega)
    go_wp2_with fail
    refine (size_ok l (.slice Av nv cv) _ (keep.out _ U1.out) (by omega)).mono ?_; rintro e w2 ⟨rfl, u2⟩
    rw [SR.out]
    have U2 := Lib.hid (U1.out.trans u2)
    clear u2 U1
    go_wp2_with fail
    refine (lines_all l (.slice Av nv cv) _ (keep.out _ U2.out) (by omega)).mono ?_; rintro e w3 ⟨v3, rfl, hla, u3⟩
    have U3 := Lib.hid (U2.out.trans u3)
    obtain ⟨A3, c3, rfl, hc1, hc2, _⟩ := hla.slice
    clear hla u3 U2
    go_wp2_with fail
    refine (deep_ok l (.slice Av nv cv) _ (keep.out _ U3.out) (by omega)).mono ?_; rintro e w4 ⟨rfl, u4⟩
    have U4 := Lib.hid (U3.out.trans u4)
    clear u4 U3
    go_wp2_with fail
    refine (ref_deep_ok l (.slice Av nv cv) _ (keep.out _ U4.out) (by omega)).mono ?_; rintro e w5 ⟨rfl, u5⟩
    have U5 := Lib.hid (U4.out.trans u5)
    clear u5 U4
    go_wp2_with fail
    refine (colls_ok l (.slice Av nv cv) _ (keep.out _ U5.out) (by omega)).mono ?_; rintro e w6 ⟨v6, rfl, o6, u6⟩
    have U6 := Lib.hid (U5.out.trans u6)
    have O6 := Lib.hid o6
    obtain ⟨A6, c6, rfl, _, _⟩ := own_slice o6
    clear o6 u6 U5
    go_wp2_with fail
    refine (ref_colls_ok l (.slice Av nv cv) _ (keep.out _ U6.out) (by omega)).mono ?_; rintro e w7 ⟨v7, rfl, o7, u7⟩
    have U7 := Lib.hid (U6.out.trans u7)
    have O67 := Lib.hid (own_upd0 O6.out u7)
    have O7 := Lib.hid o7
    obtain ⟨A7, c7, rfl, _, _⟩ := own_slice o7
    clear o7 u7 U6 O6
    go_wp2_with fail
    refine (ints_ok _ _ (collsR l) (collsR l) _ _ _ O67.out O7.out CR.out CR.out).mono ?_; rintro e w8 ⟨rfl, u8⟩
    rw [decide_eq_true rfl]
    have U8 := Lib.hid (U7.out.trans u8)
    clear u8 U7
    go_wp2_with fail
    refine (waits_ok l (.slice Av nv cv) _ (keep.out _ U8.out) (by omega)).mono ?_; rintro e w9 ⟨rfl, u9⟩
    have U9 := Lib.hid (U8.out.trans u9)
    clear u9 U8
    go_wp2_with fail
    refine (ref_waits_ok l (.slice Av nv cv) _ (keep.out _ U9.out) (by omega)).mono ?_; rintro e w10 ⟨rfl, u10⟩
    have U10 := Lib.hid (U9.out.trans u10)
    clear u10 U9
    go_wp2_with fail
    refine (fin.out _ U10.out).mono ?_; rintro e w11 ⟨rfl, u11⟩
    have U11 := Lib.hid u11
    clear u11
    go_wp2_with fail
    go_ret
    exact ⟨rfl, U11.out⟩
end Go.Proofs.YtblfklnnojhadaaDoor.Drw

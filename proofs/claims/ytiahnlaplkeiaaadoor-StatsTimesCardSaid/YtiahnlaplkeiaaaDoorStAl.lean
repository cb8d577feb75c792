/-
  stats.Show at the example's count; concordlaw30.alive.
-/
import Derived.Test.YtiahnlaplkeiaaaDoorStShow
import Derived.Test.YtiahnlaplkeiaaaDoorIntsN
set_option linter.unusedVariables false
namespace Go.Proofs.YtiahnlaplkeiaaaDoor
open Go.RowKit St
attribute [local go_sem] litStep_value

def exT : Tal := ⟨1, 1, 0, 0, 0, 0, 3, 3⟩
def exS : ByteArray := ⟨#[100, 111, 110, 101, 32, 49, 44, 32, 119, 114, 111, 116, 101, 32, 49, 44, 32, 116, 105, 109, 101, 32, 51, 44, 32, 108, 111, 110, 103, 101, 115, 116, 32, 51]⟩
def exL : List ByteArray := [partS ⟨#[100, 111, 110, 101]⟩ 1, partS ⟨#[119, 114, 111, 116, 101]⟩ 1, partS ⟨#[116, 105, 109, 101]⟩ 3, partS ⟨#[108, 111, 110, 103, 101, 115, 116]⟩ 3]
theorem dec1 : Lib.decDigits 1 = [49] := by unfold Lib.decDigits; rfl
theorem dec3 : Lib.decDigits 3 = [51] := by unfold Lib.decDigits; rfl
theorem ex_join : (⟨(Lib.join (exL.map (·.data.toList)) (ByteArray.mk #[44, 32]).data.toList).toArray⟩ : ByteArray) = exS := by
  unfold exL partS
  rw [dec1, dec3]
  decide +kernel
set_option maxRecDepth 100000 in
set_option maxHeartbeats 4000000 in
theorem show_ex (w : World) : Calls Tryd.prog 21 #[talV exT] w fun e w' => e = .returned (.string exS) ∧ Upd [] w w' := by
  have S1 : Hid (StrSt (w.heap.size + 1 + 1) (w.heap.size + 1) ((w.alloc (.cells (talC exT) 26)).alloc (.cells #[.slice none 0 0] 62)) (.slice none 0 0) []) := Lib.hid ⟨blk_newAt (by simp), own_nil _ _ _ _, by simp⟩
  have T1 : Hid (Blk ((w.alloc (.cells (talC exT) 26)).alloc (.cells #[.slice none 0 0] 62)) w.heap.size 26 (talC exT)) := Lib.hid ((Blk.new w _ _).alloc _)
  have U1 : Hid (Upd [] w ((w.alloc (.cells (talC exT) 26)).alloc (.cells #[.slice none 0 0] 62))) := Lib.hid (((Upd.refl [] w).alloc _).alloc _)
  unfold talV talC exT at *
  go_enter Tryd.func21, Tryd.ntmps21
  go_wp2_with fail
  generalize ((w.alloc (.cells #[.int .i64 1, .int .i64 0, .int .i64 0, .int .i64 0, .int .i64 0, .int .i64 1, .int .i64 3, .int .i64 3] 26)).alloc (.cells #[.slice none 0 0] 62)) = w1 at *
  obtain ⟨tb, htb⟩ : ∃ tb, w.heap.size = tb := ⟨_, rfl⟩
  have HB := Lib.hid htb
  rw [htb] at S1 T1 ⊢
  clear htb
  refine (part_some (tb + 1 + 1) (tb + 1) ⟨#[100, 111, 110, 101]⟩ 1 (.slice none 0 0) [] _ S1.out (by omega) (by omega) (by simp) (by omega) (by decide)).mono ?_
  rintro e w2 ⟨rfl, v2, s2, u2⟩
  have S2 := Lib.hid s2
  have T2 := Lib.hid (S1.out.keep T1.out u2 (by omega) (by omega))
  have U2 := Lib.hid (S1.out.rest U1.out u2 (by rw [HB.out]; omega) (by rw [HB.out]; omega))
  clear s2 u2
  have c0 := T2.out.facts
  go_wp2_with fail
  clear c0
  refine (part_some (tb + 1 + 1) (tb + 1) ⟨#[119, 114, 111, 116, 101]⟩ 1 v2 _ _ S2.out (by omega) (by omega) (by simp) (by omega) (by decide)).mono ?_
  rintro e w3 ⟨rfl, v3, s3, u3⟩
  have S3 := Lib.hid s3
  have T3 := Lib.hid (S2.out.keep T2.out u3 (by omega) (by omega))
  have U3 := Lib.hid (S2.out.rest U2.out u3 (by rw [HB.out]; omega) (by rw [HB.out]; omega))
  clear s3 u3
  have c0 := T3.out.facts
  go_wp2_with fail
  clear c0
  refine (part_none (tb + 1) _ _).mono ?_
  rintro e w4 ⟨rfl, rfl⟩
  have c0 := T3.out.facts
  go_wp2_with fail
  clear c0
  refine (part_none (tb + 1) _ _).mono ?_
  rintro e w4 ⟨rfl, rfl⟩
  have c0 := T3.out.facts
  go_wp2_with fail
  clear c0
  refine (part_none (tb + 1) _ _).mono ?_
  rintro e w4 ⟨rfl, rfl⟩
  have c0 := T3.out.facts
  go_wp2_with fail
  clear c0
  refine (part_none (tb + 1) _ _).mono ?_
  rintro e w4 ⟨rfl, rfl⟩
  have c0 := T3.out.facts
  go_wp2_with fail
  clear c0
  refine (part_some (tb + 1 + 1) (tb + 1) ⟨#[116, 105, 109, 101]⟩ 3 v3 _ _ S3.out (by omega) (by omega) (by simp) (by omega) (by decide)).mono ?_
  rintro e w4 ⟨rfl, v4, s4, u4⟩
  have S4 := Lib.hid s4
  have T4 := Lib.hid (S3.out.keep T3.out u4 (by omega) (by omega))
  have U4 := Lib.hid (S3.out.rest U3.out u4 (by rw [HB.out]; omega) (by rw [HB.out]; omega))
  clear s4 u4
  have c0 := T4.out.facts
  go_wp2_with fail
  clear c0
  refine (part_some (tb + 1 + 1) (tb + 1) ⟨#[108, 111, 110, 103, 101, 115, 116]⟩ 3 v4 _ _ S4.out (by omega) (by omega) (by simp) (by omega) (by decide)).mono ?_
  rintro e w5 ⟨rfl, v5, s5, u5⟩
  have S5 : Hid (StrSt (tb + 1 + 1) (tb + 1) w5 v5 exL) := Lib.hid s5
  have U5 := Lib.hid (S4.out.rest U4.out u5 (by rw [HB.out]; omega) (by rw [HB.out]; omega))
  clear s5 u5
  obtain ⟨g, c5, cur, rfl, _, _, h5, _⟩ := own_form S5.out.own (by decide)
  have c0 := S5.out.box.facts
  go_wp2_with fail
  clear c0
  refine (join_ok' g c5 exL ⟨#[44, 32]⟩ _ (fun j x hx => own_cell S5.out.own j _ (by rw [List.getElem?_map]; show Option.map _ (exL[j]?) = _; rw [hx]; rfl)) (own_lt S5.out.own rfl).2 (by decide) h5 (by unfold exL partS; rw [dec1, dec3]; decide +kernel)).mono ?_
  rintro e w6 ⟨rfl, u6⟩
  rw [ex_join]
  have U6 := Lib.hid (U5.out.trans u6)
  clear u6
  go_wp2_with fail
  go_ret
  exact ⟨rfl, U6.out⟩
theorem own_lit {W : World} {g n : Nat} {e : TypeId} {cs : Array Value} (h : Blk W g e cs) (hn : cs.size = n) (hl : n ≤ 1000) : W.ownsRow 0 e 1 (.slice (some ⟨g, 0, none⟩) n n) n cs.toList :=
  ⟨by simp [hn], .inr ⟨g, n, cs, rfl, Nat.zero_le _, h, Nat.le_refl _, by simp only [maxLen]; omega, by omega, by rw [Nat.mul_one, List.take_of_length_le (by simp [hn])]⟩⟩
def exE : En := ⟨0, 0, 0, true, 2, 5, 1, 0, none, 0, 0⟩
theorem ex_of : ofL [exE] = exT := by simp [ofL, exE, exT, join, St.one, isI, zero]; decide
theorem ex_bars : barsL [exE] = [0, 0, 1] := by
  have h : St.bits 3 = 2 := by
    unfold St.bits
    rw [show (3 : Int).toNat = 3 from rfl, bitsN_pos (by omega), show 3 / 2 = 1 from rfl, bitsN_pos (by omega), show 1 / 2 = 0 from rfl, bitsN_zero]
  have e : took exE = 3 := rfl
  unfold barsL
  rw [List.foldl_cons, List.foldl_nil, e, h]
  rfl
set_option maxRecDepth 100000 in
set_option maxHeartbeats 4000000 in
theorem st_alive (w : World) : Calls Tryd.prog 7 #[] w fun e w' => e = .returned (.bool true) ∧ Upd [] w w' := by
  have X1 : Hid (Rd encE (w.alloc (.cells (enC exE) 45)) (.slice (some ⟨w.heap.size, 0, none⟩) 1 1) [exE]) := Lib.hid (Src.of_blk (s := 9) (m := 1) (Blk.new w 45 (enC exE)) 1 rfl)
  have U1 : Hid (Upd [] w (w.alloc (.cells (enC exE) 45))) := Lib.hid ((Upd.refl [] w).alloc _)
  have EX : Hid (∀ x ∈ [exE], EB x) := Lib.hid (by decide)
  unfold enC exE at X1 U1
  go_enter Tryd.func7, Tryd.ntmps7
  go_wp2_with fail
  generalize (w.alloc (.cells #[.int .i64 0, .int .i64 0, .int .i64 0, .bool true, .int .i64 2, .int .i64 5, .int .i64 1, .slice none 0 0, .int .i64 0] 45)) = w1 at *
  refine (of_ok _ 1 1 [exE] w1 X1.out rfl (by omega) EX.out).mono ?_
  rintro e w2 ⟨rfl, u2⟩
  rw [ex_of]
  have X2 := Lib.hid (X1.out.upd0 u2)
  have U2 := Lib.hid (U1.out.trans u2)
  clear u2
  go_wp2_with fail
  refine (show_ex w2).mono ?_
  rintro e w3 ⟨rfl, u3⟩
  have X3 := Lib.hid (X2.out.upd0 u3)
  have U3 := Lib.hid (U2.out.trans u3)
  clear u3
  unfold exS
  go_wp2_with fail
  refine (overlap_ok _ 1 1 [exE] w3 X3.out rfl (by omega)).mono ?_
  rintro e w4 ⟨rfl, u4⟩
  rw [show overL [exE] = 1 by rw [overL_eq]; decide]
  have X4 := Lib.hid (X3.out.upd0 u4)
  have U4 := Lib.hid (U3.out.trans u4)
  clear u4
  go_wp2_with fail
  refine (bars_ok _ 1 1 [exE] w4 X4.out rfl (by omega) EX.out).mono ?_
  rintro e w5 ⟨v, rfl, o5, u5⟩
  rw [ex_bars] at o5
  have O5 := Lib.hid o5
  have U5 := Lib.hid (U4.out.trans u5)
  obtain ⟨Ab, cb, rfl, _, _⟩ := own_slice o5
  clear o5 u5
  go_wp2_with fail
  refine (ints_ok w4.heap.size 0 [0, 0, 1] [0, 0, 1] _ _ _ (own_upd0 O5.out ((Upd.refl [] w5).alloc _)) (own_lit (Blk.new w5 3 #[.int .i64 0, .int .i64 0, .int .i64 1]) rfl (by decide)) (by decide) (by decide)).mono ?_
  rintro e w6 ⟨rfl, u6⟩
  rw [show decide ([(0 : Int), 0, 1] = [0, 0, 1]) = true by decide]
  have U6 := Lib.hid ((U5.out.alloc _).trans u6)
  clear u6
  go_wp2_with fail
  go_ret
  exact ⟨rfl, U6.out⟩
end Go.Proofs.YtiahnlaplkeiaaaDoor

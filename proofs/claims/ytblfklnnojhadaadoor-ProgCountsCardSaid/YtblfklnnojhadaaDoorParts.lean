/-
  prog.partsOf: what a kind of statement has.
-/
import Derived.Test.YtblfklnnojhadaaDoorStm
import Derived.Deep.DeepCutAuto
import Derived.Deep.CutBlock
set_option linter.unusedVariables false
namespace Go.Proofs.YtblfklnnojhadaaDoor
open Go.RowKit
theorem blk_seq {P : Program} {id : Nat} {c d : Code} {Q : Exit → Act → World → Prop} {a : Act} {w : World} (h : ∀ Q' : Exit → Act → World → Prop, Hid (∀ e a w, Exit.inBlock id (Exit.then (d.wp P Q) Q) e a w → Q' e a w) → c.wp P Q' a w) : ((Code.block id c).seq d).wp P Q a w :=
  wp_seq (wp_block (h _ (Lib.hid fun _ _ _ h => h)))
theorem blk1 {P : Program} {id : Nat} {c : Code} {Q : Exit → Act → World → Prop} {a : Act} {w : World} (h : ∀ Q' : Exit → Act → World → Prop, Hid (∀ e a w, Exit.inBlock id Q e a w → Q' e a w) → c.wp P Q' a w) : (Code.block id c).wp P Q a w :=
  wp_block (h _ (Lib.hid fun _ _ _ h => h))
def pIs (k : Int) : Bool := decide (1 ≤ k) && decide (k ≤ 16)
def pColl (k : Int) : Bool := decide (1 ≤ k) && decide (k ≤ 8)
def pOrd (k : Int) : Bool := k == 6 || k == 7
def pReg (k : Int) : Bool := k == 1 || k == 4 || k == 5 || k == 6 || k == 7 || k == 9 || k == 10
def pA (k : Int) : Bool := k == 1 || k == 2 || k == 3 || k == 4 || k == 6 || k == 7 || k == 9 || k == 10 || k == 11 || k == 12
def pB (k : Int) : Bool := k == 2 || k == 7 || k == 10 || k == 11
def pBody (k : Int) : Bool := decide (11 ≤ k) && decide (k ≤ 14)
def pElse (k : Int) : Bool := k == 11 || k == 14
set_option maxHeartbeats 1000000 in
theorem parts_1 (w : World) : Calls Tryd.prog 41 #[.int .i64 1] w fun e w' => e = .returned (.tuple #[.agg #[.bool true, .bool false, .bool true, .bool true, .bool false, .bool false, .bool false], .bool true]) ∧ Upd [] w w' := by
  go_enter Tryd.func41, Tryd.ntmps41
  go_upto_block 0 with fail
  refine blk1 (fun Q0 h0 => ?_)
  refine blk_seq (fun Q15 h15 => ?_)
  refine blk_seq (fun Q14 h14 => ?_)
  refine blk_seq (fun Q13 h13 => ?_)
  refine blk_seq (fun Q12 h12 => ?_)
  refine blk_seq (fun Q11 h11 => ?_)
  refine blk_seq (fun Q10 h10 => ?_)
  refine blk_seq (fun Q9 h9 => ?_)
  refine blk_seq (fun Q8 h8 => ?_)
  refine blk_seq (fun Q7 h7 => ?_)
  refine blk_seq (fun Q6 h6 => ?_)
  refine blk_seq (fun Q5 h5 => ?_)
  refine blk_seq (fun Q4 h4 => ?_)
  refine blk_seq (fun Q3 h3 => ?_)
  refine blk_seq (fun Q2 h2 => ?_)
  refine blk_seq (fun Q1 h1 => ?_)
  go_wp2_with fail
  repeat ((first | (with_reducible refine h1.out _ _ _ ?_) | (with_reducible refine h2.out _ _ _ ?_) | (with_reducible refine h3.out _ _ _ ?_) | (with_reducible refine h4.out _ _ _ ?_) | (with_reducible refine h5.out _ _ _ ?_) | (with_reducible refine h6.out _ _ _ ?_) | (with_reducible refine h7.out _ _ _ ?_) | (with_reducible refine h8.out _ _ _ ?_) | (with_reducible refine h9.out _ _ _ ?_) | (with_reducible refine h10.out _ _ _ ?_) | (with_reducible refine h11.out _ _ _ ?_) | (with_reducible refine h12.out _ _ _ ?_) | (with_reducible refine h13.out _ _ _ ?_) | (with_reducible refine h14.out _ _ _ ?_) | (with_reducible refine h15.out _ _ _ ?_) | (with_reducible refine h0.out _ _ _ ?_)); (try simp only [Exit.inBlock, Exit.then, Nat.reduceEqDiff, if_true, if_false, ite_true, ite_false, reduceCtorEq]); (try go_wp2_with fail))
  exact bodyPost_ret (v := .tuple #[.agg #[.bool true, .bool false, .bool true, .bool true, .bool false, .bool false, .bool false], .bool true]) (by simp [results, Tryd.results41, go_sem]) rfl ⟨rfl, ((Upd.refl [] w).alloc _).alloc _⟩
set_option maxHeartbeats 1000000 in
theorem parts_2 (w : World) : Calls Tryd.prog 41 #[.int .i64 2] w fun e w' => e = .returned (.tuple #[.agg #[.bool true, .bool false, .bool false, .bool true, .bool true, .bool false, .bool false], .bool true]) ∧ Upd [] w w' := by
  go_enter Tryd.func41, Tryd.ntmps41
  go_upto_block 0 with fail
  refine blk1 (fun Q0 h0 => ?_)
  refine blk_seq (fun Q15 h15 => ?_)
  refine blk_seq (fun Q14 h14 => ?_)
  refine blk_seq (fun Q13 h13 => ?_)
  refine blk_seq (fun Q12 h12 => ?_)
  refine blk_seq (fun Q11 h11 => ?_)
  refine blk_seq (fun Q10 h10 => ?_)
  refine blk_seq (fun Q9 h9 => ?_)
  refine blk_seq (fun Q8 h8 => ?_)
  refine blk_seq (fun Q7 h7 => ?_)
  refine blk_seq (fun Q6 h6 => ?_)
  refine blk_seq (fun Q5 h5 => ?_)
  refine blk_seq (fun Q4 h4 => ?_)
  refine blk_seq (fun Q3 h3 => ?_)
  refine blk_seq (fun Q2 h2 => ?_)
  refine blk_seq (fun Q1 h1 => ?_)
  go_wp2_with fail
  repeat ((first | (with_reducible refine h1.out _ _ _ ?_) | (with_reducible refine h2.out _ _ _ ?_) | (with_reducible refine h3.out _ _ _ ?_) | (with_reducible refine h4.out _ _ _ ?_) | (with_reducible refine h5.out _ _ _ ?_) | (with_reducible refine h6.out _ _ _ ?_) | (with_reducible refine h7.out _ _ _ ?_) | (with_reducible refine h8.out _ _ _ ?_) | (with_reducible refine h9.out _ _ _ ?_) | (with_reducible refine h10.out _ _ _ ?_) | (with_reducible refine h11.out _ _ _ ?_) | (with_reducible refine h12.out _ _ _ ?_) | (with_reducible refine h13.out _ _ _ ?_) | (with_reducible refine h14.out _ _ _ ?_) | (with_reducible refine h15.out _ _ _ ?_) | (with_reducible refine h0.out _ _ _ ?_)); (try simp only [Exit.inBlock, Exit.then, Nat.reduceEqDiff, if_true, if_false, ite_true, ite_false, reduceCtorEq]); (try go_wp2_with fail))
  exact bodyPost_ret (v := .tuple #[.agg #[.bool true, .bool false, .bool false, .bool true, .bool true, .bool false, .bool false], .bool true]) (by simp [results, Tryd.results41, go_sem]) rfl ⟨rfl, ((Upd.refl [] w).alloc _).alloc _⟩
set_option maxHeartbeats 1000000 in
theorem parts_3 (w : World) : Calls Tryd.prog 41 #[.int .i64 3] w fun e w' => e = .returned (.tuple #[.agg #[.bool true, .bool false, .bool false, .bool true, .bool false, .bool false, .bool false], .bool true]) ∧ Upd [] w w' := by
  go_enter Tryd.func41, Tryd.ntmps41
  go_upto_block 0 with fail
  refine blk1 (fun Q0 h0 => ?_)
  refine blk_seq (fun Q15 h15 => ?_)
  refine blk_seq (fun Q14 h14 => ?_)
  refine blk_seq (fun Q13 h13 => ?_)
  refine blk_seq (fun Q12 h12 => ?_)
  refine blk_seq (fun Q11 h11 => ?_)
  refine blk_seq (fun Q10 h10 => ?_)
  refine blk_seq (fun Q9 h9 => ?_)
  refine blk_seq (fun Q8 h8 => ?_)
  refine blk_seq (fun Q7 h7 => ?_)
  refine blk_seq (fun Q6 h6 => ?_)
  refine blk_seq (fun Q5 h5 => ?_)
  refine blk_seq (fun Q4 h4 => ?_)
  refine blk_seq (fun Q3 h3 => ?_)
  refine blk_seq (fun Q2 h2 => ?_)
  refine blk_seq (fun Q1 h1 => ?_)
  go_wp2_with fail
  repeat ((first | (with_reducible refine h1.out _ _ _ ?_) | (with_reducible refine h2.out _ _ _ ?_) | (with_reducible refine h3.out _ _ _ ?_) | (with_reducible refine h4.out _ _ _ ?_) | (with_reducible refine h5.out _ _ _ ?_) | (with_reducible refine h6.out _ _ _ ?_) | (with_reducible refine h7.out _ _ _ ?_) | (with_reducible refine h8.out _ _ _ ?_) | (with_reducible refine h9.out _ _ _ ?_) | (with_reducible refine h10.out _ _ _ ?_) | (with_reducible refine h11.out _ _ _ ?_) | (with_reducible refine h12.out _ _ _ ?_) | (with_reducible refine h13.out _ _ _ ?_) | (with_reducible refine h14.out _ _ _ ?_) | (with_reducible refine h15.out _ _ _ ?_) | (with_reducible refine h0.out _ _ _ ?_)); (try simp only [Exit.inBlock, Exit.then, Nat.reduceEqDiff, if_true, if_false, ite_true, ite_false, reduceCtorEq]); (try go_wp2_with fail))
  exact bodyPost_ret (v := .tuple #[.agg #[.bool true, .bool false, .bool false, .bool true, .bool false, .bool false, .bool false], .bool true]) (by simp [results, Tryd.results41, go_sem]) rfl ⟨rfl, ((Upd.refl [] w).alloc _).alloc _⟩
set_option maxHeartbeats 1000000 in
theorem parts_4 (w : World) : Calls Tryd.prog 41 #[.int .i64 4] w fun e w' => e = .returned (.tuple #[.agg #[.bool true, .bool false, .bool true, .bool true, .bool false, .bool false, .bool false], .bool true]) ∧ Upd [] w w' := by
  go_enter Tryd.func41, Tryd.ntmps41
  go_upto_block 0 with fail
  refine blk1 (fun Q0 h0 => ?_)
  refine blk_seq (fun Q15 h15 => ?_)
  refine blk_seq (fun Q14 h14 => ?_)
  refine blk_seq (fun Q13 h13 => ?_)
  refine blk_seq (fun Q12 h12 => ?_)
  refine blk_seq (fun Q11 h11 => ?_)
  refine blk_seq (fun Q10 h10 => ?_)
  refine blk_seq (fun Q9 h9 => ?_)
  refine blk_seq (fun Q8 h8 => ?_)
  refine blk_seq (fun Q7 h7 => ?_)
  refine blk_seq (fun Q6 h6 => ?_)
  refine blk_seq (fun Q5 h5 => ?_)
  refine blk_seq (fun Q4 h4 => ?_)
  refine blk_seq (fun Q3 h3 => ?_)
  refine blk_seq (fun Q2 h2 => ?_)
  refine blk_seq (fun Q1 h1 => ?_)
  go_wp2_with fail
  repeat ((first | (with_reducible refine h1.out _ _ _ ?_) | (with_reducible refine h2.out _ _ _ ?_) | (with_reducible refine h3.out _ _ _ ?_) | (with_reducible refine h4.out _ _ _ ?_) | (with_reducible refine h5.out _ _ _ ?_) | (with_reducible refine h6.out _ _ _ ?_) | (with_reducible refine h7.out _ _ _ ?_) | (with_reducible refine h8.out _ _ _ ?_) | (with_reducible refine h9.out _ _ _ ?_) | (with_reducible refine h10.out _ _ _ ?_) | (with_reducible refine h11.out _ _ _ ?_) | (with_reducible refine h12.out _ _ _ ?_) | (with_reducible refine h13.out _ _ _ ?_) | (with_reducible refine h14.out _ _ _ ?_) | (with_reducible refine h15.out _ _ _ ?_) | (with_reducible refine h0.out _ _ _ ?_)); (try simp only [Exit.inBlock, Exit.then, Nat.reduceEqDiff, if_true, if_false, ite_true, ite_false, reduceCtorEq]); (try go_wp2_with fail))
  exact bodyPost_ret (v := .tuple #[.agg #[.bool true, .bool false, .bool true, .bool true, .bool false, .bool false, .bool false], .bool true]) (by simp [results, Tryd.results41, go_sem]) rfl ⟨rfl, ((Upd.refl [] w).alloc _).alloc _⟩
set_option maxHeartbeats 1000000 in
theorem parts_5 (w : World) : Calls Tryd.prog 41 #[.int .i64 5] w fun e w' => e = .returned (.tuple #[.agg #[.bool true, .bool false, .bool true, .bool false, .bool false, .bool false, .bool false], .bool true]) ∧ Upd [] w w' := by
  go_enter Tryd.func41, Tryd.ntmps41
  go_upto_block 0 with fail
  refine blk1 (fun Q0 h0 => ?_)
  refine blk_seq (fun Q15 h15 => ?_)
  refine blk_seq (fun Q14 h14 => ?_)
  refine blk_seq (fun Q13 h13 => ?_)
  refine blk_seq (fun Q12 h12 => ?_)
  refine blk_seq (fun Q11 h11 => ?_)
  refine blk_seq (fun Q10 h10 => ?_)
  refine blk_seq (fun Q9 h9 => ?_)
  refine blk_seq (fun Q8 h8 => ?_)
  refine blk_seq (fun Q7 h7 => ?_)
  refine blk_seq (fun Q6 h6 => ?_)
  refine blk_seq (fun Q5 h5 => ?_)
  refine blk_seq (fun Q4 h4 => ?_)
  refine blk_seq (fun Q3 h3 => ?_)
  refine blk_seq (fun Q2 h2 => ?_)
  refine blk_seq (fun Q1 h1 => ?_)
  go_wp2_with fail
  repeat ((first | (with_reducible refine h1.out _ _ _ ?_) | (with_reducible refine h2.out _ _ _ ?_) | (with_reducible refine h3.out _ _ _ ?_) | (with_reducible refine h4.out _ _ _ ?_) | (with_reducible refine h5.out _ _ _ ?_) | (with_reducible refine h6.out _ _ _ ?_) | (with_reducible refine h7.out _ _ _ ?_) | (with_reducible refine h8.out _ _ _ ?_) | (with_reducible refine h9.out _ _ _ ?_) | (with_reducible refine h10.out _ _ _ ?_) | (with_reducible refine h11.out _ _ _ ?_) | (with_reducible refine h12.out _ _ _ ?_) | (with_reducible refine h13.out _ _ _ ?_) | (with_reducible refine h14.out _ _ _ ?_) | (with_reducible refine h15.out _ _ _ ?_) | (with_reducible refine h0.out _ _ _ ?_)); (try simp only [Exit.inBlock, Exit.then, Nat.reduceEqDiff, if_true, if_false, ite_true, ite_false, reduceCtorEq]); (try go_wp2_with fail))
  exact bodyPost_ret (v := .tuple #[.agg #[.bool true, .bool false, .bool true, .bool false, .bool false, .bool false, .bool false], .bool true]) (by simp [results, Tryd.results41, go_sem]) rfl ⟨rfl, ((Upd.refl [] w).alloc _).alloc _⟩
set_option maxHeartbeats 1000000 in
theorem parts_6 (w : World) : Calls Tryd.prog 41 #[.int .i64 6] w fun e w' => e = .returned (.tuple #[.agg #[.bool true, .bool true, .bool true, .bool true, .bool false, .bool false, .bool false], .bool true]) ∧ Upd [] w w' := by
  go_enter Tryd.func41, Tryd.ntmps41
  go_upto_block 0 with fail
  refine blk1 (fun Q0 h0 => ?_)
  refine blk_seq (fun Q15 h15 => ?_)
  refine blk_seq (fun Q14 h14 => ?_)
  refine blk_seq (fun Q13 h13 => ?_)
  refine blk_seq (fun Q12 h12 => ?_)
  refine blk_seq (fun Q11 h11 => ?_)
  refine blk_seq (fun Q10 h10 => ?_)
  refine blk_seq (fun Q9 h9 => ?_)
  refine blk_seq (fun Q8 h8 => ?_)
  refine blk_seq (fun Q7 h7 => ?_)
  refine blk_seq (fun Q6 h6 => ?_)
  refine blk_seq (fun Q5 h5 => ?_)
  refine blk_seq (fun Q4 h4 => ?_)
  refine blk_seq (fun Q3 h3 => ?_)
  refine blk_seq (fun Q2 h2 => ?_)
  refine blk_seq (fun Q1 h1 => ?_)
  go_wp2_with fail
  repeat ((first | (with_reducible refine h1.out _ _ _ ?_) | (with_reducible refine h2.out _ _ _ ?_) | (with_reducible refine h3.out _ _ _ ?_) | (with_reducible refine h4.out _ _ _ ?_) | (with_reducible refine h5.out _ _ _ ?_) | (with_reducible refine h6.out _ _ _ ?_) | (with_reducible refine h7.out _ _ _ ?_) | (with_reducible refine h8.out _ _ _ ?_) | (with_reducible refine h9.out _ _ _ ?_) | (with_reducible refine h10.out _ _ _ ?_) | (with_reducible refine h11.out _ _ _ ?_) | (with_reducible refine h12.out _ _ _ ?_) | (with_reducible refine h13.out _ _ _ ?_) | (with_reducible refine h14.out _ _ _ ?_) | (with_reducible refine h15.out _ _ _ ?_) | (with_reducible refine h0.out _ _ _ ?_)); (try simp only [Exit.inBlock, Exit.then, Nat.reduceEqDiff, if_true, if_false, ite_true, ite_false, reduceCtorEq]); (try go_wp2_with fail))
  exact bodyPost_ret (v := .tuple #[.agg #[.bool true, .bool true, .bool true, .bool true, .bool false, .bool false, .bool false], .bool true]) (by simp [results, Tryd.results41, go_sem]) rfl ⟨rfl, ((Upd.refl [] w).alloc _).alloc _⟩
set_option maxHeartbeats 1000000 in
theorem parts_7 (w : World) : Calls Tryd.prog 41 #[.int .i64 7] w fun e w' => e = .returned (.tuple #[.agg #[.bool true, .bool true, .bool true, .bool true, .bool true, .bool false, .bool false], .bool true]) ∧ Upd [] w w' := by
  go_enter Tryd.func41, Tryd.ntmps41
  go_upto_block 0 with fail
  refine blk1 (fun Q0 h0 => ?_)
  refine blk_seq (fun Q15 h15 => ?_)
  refine blk_seq (fun Q14 h14 => ?_)
  refine blk_seq (fun Q13 h13 => ?_)
  refine blk_seq (fun Q12 h12 => ?_)
  refine blk_seq (fun Q11 h11 => ?_)
  refine blk_seq (fun Q10 h10 => ?_)
  refine blk_seq (fun Q9 h9 => ?_)
  refine blk_seq (fun Q8 h8 => ?_)
  refine blk_seq (fun Q7 h7 => ?_)
  refine blk_seq (fun Q6 h6 => ?_)
  refine blk_seq (fun Q5 h5 => ?_)
  refine blk_seq (fun Q4 h4 => ?_)
  refine blk_seq (fun Q3 h3 => ?_)
  refine blk_seq (fun Q2 h2 => ?_)
  refine blk_seq (fun Q1 h1 => ?_)
  go_wp2_with fail
  repeat ((first | (with_reducible refine h1.out _ _ _ ?_) | (with_reducible refine h2.out _ _ _ ?_) | (with_reducible refine h3.out _ _ _ ?_) | (with_reducible refine h4.out _ _ _ ?_) | (with_reducible refine h5.out _ _ _ ?_) | (with_reducible refine h6.out _ _ _ ?_) | (with_reducible refine h7.out _ _ _ ?_) | (with_reducible refine h8.out _ _ _ ?_) | (with_reducible refine h9.out _ _ _ ?_) | (with_reducible refine h10.out _ _ _ ?_) | (with_reducible refine h11.out _ _ _ ?_) | (with_reducible refine h12.out _ _ _ ?_) | (with_reducible refine h13.out _ _ _ ?_) | (with_reducible refine h14.out _ _ _ ?_) | (with_reducible refine h15.out _ _ _ ?_) | (with_reducible refine h0.out _ _ _ ?_)); (try simp only [Exit.inBlock, Exit.then, Nat.reduceEqDiff, if_true, if_false, ite_true, ite_false, reduceCtorEq]); (try go_wp2_with fail))
  exact bodyPost_ret (v := .tuple #[.agg #[.bool true, .bool true, .bool true, .bool true, .bool true, .bool false, .bool false], .bool true]) (by simp [results, Tryd.results41, go_sem]) rfl ⟨rfl, ((Upd.refl [] w).alloc _).alloc _⟩
set_option maxHeartbeats 1000000 in
theorem parts_8 (w : World) : Calls Tryd.prog 41 #[.int .i64 8] w fun e w' => e = .returned (.tuple #[.agg #[.bool true, .bool false, .bool false, .bool false, .bool false, .bool false, .bool false], .bool true]) ∧ Upd [] w w' := by
  go_enter Tryd.func41, Tryd.ntmps41
  go_upto_block 0 with fail
  refine blk1 (fun Q0 h0 => ?_)
  refine blk_seq (fun Q15 h15 => ?_)
  refine blk_seq (fun Q14 h14 => ?_)
  refine blk_seq (fun Q13 h13 => ?_)
  refine blk_seq (fun Q12 h12 => ?_)
  refine blk_seq (fun Q11 h11 => ?_)
  refine blk_seq (fun Q10 h10 => ?_)
  refine blk_seq (fun Q9 h9 => ?_)
  refine blk_seq (fun Q8 h8 => ?_)
  refine blk_seq (fun Q7 h7 => ?_)
  refine blk_seq (fun Q6 h6 => ?_)
  refine blk_seq (fun Q5 h5 => ?_)
  refine blk_seq (fun Q4 h4 => ?_)
  refine blk_seq (fun Q3 h3 => ?_)
  refine blk_seq (fun Q2 h2 => ?_)
  refine blk_seq (fun Q1 h1 => ?_)
  go_wp2_with fail
  repeat ((first | (with_reducible refine h1.out _ _ _ ?_) | (with_reducible refine h2.out _ _ _ ?_) | (with_reducible refine h3.out _ _ _ ?_) | (with_reducible refine h4.out _ _ _ ?_) | (with_reducible refine h5.out _ _ _ ?_) | (with_reducible refine h6.out _ _ _ ?_) | (with_reducible refine h7.out _ _ _ ?_) | (with_reducible refine h8.out _ _ _ ?_) | (with_reducible refine h9.out _ _ _ ?_) | (with_reducible refine h10.out _ _ _ ?_) | (with_reducible refine h11.out _ _ _ ?_) | (with_reducible refine h12.out _ _ _ ?_) | (with_reducible refine h13.out _ _ _ ?_) | (with_reducible refine h14.out _ _ _ ?_) | (with_reducible refine h15.out _ _ _ ?_) | (with_reducible refine h0.out _ _ _ ?_)); (try simp only [Exit.inBlock, Exit.then, Nat.reduceEqDiff, if_true, if_false, ite_true, ite_false, reduceCtorEq]); (try go_wp2_with fail))
  exact bodyPost_ret (v := .tuple #[.agg #[.bool true, .bool false, .bool false, .bool false, .bool false, .bool false, .bool false], .bool true]) (by simp [results, Tryd.results41, go_sem]) rfl ⟨rfl, ((Upd.refl [] w).alloc _).alloc _⟩
set_option maxHeartbeats 1000000 in
theorem parts_9 (w : World) : Calls Tryd.prog 41 #[.int .i64 9] w fun e w' => e = .returned (.tuple #[.agg #[.bool false, .bool false, .bool true, .bool true, .bool false, .bool false, .bool false], .bool true]) ∧ Upd [] w w' := by
  go_enter Tryd.func41, Tryd.ntmps41
  go_upto_block 0 with fail
  refine blk1 (fun Q0 h0 => ?_)
  refine blk_seq (fun Q15 h15 => ?_)
  refine blk_seq (fun Q14 h14 => ?_)
  refine blk_seq (fun Q13 h13 => ?_)
  refine blk_seq (fun Q12 h12 => ?_)
  refine blk_seq (fun Q11 h11 => ?_)
  refine blk_seq (fun Q10 h10 => ?_)
  refine blk_seq (fun Q9 h9 => ?_)
  refine blk_seq (fun Q8 h8 => ?_)
  refine blk_seq (fun Q7 h7 => ?_)
  refine blk_seq (fun Q6 h6 => ?_)
  refine blk_seq (fun Q5 h5 => ?_)
  refine blk_seq (fun Q4 h4 => ?_)
  refine blk_seq (fun Q3 h3 => ?_)
  refine blk_seq (fun Q2 h2 => ?_)
  refine blk_seq (fun Q1 h1 => ?_)
  go_wp2_with fail
  repeat ((first | (with_reducible refine h1.out _ _ _ ?_) | (with_reducible refine h2.out _ _ _ ?_) | (with_reducible refine h3.out _ _ _ ?_) | (with_reducible refine h4.out _ _ _ ?_) | (with_reducible refine h5.out _ _ _ ?_) | (with_reducible refine h6.out _ _ _ ?_) | (with_reducible refine h7.out _ _ _ ?_) | (with_reducible refine h8.out _ _ _ ?_) | (with_reducible refine h9.out _ _ _ ?_) | (with_reducible refine h10.out _ _ _ ?_) | (with_reducible refine h11.out _ _ _ ?_) | (with_reducible refine h12.out _ _ _ ?_) | (with_reducible refine h13.out _ _ _ ?_) | (with_reducible refine h14.out _ _ _ ?_) | (with_reducible refine h15.out _ _ _ ?_) | (with_reducible refine h0.out _ _ _ ?_)); (try simp only [Exit.inBlock, Exit.then, Nat.reduceEqDiff, if_true, if_false, ite_true, ite_false, reduceCtorEq]); (try go_wp2_with fail))
  exact bodyPost_ret (v := .tuple #[.agg #[.bool false, .bool false, .bool true, .bool true, .bool false, .bool false, .bool false], .bool true]) (by simp [results, Tryd.results41, go_sem]) rfl ⟨rfl, ((Upd.refl [] w).alloc _).alloc _⟩
set_option maxHeartbeats 1000000 in
theorem parts_10 (w : World) : Calls Tryd.prog 41 #[.int .i64 10] w fun e w' => e = .returned (.tuple #[.agg #[.bool false, .bool false, .bool true, .bool true, .bool true, .bool false, .bool false], .bool true]) ∧ Upd [] w w' := by
  go_enter Tryd.func41, Tryd.ntmps41
  go_upto_block 0 with fail
  refine blk1 (fun Q0 h0 => ?_)
  refine blk_seq (fun Q15 h15 => ?_)
  refine blk_seq (fun Q14 h14 => ?_)
  refine blk_seq (fun Q13 h13 => ?_)
  refine blk_seq (fun Q12 h12 => ?_)
  refine blk_seq (fun Q11 h11 => ?_)
  refine blk_seq (fun Q10 h10 => ?_)
  refine blk_seq (fun Q9 h9 => ?_)
  refine blk_seq (fun Q8 h8 => ?_)
  refine blk_seq (fun Q7 h7 => ?_)
  refine blk_seq (fun Q6 h6 => ?_)
  refine blk_seq (fun Q5 h5 => ?_)
  refine blk_seq (fun Q4 h4 => ?_)
  refine blk_seq (fun Q3 h3 => ?_)
  refine blk_seq (fun Q2 h2 => ?_)
  refine blk_seq (fun Q1 h1 => ?_)
  go_wp2_with fail
  repeat ((first | (with_reducible refine h1.out _ _ _ ?_) | (with_reducible refine h2.out _ _ _ ?_) | (with_reducible refine h3.out _ _ _ ?_) | (with_reducible refine h4.out _ _ _ ?_) | (with_reducible refine h5.out _ _ _ ?_) | (with_reducible refine h6.out _ _ _ ?_) | (with_reducible refine h7.out _ _ _ ?_) | (with_reducible refine h8.out _ _ _ ?_) | (with_reducible refine h9.out _ _ _ ?_) | (with_reducible refine h10.out _ _ _ ?_) | (with_reducible refine h11.out _ _ _ ?_) | (with_reducible refine h12.out _ _ _ ?_) | (with_reducible refine h13.out _ _ _ ?_) | (with_reducible refine h14.out _ _ _ ?_) | (with_reducible refine h15.out _ _ _ ?_) | (with_reducible refine h0.out _ _ _ ?_)); (try simp only [Exit.inBlock, Exit.then, Nat.reduceEqDiff, if_true, if_false, ite_true, ite_false, reduceCtorEq]); (try go_wp2_with fail))
  exact bodyPost_ret (v := .tuple #[.agg #[.bool false, .bool false, .bool true, .bool true, .bool true, .bool false, .bool false], .bool true]) (by simp [results, Tryd.results41, go_sem]) rfl ⟨rfl, ((Upd.refl [] w).alloc _).alloc _⟩
set_option maxHeartbeats 1000000 in
theorem parts_11 (w : World) : Calls Tryd.prog 41 #[.int .i64 11] w fun e w' => e = .returned (.tuple #[.agg #[.bool false, .bool false, .bool false, .bool true, .bool true, .bool true, .bool true], .bool true]) ∧ Upd [] w w' := by
  go_enter Tryd.func41, Tryd.ntmps41
  go_upto_block 0 with fail
  refine blk1 (fun Q0 h0 => ?_)
  refine blk_seq (fun Q15 h15 => ?_)
  refine blk_seq (fun Q14 h14 => ?_)
  refine blk_seq (fun Q13 h13 => ?_)
  refine blk_seq (fun Q12 h12 => ?_)
  refine blk_seq (fun Q11 h11 => ?_)
  refine blk_seq (fun Q10 h10 => ?_)
  refine blk_seq (fun Q9 h9 => ?_)
  refine blk_seq (fun Q8 h8 => ?_)
  refine blk_seq (fun Q7 h7 => ?_)
  refine blk_seq (fun Q6 h6 => ?_)
  refine blk_seq (fun Q5 h5 => ?_)
  refine blk_seq (fun Q4 h4 => ?_)
  refine blk_seq (fun Q3 h3 => ?_)
  refine blk_seq (fun Q2 h2 => ?_)
  refine blk_seq (fun Q1 h1 => ?_)
  go_wp2_with fail
  repeat ((first | (with_reducible refine h1.out _ _ _ ?_) | (with_reducible refine h2.out _ _ _ ?_) | (with_reducible refine h3.out _ _ _ ?_) | (with_reducible refine h4.out _ _ _ ?_) | (with_reducible refine h5.out _ _ _ ?_) | (with_reducible refine h6.out _ _ _ ?_) | (with_reducible refine h7.out _ _ _ ?_) | (with_reducible refine h8.out _ _ _ ?_) | (with_reducible refine h9.out _ _ _ ?_) | (with_reducible refine h10.out _ _ _ ?_) | (with_reducible refine h11.out _ _ _ ?_) | (with_reducible refine h12.out _ _ _ ?_) | (with_reducible refine h13.out _ _ _ ?_) | (with_reducible refine h14.out _ _ _ ?_) | (with_reducible refine h15.out _ _ _ ?_) | (with_reducible refine h0.out _ _ _ ?_)); (try simp only [Exit.inBlock, Exit.then, Nat.reduceEqDiff, if_true, if_false, ite_true, ite_false, reduceCtorEq]); (try go_wp2_with fail))
  exact bodyPost_ret (v := .tuple #[.agg #[.bool false, .bool false, .bool false, .bool true, .bool true, .bool true, .bool true], .bool true]) (by simp [results, Tryd.results41, go_sem]) rfl ⟨rfl, ((Upd.refl [] w).alloc _).alloc _⟩
set_option maxHeartbeats 1000000 in
theorem parts_12 (w : World) : Calls Tryd.prog 41 #[.int .i64 12] w fun e w' => e = .returned (.tuple #[.agg #[.bool false, .bool false, .bool false, .bool true, .bool false, .bool true, .bool false], .bool true]) ∧ Upd [] w w' := by
  go_enter Tryd.func41, Tryd.ntmps41
  go_upto_block 0 with fail
  refine blk1 (fun Q0 h0 => ?_)
  refine blk_seq (fun Q15 h15 => ?_)
  refine blk_seq (fun Q14 h14 => ?_)
  refine blk_seq (fun Q13 h13 => ?_)
  refine blk_seq (fun Q12 h12 => ?_)
  refine blk_seq (fun Q11 h11 => ?_)
  refine blk_seq (fun Q10 h10 => ?_)
  refine blk_seq (fun Q9 h9 => ?_)
  refine blk_seq (fun Q8 h8 => ?_)
  refine blk_seq (fun Q7 h7 => ?_)
  refine blk_seq (fun Q6 h6 => ?_)
  refine blk_seq (fun Q5 h5 => ?_)
  refine blk_seq (fun Q4 h4 => ?_)
  refine blk_seq (fun Q3 h3 => ?_)
  refine blk_seq (fun Q2 h2 => ?_)
  refine blk_seq (fun Q1 h1 => ?_)
  go_wp2_with fail
  repeat ((first | (with_reducible refine h1.out _ _ _ ?_) | (with_reducible refine h2.out _ _ _ ?_) | (with_reducible refine h3.out _ _ _ ?_) | (with_reducible refine h4.out _ _ _ ?_) | (with_reducible refine h5.out _ _ _ ?_) | (with_reducible refine h6.out _ _ _ ?_) | (with_reducible refine h7.out _ _ _ ?_) | (with_reducible refine h8.out _ _ _ ?_) | (with_reducible refine h9.out _ _ _ ?_) | (with_reducible refine h10.out _ _ _ ?_) | (with_reducible refine h11.out _ _ _ ?_) | (with_reducible refine h12.out _ _ _ ?_) | (with_reducible refine h13.out _ _ _ ?_) | (with_reducible refine h14.out _ _ _ ?_) | (with_reducible refine h15.out _ _ _ ?_) | (with_reducible refine h0.out _ _ _ ?_)); (try simp only [Exit.inBlock, Exit.then, Nat.reduceEqDiff, if_true, if_false, ite_true, ite_false, reduceCtorEq]); (try go_wp2_with fail))
  exact bodyPost_ret (v := .tuple #[.agg #[.bool false, .bool false, .bool false, .bool true, .bool false, .bool true, .bool false], .bool true]) (by simp [results, Tryd.results41, go_sem]) rfl ⟨rfl, ((Upd.refl [] w).alloc _).alloc _⟩
set_option maxHeartbeats 1000000 in
theorem parts_13 (w : World) : Calls Tryd.prog 41 #[.int .i64 13] w fun e w' => e = .returned (.tuple #[.agg #[.bool false, .bool false, .bool false, .bool false, .bool false, .bool true, .bool false], .bool true]) ∧ Upd [] w w' := by
  go_enter Tryd.func41, Tryd.ntmps41
  go_upto_block 0 with fail
  refine blk1 (fun Q0 h0 => ?_)
  refine blk_seq (fun Q15 h15 => ?_)
  refine blk_seq (fun Q14 h14 => ?_)
  refine blk_seq (fun Q13 h13 => ?_)
  refine blk_seq (fun Q12 h12 => ?_)
  refine blk_seq (fun Q11 h11 => ?_)
  refine blk_seq (fun Q10 h10 => ?_)
  refine blk_seq (fun Q9 h9 => ?_)
  refine blk_seq (fun Q8 h8 => ?_)
  refine blk_seq (fun Q7 h7 => ?_)
  refine blk_seq (fun Q6 h6 => ?_)
  refine blk_seq (fun Q5 h5 => ?_)
  refine blk_seq (fun Q4 h4 => ?_)
  refine blk_seq (fun Q3 h3 => ?_)
  refine blk_seq (fun Q2 h2 => ?_)
  refine blk_seq (fun Q1 h1 => ?_)
  go_wp2_with fail
  repeat ((first | (with_reducible refine h1.out _ _ _ ?_) | (with_reducible refine h2.out _ _ _ ?_) | (with_reducible refine h3.out _ _ _ ?_) | (with_reducible refine h4.out _ _ _ ?_) | (with_reducible refine h5.out _ _ _ ?_) | (with_reducible refine h6.out _ _ _ ?_) | (with_reducible refine h7.out _ _ _ ?_) | (with_reducible refine h8.out _ _ _ ?_) | (with_reducible refine h9.out _ _ _ ?_) | (with_reducible refine h10.out _ _ _ ?_) | (with_reducible refine h11.out _ _ _ ?_) | (with_reducible refine h12.out _ _ _ ?_) | (with_reducible refine h13.out _ _ _ ?_) | (with_reducible refine h14.out _ _ _ ?_) | (with_reducible refine h15.out _ _ _ ?_) | (with_reducible refine h0.out _ _ _ ?_)); (try simp only [Exit.inBlock, Exit.then, Nat.reduceEqDiff, if_true, if_false, ite_true, ite_false, reduceCtorEq]); (try go_wp2_with fail))
  exact bodyPost_ret (v := .tuple #[.agg #[.bool false, .bool false, .bool false, .bool false, .bool false, .bool true, .bool false], .bool true]) (by simp [results, Tryd.results41, go_sem]) rfl ⟨rfl, ((Upd.refl [] w).alloc _).alloc _⟩
set_option maxHeartbeats 1000000 in
theorem parts_14 (w : World) : Calls Tryd.prog 41 #[.int .i64 14] w fun e w' => e = .returned (.tuple #[.agg #[.bool false, .bool false, .bool false, .bool false, .bool false, .bool true, .bool true], .bool true]) ∧ Upd [] w w' := by
  go_enter Tryd.func41, Tryd.ntmps41
  go_upto_block 0 with fail
  refine blk1 (fun Q0 h0 => ?_)
  refine blk_seq (fun Q15 h15 => ?_)
  refine blk_seq (fun Q14 h14 => ?_)
  refine blk_seq (fun Q13 h13 => ?_)
  refine blk_seq (fun Q12 h12 => ?_)
  refine blk_seq (fun Q11 h11 => ?_)
  refine blk_seq (fun Q10 h10 => ?_)
  refine blk_seq (fun Q9 h9 => ?_)
  refine blk_seq (fun Q8 h8 => ?_)
  refine blk_seq (fun Q7 h7 => ?_)
  refine blk_seq (fun Q6 h6 => ?_)
  refine blk_seq (fun Q5 h5 => ?_)
  refine blk_seq (fun Q4 h4 => ?_)
  refine blk_seq (fun Q3 h3 => ?_)
  refine blk_seq (fun Q2 h2 => ?_)
  refine blk_seq (fun Q1 h1 => ?_)
  go_wp2_with fail
  repeat ((first | (with_reducible refine h1.out _ _ _ ?_) | (with_reducible refine h2.out _ _ _ ?_) | (with_reducible refine h3.out _ _ _ ?_) | (with_reducible refine h4.out _ _ _ ?_) | (with_reducible refine h5.out _ _ _ ?_) | (with_reducible refine h6.out _ _ _ ?_) | (with_reducible refine h7.out _ _ _ ?_) | (with_reducible refine h8.out _ _ _ ?_) | (with_reducible refine h9.out _ _ _ ?_) | (with_reducible refine h10.out _ _ _ ?_) | (with_reducible refine h11.out _ _ _ ?_) | (with_reducible refine h12.out _ _ _ ?_) | (with_reducible refine h13.out _ _ _ ?_) | (with_reducible refine h14.out _ _ _ ?_) | (with_reducible refine h15.out _ _ _ ?_) | (with_reducible refine h0.out _ _ _ ?_)); (try simp only [Exit.inBlock, Exit.then, Nat.reduceEqDiff, if_true, if_false, ite_true, ite_false, reduceCtorEq]); (try go_wp2_with fail))
  exact bodyPost_ret (v := .tuple #[.agg #[.bool false, .bool false, .bool false, .bool false, .bool false, .bool true, .bool true], .bool true]) (by simp [results, Tryd.results41, go_sem]) rfl ⟨rfl, ((Upd.refl [] w).alloc _).alloc _⟩
set_option maxHeartbeats 1000000 in
theorem parts_15 (w : World) : Calls Tryd.prog 41 #[.int .i64 15] w fun e w' => e = .returned (.tuple #[.agg #[.bool false, .bool false, .bool false, .bool false, .bool false, .bool false, .bool false], .bool true]) ∧ Upd [] w w' := by
  go_enter Tryd.func41, Tryd.ntmps41
  go_upto_block 0 with fail
  refine blk1 (fun Q0 h0 => ?_)
  refine blk_seq (fun Q15 h15 => ?_)
  refine blk_seq (fun Q14 h14 => ?_)
  refine blk_seq (fun Q13 h13 => ?_)
  refine blk_seq (fun Q12 h12 => ?_)
  refine blk_seq (fun Q11 h11 => ?_)
  refine blk_seq (fun Q10 h10 => ?_)
  refine blk_seq (fun Q9 h9 => ?_)
  refine blk_seq (fun Q8 h8 => ?_)
  refine blk_seq (fun Q7 h7 => ?_)
  refine blk_seq (fun Q6 h6 => ?_)
  refine blk_seq (fun Q5 h5 => ?_)
  refine blk_seq (fun Q4 h4 => ?_)
  refine blk_seq (fun Q3 h3 => ?_)
  refine blk_seq (fun Q2 h2 => ?_)
  refine blk_seq (fun Q1 h1 => ?_)
  go_wp2_with fail
  repeat ((first | (with_reducible refine h1.out _ _ _ ?_) | (with_reducible refine h2.out _ _ _ ?_) | (with_reducible refine h3.out _ _ _ ?_) | (with_reducible refine h4.out _ _ _ ?_) | (with_reducible refine h5.out _ _ _ ?_) | (with_reducible refine h6.out _ _ _ ?_) | (with_reducible refine h7.out _ _ _ ?_) | (with_reducible refine h8.out _ _ _ ?_) | (with_reducible refine h9.out _ _ _ ?_) | (with_reducible refine h10.out _ _ _ ?_) | (with_reducible refine h11.out _ _ _ ?_) | (with_reducible refine h12.out _ _ _ ?_) | (with_reducible refine h13.out _ _ _ ?_) | (with_reducible refine h14.out _ _ _ ?_) | (with_reducible refine h15.out _ _ _ ?_) | (with_reducible refine h0.out _ _ _ ?_)); (try simp only [Exit.inBlock, Exit.then, Nat.reduceEqDiff, if_true, if_false, ite_true, ite_false, reduceCtorEq]); (try go_wp2_with fail))
  exact bodyPost_ret (v := .tuple #[.agg #[.bool false, .bool false, .bool false, .bool false, .bool false, .bool false, .bool false], .bool true]) (by simp [results, Tryd.results41, go_sem]) rfl ⟨rfl, ((Upd.refl [] w).alloc _).alloc _⟩
set_option maxHeartbeats 1000000 in
theorem parts_16 (w : World) : Calls Tryd.prog 41 #[.int .i64 16] w fun e w' => e = .returned (.tuple #[.agg #[.bool false, .bool false, .bool false, .bool false, .bool false, .bool false, .bool false], .bool true]) ∧ Upd [] w w' := by
  go_enter Tryd.func41, Tryd.ntmps41
  go_upto_block 0 with fail
  refine blk1 (fun Q0 h0 => ?_)
  refine blk_seq (fun Q15 h15 => ?_)
  refine blk_seq (fun Q14 h14 => ?_)
  refine blk_seq (fun Q13 h13 => ?_)
  refine blk_seq (fun Q12 h12 => ?_)
  refine blk_seq (fun Q11 h11 => ?_)
  refine blk_seq (fun Q10 h10 => ?_)
  refine blk_seq (fun Q9 h9 => ?_)
  refine blk_seq (fun Q8 h8 => ?_)
  refine blk_seq (fun Q7 h7 => ?_)
  refine blk_seq (fun Q6 h6 => ?_)
  refine blk_seq (fun Q5 h5 => ?_)
  refine blk_seq (fun Q4 h4 => ?_)
  refine blk_seq (fun Q3 h3 => ?_)
  refine blk_seq (fun Q2 h2 => ?_)
  refine blk_seq (fun Q1 h1 => ?_)
  go_wp2_with fail
  repeat ((first | (with_reducible refine h1.out _ _ _ ?_) | (with_reducible refine h2.out _ _ _ ?_) | (with_reducible refine h3.out _ _ _ ?_) | (with_reducible refine h4.out _ _ _ ?_) | (with_reducible refine h5.out _ _ _ ?_) | (with_reducible refine h6.out _ _ _ ?_) | (with_reducible refine h7.out _ _ _ ?_) | (with_reducible refine h8.out _ _ _ ?_) | (with_reducible refine h9.out _ _ _ ?_) | (with_reducible refine h10.out _ _ _ ?_) | (with_reducible refine h11.out _ _ _ ?_) | (with_reducible refine h12.out _ _ _ ?_) | (with_reducible refine h13.out _ _ _ ?_) | (with_reducible refine h14.out _ _ _ ?_) | (with_reducible refine h15.out _ _ _ ?_) | (with_reducible refine h0.out _ _ _ ?_)); (try simp only [Exit.inBlock, Exit.then, Nat.reduceEqDiff, if_true, if_false, ite_true, ite_false, reduceCtorEq]); (try go_wp2_with fail))
  exact bodyPost_ret (v := .tuple #[.agg #[.bool false, .bool false, .bool false, .bool false, .bool false, .bool false, .bool false], .bool true]) (by simp [results, Tryd.results41, go_sem]) rfl ⟨rfl, ((Upd.refl [] w).alloc _).alloc _⟩
set_option maxHeartbeats 1000000 in
theorem parts_no (k : Int) (h1 : (k == 1) = false) (h2 : (k == 2) = false) (h3 : (k == 3) = false) (h4 : (k == 4) = false) (h5 : (k == 5) = false) (h6 : (k == 6) = false) (h7 : (k == 7) = false) (h8 : (k == 8) = false) (h9 : (k == 9) = false) (h10 : (k == 10) = false) (h11 : (k == 11) = false) (h12 : (k == 12) = false) (h13 : (k == 13) = false) (h14 : (k == 14) = false) (h15 : (k == 15) = false) (h16 : (k == 16) = false) (w : World) : Calls Tryd.prog 41 #[.int .i64 k] w fun e w' => e = .returned (.tuple #[.agg #[.bool false, .bool false, .bool false, .bool false, .bool false, .bool false, .bool false], .bool false]) ∧ Upd [] w w' := by
  go_enter Tryd.func41, Tryd.ntmps41
  go_upto_block 0 with fail
  refine blk1 (fun Q0 h0 => ?_)
  refine blk_seq (fun Q15 h15 => ?_)
  refine blk_seq (fun Q14 h14 => ?_)
  refine blk_seq (fun Q13 h13 => ?_)
  refine blk_seq (fun Q12 h12 => ?_)
  refine blk_seq (fun Q11 h11 => ?_)
  refine blk_seq (fun Q10 h10 => ?_)
  refine blk_seq (fun Q9 h9 => ?_)
  refine blk_seq (fun Q8 h8 => ?_)
  refine blk_seq (fun Q7 h7 => ?_)
  refine blk_seq (fun Q6 h6 => ?_)
  refine blk_seq (fun Q5 h5 => ?_)
  refine blk_seq (fun Q4 h4 => ?_)
  refine blk_seq (fun Q3 h3 => ?_)
  refine blk_seq (fun Q2 h2 => ?_)
  refine blk_seq (fun Q1 h1 => ?_)
  go_wp2_with fail
  repeat ((first | (with_reducible refine h1.out _ _ _ ?_) | (with_reducible refine h2.out _ _ _ ?_) | (with_reducible refine h3.out _ _ _ ?_) | (with_reducible refine h4.out _ _ _ ?_) | (with_reducible refine h5.out _ _ _ ?_) | (with_reducible refine h6.out _ _ _ ?_) | (with_reducible refine h7.out _ _ _ ?_) | (with_reducible refine h8.out _ _ _ ?_) | (with_reducible refine h9.out _ _ _ ?_) | (with_reducible refine h10.out _ _ _ ?_) | (with_reducible refine h11.out _ _ _ ?_) | (with_reducible refine h12.out _ _ _ ?_) | (with_reducible refine h13.out _ _ _ ?_) | (with_reducible refine h14.out _ _ _ ?_) | (with_reducible refine h15.out _ _ _ ?_) | (with_reducible refine h0.out _ _ _ ?_)); (try simp only [Exit.inBlock, Exit.then, Nat.reduceEqDiff, if_true, if_false, ite_true, ite_false, reduceCtorEq]); (try go_wp2_with fail))
  exact bodyPost_ret (v := .tuple #[.agg #[.bool false, .bool false, .bool false, .bool false, .bool false, .bool false, .bool false], .bool false]) (by simp [results, Tryd.results41, go_sem]) rfl ⟨rfl, ((Upd.refl [] w).alloc _).alloc _⟩
theorem parts_ok (k : Int) (w : World) : Calls Tryd.prog 41 #[.int .i64 k] w fun e w' => e = .returned (.tuple #[.agg #[.bool (pColl k), .bool (pOrd k), .bool (pReg k), .bool (pA k), .bool (pB k), .bool (pBody k), .bool (pElse k)], .bool (pIs k)]) ∧ Upd [] w w' := by
  by_cases h1 : k = 1
  · subst h1; exact parts_1 w
  by_cases h2 : k = 2
  · subst h2; exact parts_2 w
  by_cases h3 : k = 3
  · subst h3; exact parts_3 w
  by_cases h4 : k = 4
  · subst h4; exact parts_4 w
  by_cases h5 : k = 5
  · subst h5; exact parts_5 w
  by_cases h6 : k = 6
  · subst h6; exact parts_6 w
  by_cases h7 : k = 7
  · subst h7; exact parts_7 w
  by_cases h8 : k = 8
  · subst h8; exact parts_8 w
  by_cases h9 : k = 9
  · subst h9; exact parts_9 w
  by_cases h10 : k = 10
  · subst h10; exact parts_10 w
  by_cases h11 : k = 11
  · subst h11; exact parts_11 w
  by_cases h12 : k = 12
  · subst h12; exact parts_12 w
  by_cases h13 : k = 13
  · subst h13; exact parts_13 w
  by_cases h14 : k = 14
  · subst h14; exact parts_14 w
  by_cases h15 : k = 15
  · subst h15; exact parts_15 w
  by_cases h16 : k = 16
  · subst h16; exact parts_16 w
  have e : ∀ i : Int, ¬ k = i → (k == i) = false := fun i h => by simpa using h
  have hc : pColl k = false := by unfold pColl; simp; omega
  have ho : pOrd k = false := by unfold pOrd; simp; omega
  have hr : pReg k = false := by unfold pReg; simp; omega
  have ha : pA k = false := by unfold pA; simp; omega
  have hb : pB k = false := by unfold pB; simp; omega
  have hd : pBody k = false := by unfold pBody; simp; omega
  have he : pElse k = false := by unfold pElse; simp; omega
  have hi : pIs k = false := by unfold pIs; simp; omega
  rw [hc, ho, hr, ha, hb, hd, he, hi]
  exact parts_no k (e 1 h1) (e 2 h2) (e 3 h3) (e 4 h4) (e 5 h5) (e 6 h6) (e 7 h7) (e 8 h8) (e 9 h9) (e 10 h10) (e 11 h11) (e 12 h12) (e 13 h13) (e 14 h14) (e 15 h15) (e 16 h16) w
end Go.Proofs.YtblfklnnojhadaaDoor

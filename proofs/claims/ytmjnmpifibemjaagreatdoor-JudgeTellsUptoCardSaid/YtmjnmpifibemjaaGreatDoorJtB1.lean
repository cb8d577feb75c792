/-
 prog.partsOf: what a kind of statement has.
-/
import Derived.Test.YtmjnmpifibemjaaGreatDoorJtB0
import Derived.Deep.DeepCutAuto
import Derived.Deep.CutBlock
import Derived.LoadGo3
import Derived.Orders
import Derived.Tactics
import Derived.Laws.World
set_option linter.unusedVariables false
set_option linter.unusedSimpArgs false
set_option maxRecDepth 100000
set_option maxHeartbeats 16000000
namespace Go.Proofs.YtmjnmpifibemjaaGreatDoor
open Go.RowKit
theorem blk_seq {P:Program} {id:Nat} {c d:Code} {Q:Exit→Act→World→Prop} {a:Act} {w:World} (h:∀ Q':Exit→Act→World→Prop,Hid (∀ e a w,Exit.inBlock id (Exit.then (d.wp P Q) Q) e a w→Q' e a w)→c.wp P Q' a w):((Code.block id c).seq d).wp P Q a w :=
 wp_seq (wp_block (h _ (Zh fun _ _ _ h => h)))
theorem blk1 {P:Program} {id:Nat} {c:Code} {Q:Exit→Act→World→Prop} {a:Act} {w:World} (h:∀ Q':Exit→Act→World→Prop,Hid (∀ e a w,Exit.inBlock id Q e a w→Q' e a w)→c.wp P Q' a w):(Code.block id c).wp P Q a w :=
 wp_block (h _ (Zh fun _ _ _ h => h))
def pIs (k:Int):Bool:=decide (1≤k) && decide (k≤16)
def pColl (k:Int):Bool:=decide (1≤k) && decide (k≤8)
def pOrd (k:Int):Bool:=k == 6 || k == 7
def pReg (k:Int):Bool:=k == 1 || k == 4 || k == 5 || k == 6 || k == 7 || k == 9 || k == 10
def pA (k:Int):Bool:=k == 1 || k == 2 || k == 3 || k == 4 || k == 6 || k == 7 || k == 9 || k == 10 || k == 11 || k == 12
def pB (k:Int):Bool:=k == 2 || k == 7 || k == 10 || k == 11
def pBody (k:Int):Bool:=decide (11≤k) && decide (k≤14)
def pElse (k:Int):Bool:=k == 11 || k == 14
theorem parts_1 (w:World):Calls Tryz.prog 114 #[.int .i64 1] w fun e w' => e=.returned (.tuple #[.agg #[.bool true,.bool false,.bool true,.bool true,.bool false,.bool false,.bool false],.bool true])∧Upd [] w w':=by
 go_enter Tryz.func114,Tryz.ntmps114
 go_upto_block 0 with fail
 refine blk1 (fun Q0 h0 => ?_)
 refine blk_seq (fun Q15 h15 => ?_)
 refine blk_seq (fun Q14 h14 => ?_)
 refine blk_seq (fun Q13 h13 => ?_)
 refine blk_seq (fun Q12 h12 => ?_)
 refine blk_seq (fun Q11 h11 => ?_)
 refine blk_seq (fun Q10 h10 => ?_)
 refine blk_seq (fun Q9 h9 => ?_)
 refine blk_seq (fun Q8 h8 => ?_)
 refine blk_seq (fun Q7 h7 => ?_)
 refine blk_seq (fun Q6 h6 => ?_)
 refine blk_seq (fun Q5 h5 => ?_)
 refine blk_seq (fun Q4 h4 => ?_)
 refine blk_seq (fun Q3 h3 => ?_)
 refine blk_seq (fun Q2 h2 => ?_)
 refine blk_seq (fun Q1 h1 => ?_)
 go_wp2_with fail
 repeat ((first | (with_reducible refine h1.out _ _ _ ?_) | (with_reducible refine h2.out _ _ _ ?_) | (with_reducible refine h3.out _ _ _ ?_) | (with_reducible refine h4.out _ _ _ ?_) | (with_reducible refine h5.out _ _ _ ?_) | (with_reducible refine h6.out _ _ _ ?_) | (with_reducible refine h7.out _ _ _ ?_) | (with_reducible refine h8.out _ _ _ ?_) | (with_reducible refine h9.out _ _ _ ?_) | (with_reducible refine h10.out _ _ _ ?_) | (with_reducible refine h11.out _ _ _ ?_) | (with_reducible refine h12.out _ _ _ ?_) | (with_reducible refine h13.out _ _ _ ?_) | (with_reducible refine h14.out _ _ _ ?_) | (with_reducible refine h15.out _ _ _ ?_) | (with_reducible refine h0.out _ _ _ ?_)); (try simp only [Exit.inBlock,Exit.then,Nat.reduceEqDiff,if_true,if_false,ite_true,ite_false,reduceCtorEq]); (try go_wp2_with fail))
 exact bodyPost_ret (v:=.tuple #[.agg #[.bool true,.bool false,.bool true,.bool true,.bool false,.bool false,.bool false],.bool true]) (by simp [results,Tryz.results114,go_sem]) rfl ⟨rfl,((Upd.refl [] w).alloc _).alloc _⟩
theorem parts_2 (w:World):Calls Tryz.prog 114 #[.int .i64 2] w fun e w' => e=.returned (.tuple #[.agg #[.bool true,.bool false,.bool false,.bool true,.bool true,.bool false,.bool false],.bool true])∧Upd [] w w':=by
 go_enter Tryz.func114,Tryz.ntmps114
 go_upto_block 0 with fail
 refine blk1 (fun Q0 h0 => ?_)
 refine blk_seq (fun Q15 h15 => ?_)
 refine blk_seq (fun Q14 h14 => ?_)
 refine blk_seq (fun Q13 h13 => ?_)
 refine blk_seq (fun Q12 h12 => ?_)
 refine blk_seq (fun Q11 h11 => ?_)
 refine blk_seq (fun Q10 h10 => ?_)
 refine blk_seq (fun Q9 h9 => ?_)
 refine blk_seq (fun Q8 h8 => ?_)
 refine blk_seq (fun Q7 h7 => ?_)
 refine blk_seq (fun Q6 h6 => ?_)
 refine blk_seq (fun Q5 h5 => ?_)
 refine blk_seq (fun Q4 h4 => ?_)
 refine blk_seq (fun Q3 h3 => ?_)
 refine blk_seq (fun Q2 h2 => ?_)
 refine blk_seq (fun Q1 h1 => ?_)
 go_wp2_with fail
 repeat ((first | (with_reducible refine h1.out _ _ _ ?_) | (with_reducible refine h2.out _ _ _ ?_) | (with_reducible refine h3.out _ _ _ ?_) | (with_reducible refine h4.out _ _ _ ?_) | (with_reducible refine h5.out _ _ _ ?_) | (with_reducible refine h6.out _ _ _ ?_) | (with_reducible refine h7.out _ _ _ ?_) | (with_reducible refine h8.out _ _ _ ?_) | (with_reducible refine h9.out _ _ _ ?_) | (with_reducible refine h10.out _ _ _ ?_) | (with_reducible refine h11.out _ _ _ ?_) | (with_reducible refine h12.out _ _ _ ?_) | (with_reducible refine h13.out _ _ _ ?_) | (with_reducible refine h14.out _ _ _ ?_) | (with_reducible refine h15.out _ _ _ ?_) | (with_reducible refine h0.out _ _ _ ?_)); (try simp only [Exit.inBlock,Exit.then,Nat.reduceEqDiff,if_true,if_false,ite_true,ite_false,reduceCtorEq]); (try go_wp2_with fail))
 exact bodyPost_ret (v:=.tuple #[.agg #[.bool true,.bool false,.bool false,.bool true,.bool true,.bool false,.bool false],.bool true]) (by simp [results,Tryz.results114,go_sem]) rfl ⟨rfl,((Upd.refl [] w).alloc _).alloc _⟩
theorem parts_3 (w:World):Calls Tryz.prog 114 #[.int .i64 3] w fun e w' => e=.returned (.tuple #[.agg #[.bool true,.bool false,.bool false,.bool true,.bool false,.bool false,.bool false],.bool true])∧Upd [] w w':=by
 go_enter Tryz.func114,Tryz.ntmps114
 go_upto_block 0 with fail
 refine blk1 (fun Q0 h0 => ?_)
 refine blk_seq (fun Q15 h15 => ?_)
 refine blk_seq (fun Q14 h14 => ?_)
 refine blk_seq (fun Q13 h13 => ?_)
 refine blk_seq (fun Q12 h12 => ?_)
 refine blk_seq (fun Q11 h11 => ?_)
 refine blk_seq (fun Q10 h10 => ?_)
 refine blk_seq (fun Q9 h9 => ?_)
 refine blk_seq (fun Q8 h8 => ?_)
 refine blk_seq (fun Q7 h7 => ?_)
 refine blk_seq (fun Q6 h6 => ?_)
 refine blk_seq (fun Q5 h5 => ?_)
 refine blk_seq (fun Q4 h4 => ?_)
 refine blk_seq (fun Q3 h3 => ?_)
 refine blk_seq (fun Q2 h2 => ?_)
 refine blk_seq (fun Q1 h1 => ?_)
 go_wp2_with fail
 repeat ((first | (with_reducible refine h1.out _ _ _ ?_) | (with_reducible refine h2.out _ _ _ ?_) | (with_reducible refine h3.out _ _ _ ?_) | (with_reducible refine h4.out _ _ _ ?_) | (with_reducible refine h5.out _ _ _ ?_) | (with_reducible refine h6.out _ _ _ ?_) | (with_reducible refine h7.out _ _ _ ?_) | (with_reducible refine h8.out _ _ _ ?_) | (with_reducible refine h9.out _ _ _ ?_) | (with_reducible refine h10.out _ _ _ ?_) | (with_reducible refine h11.out _ _ _ ?_) | (with_reducible refine h12.out _ _ _ ?_) | (with_reducible refine h13.out _ _ _ ?_) | (with_reducible refine h14.out _ _ _ ?_) | (with_reducible refine h15.out _ _ _ ?_) | (with_reducible refine h0.out _ _ _ ?_)); (try simp only [Exit.inBlock,Exit.then,Nat.reduceEqDiff,if_true,if_false,ite_true,ite_false,reduceCtorEq]); (try go_wp2_with fail))
 exact bodyPost_ret (v:=.tuple #[.agg #[.bool true,.bool false,.bool false,.bool true,.bool false,.bool false,.bool false],.bool true]) (by simp [results,Tryz.results114,go_sem]) rfl ⟨rfl,((Upd.refl [] w).alloc _).alloc _⟩
theorem parts_4 (w:World):Calls Tryz.prog 114 #[.int .i64 4] w fun e w' => e=.returned (.tuple #[.agg #[.bool true,.bool false,.bool true,.bool true,.bool false,.bool false,.bool false],.bool true])∧Upd [] w w':=by
 go_enter Tryz.func114,Tryz.ntmps114
 go_upto_block 0 with fail
 refine blk1 (fun Q0 h0 => ?_)
 refine blk_seq (fun Q15 h15 => ?_)
 refine blk_seq (fun Q14 h14 => ?_)
 refine blk_seq (fun Q13 h13 => ?_)
 refine blk_seq (fun Q12 h12 => ?_)
 refine blk_seq (fun Q11 h11 => ?_)
 refine blk_seq (fun Q10 h10 => ?_)
 refine blk_seq (fun Q9 h9 => ?_)
 refine blk_seq (fun Q8 h8 => ?_)
 refine blk_seq (fun Q7 h7 => ?_)
 refine blk_seq (fun Q6 h6 => ?_)
 refine blk_seq (fun Q5 h5 => ?_)
 refine blk_seq (fun Q4 h4 => ?_)
 refine blk_seq (fun Q3 h3 => ?_)
 refine blk_seq (fun Q2 h2 => ?_)
 refine blk_seq (fun Q1 h1 => ?_)
 go_wp2_with fail
 repeat ((first | (with_reducible refine h1.out _ _ _ ?_) | (with_reducible refine h2.out _ _ _ ?_) | (with_reducible refine h3.out _ _ _ ?_) | (with_reducible refine h4.out _ _ _ ?_) | (with_reducible refine h5.out _ _ _ ?_) | (with_reducible refine h6.out _ _ _ ?_) | (with_reducible refine h7.out _ _ _ ?_) | (with_reducible refine h8.out _ _ _ ?_) | (with_reducible refine h9.out _ _ _ ?_) | (with_reducible refine h10.out _ _ _ ?_) | (with_reducible refine h11.out _ _ _ ?_) | (with_reducible refine h12.out _ _ _ ?_) | (with_reducible refine h13.out _ _ _ ?_) | (with_reducible refine h14.out _ _ _ ?_) | (with_reducible refine h15.out _ _ _ ?_) | (with_reducible refine h0.out _ _ _ ?_)); (try simp only [Exit.inBlock,Exit.then,Nat.reduceEqDiff,if_true,if_false,ite_true,ite_false,reduceCtorEq]); (try go_wp2_with fail))
 exact bodyPost_ret (v:=.tuple #[.agg #[.bool true,.bool false,.bool true,.bool true,.bool false,.bool false,.bool false],.bool true]) (by simp [results,Tryz.results114,go_sem]) rfl ⟨rfl,((Upd.refl [] w).alloc _).alloc _⟩
theorem parts_5 (w:World):Calls Tryz.prog 114 #[.int .i64 5] w fun e w' => e=.returned (.tuple #[.agg #[.bool true,.bool false,.bool true,.bool false,.bool false,.bool false,.bool false],.bool true])∧Upd [] w w':=by
 go_enter Tryz.func114,Tryz.ntmps114
 go_upto_block 0 with fail
 refine blk1 (fun Q0 h0 => ?_)
 refine blk_seq (fun Q15 h15 => ?_)
 refine blk_seq (fun Q14 h14 => ?_)
 refine blk_seq (fun Q13 h13 => ?_)
 refine blk_seq (fun Q12 h12 => ?_)
 refine blk_seq (fun Q11 h11 => ?_)
 refine blk_seq (fun Q10 h10 => ?_)
 refine blk_seq (fun Q9 h9 => ?_)
 refine blk_seq (fun Q8 h8 => ?_)
 refine blk_seq (fun Q7 h7 => ?_)
 refine blk_seq (fun Q6 h6 => ?_)
 refine blk_seq (fun Q5 h5 => ?_)
 refine blk_seq (fun Q4 h4 => ?_)
 refine blk_seq (fun Q3 h3 => ?_)
 refine blk_seq (fun Q2 h2 => ?_)
 refine blk_seq (fun Q1 h1 => ?_)
 go_wp2_with fail
 repeat ((first | (with_reducible refine h1.out _ _ _ ?_) | (with_reducible refine h2.out _ _ _ ?_) | (with_reducible refine h3.out _ _ _ ?_) | (with_reducible refine h4.out _ _ _ ?_) | (with_reducible refine h5.out _ _ _ ?_) | (with_reducible refine h6.out _ _ _ ?_) | (with_reducible refine h7.out _ _ _ ?_) | (with_reducible refine h8.out _ _ _ ?_) | (with_reducible refine h9.out _ _ _ ?_) | (with_reducible refine h10.out _ _ _ ?_) | (with_reducible refine h11.out _ _ _ ?_) | (with_reducible refine h12.out _ _ _ ?_) | (with_reducible refine h13.out _ _ _ ?_) | (with_reducible refine h14.out _ _ _ ?_) | (with_reducible refine h15.out _ _ _ ?_) | (with_reducible refine h0.out _ _ _ ?_)); (try simp only [Exit.inBlock,Exit.then,Nat.reduceEqDiff,if_true,if_false,ite_true,ite_false,reduceCtorEq]); (try go_wp2_with fail))
 exact bodyPost_ret (v:=.tuple #[.agg #[.bool true,.bool false,.bool true,.bool false,.bool false,.bool false,.bool false],.bool true]) (by simp [results,Tryz.results114,go_sem]) rfl ⟨rfl,((Upd.refl [] w).alloc _).alloc _⟩
theorem parts_6 (w:World):Calls Tryz.prog 114 #[.int .i64 6] w fun e w' => e=.returned (.tuple #[.agg #[.bool true,.bool true,.bool true,.bool true,.bool false,.bool false,.bool false],.bool true])∧Upd [] w w':=by
 go_enter Tryz.func114,Tryz.ntmps114
 go_upto_block 0 with fail
 refine blk1 (fun Q0 h0 => ?_)
 refine blk_seq (fun Q15 h15 => ?_)
 refine blk_seq (fun Q14 h14 => ?_)
 refine blk_seq (fun Q13 h13 => ?_)
 refine blk_seq (fun Q12 h12 => ?_)
 refine blk_seq (fun Q11 h11 => ?_)
 refine blk_seq (fun Q10 h10 => ?_)
 refine blk_seq (fun Q9 h9 => ?_)
 refine blk_seq (fun Q8 h8 => ?_)
 refine blk_seq (fun Q7 h7 => ?_)
 refine blk_seq (fun Q6 h6 => ?_)
 refine blk_seq (fun Q5 h5 => ?_)
 refine blk_seq (fun Q4 h4 => ?_)
 refine blk_seq (fun Q3 h3 => ?_)
 refine blk_seq (fun Q2 h2 => ?_)
 refine blk_seq (fun Q1 h1 => ?_)
 go_wp2_with fail
 repeat ((first | (with_reducible refine h1.out _ _ _ ?_) | (with_reducible refine h2.out _ _ _ ?_) | (with_reducible refine h3.out _ _ _ ?_) | (with_reducible refine h4.out _ _ _ ?_) | (with_reducible refine h5.out _ _ _ ?_) | (with_reducible refine h6.out _ _ _ ?_) | (with_reducible refine h7.out _ _ _ ?_) | (with_reducible refine h8.out _ _ _ ?_) | (with_reducible refine h9.out _ _ _ ?_) | (with_reducible refine h10.out _ _ _ ?_) | (with_reducible refine h11.out _ _ _ ?_) | (with_reducible refine h12.out _ _ _ ?_) | (with_reducible refine h13.out _ _ _ ?_) | (with_reducible refine h14.out _ _ _ ?_) | (with_reducible refine h15.out _ _ _ ?_) | (with_reducible refine h0.out _ _ _ ?_)); (try simp only [Exit.inBlock,Exit.then,Nat.reduceEqDiff,if_true,if_false,ite_true,ite_false,reduceCtorEq]); (try go_wp2_with fail))
 exact bodyPost_ret (v:=.tuple #[.agg #[.bool true,.bool true,.bool true,.bool true,.bool false,.bool false,.bool false],.bool true]) (by simp [results,Tryz.results114,go_sem]) rfl ⟨rfl,((Upd.refl [] w).alloc _).alloc _⟩
theorem parts_7 (w:World):Calls Tryz.prog 114 #[.int .i64 7] w fun e w' => e=.returned (.tuple #[.agg #[.bool true,.bool true,.bool true,.bool true,.bool true,.bool false,.bool false],.bool true])∧Upd [] w w':=by
 go_enter Tryz.func114,Tryz.ntmps114
 go_upto_block 0 with fail
 refine blk1 (fun Q0 h0 => ?_)
 refine blk_seq (fun Q15 h15 => ?_)
 refine blk_seq (fun Q14 h14 => ?_)
 refine blk_seq (fun Q13 h13 => ?_)
 refine blk_seq (fun Q12 h12 => ?_)
 refine blk_seq (fun Q11 h11 => ?_)
 refine blk_seq (fun Q10 h10 => ?_)
 refine blk_seq (fun Q9 h9 => ?_)
 refine blk_seq (fun Q8 h8 => ?_)
 refine blk_seq (fun Q7 h7 => ?_)
 refine blk_seq (fun Q6 h6 => ?_)
 refine blk_seq (fun Q5 h5 => ?_)
 refine blk_seq (fun Q4 h4 => ?_)
 refine blk_seq (fun Q3 h3 => ?_)
 refine blk_seq (fun Q2 h2 => ?_)
 refine blk_seq (fun Q1 h1 => ?_)
 go_wp2_with fail
 repeat ((first | (with_reducible refine h1.out _ _ _ ?_) | (with_reducible refine h2.out _ _ _ ?_) | (with_reducible refine h3.out _ _ _ ?_) | (with_reducible refine h4.out _ _ _ ?_) | (with_reducible refine h5.out _ _ _ ?_) | (with_reducible refine h6.out _ _ _ ?_) | (with_reducible refine h7.out _ _ _ ?_) | (with_reducible refine h8.out _ _ _ ?_) | (with_reducible refine h9.out _ _ _ ?_) | (with_reducible refine h10.out _ _ _ ?_) | (with_reducible refine h11.out _ _ _ ?_) | (with_reducible refine h12.out _ _ _ ?_) | (with_reducible refine h13.out _ _ _ ?_) | (with_reducible refine h14.out _ _ _ ?_) | (with_reducible refine h15.out _ _ _ ?_) | (with_reducible refine h0.out _ _ _ ?_)); (try simp only [Exit.inBlock,Exit.then,Nat.reduceEqDiff,if_true,if_false,ite_true,ite_false,reduceCtorEq]); (try go_wp2_with fail))
 exact bodyPost_ret (v:=.tuple #[.agg #[.bool true,.bool true,.bool true,.bool true,.bool true,.bool false,.bool false],.bool true]) (by simp [results,Tryz.results114,go_sem]) rfl ⟨rfl,((Upd.refl [] w).alloc _).alloc _⟩
theorem parts_8 (w:World):Calls Tryz.prog 114 #[.int .i64 8] w fun e w' => e=.returned (.tuple #[.agg #[.bool true,.bool false,.bool false,.bool false,.bool false,.bool false,.bool false],.bool true])∧Upd [] w w':=by
 go_enter Tryz.func114,Tryz.ntmps114
 go_upto_block 0 with fail
 refine blk1 (fun Q0 h0 => ?_)
 refine blk_seq (fun Q15 h15 => ?_)
 refine blk_seq (fun Q14 h14 => ?_)
 refine blk_seq (fun Q13 h13 => ?_)
 refine blk_seq (fun Q12 h12 => ?_)
 refine blk_seq (fun Q11 h11 => ?_)
 refine blk_seq (fun Q10 h10 => ?_)
 refine blk_seq (fun Q9 h9 => ?_)
 refine blk_seq (fun Q8 h8 => ?_)
 refine blk_seq (fun Q7 h7 => ?_)
 refine blk_seq (fun Q6 h6 => ?_)
 refine blk_seq (fun Q5 h5 => ?_)
 refine blk_seq (fun Q4 h4 => ?_)
 refine blk_seq (fun Q3 h3 => ?_)
 refine blk_seq (fun Q2 h2 => ?_)
 refine blk_seq (fun Q1 h1 => ?_)
 go_wp2_with fail
 repeat ((first | (with_reducible refine h1.out _ _ _ ?_) | (with_reducible refine h2.out _ _ _ ?_) | (with_reducible refine h3.out _ _ _ ?_) | (with_reducible refine h4.out _ _ _ ?_) | (with_reducible refine h5.out _ _ _ ?_) | (with_reducible refine h6.out _ _ _ ?_) | (with_reducible refine h7.out _ _ _ ?_) | (with_reducible refine h8.out _ _ _ ?_) | (with_reducible refine h9.out _ _ _ ?_) | (with_reducible refine h10.out _ _ _ ?_) | (with_reducible refine h11.out _ _ _ ?_) | (with_reducible refine h12.out _ _ _ ?_) | (with_reducible refine h13.out _ _ _ ?_) | (with_reducible refine h14.out _ _ _ ?_) | (with_reducible refine h15.out _ _ _ ?_) | (with_reducible refine h0.out _ _ _ ?_)); (try simp only [Exit.inBlock,Exit.then,Nat.reduceEqDiff,if_true,if_false,ite_true,ite_false,reduceCtorEq]); (try go_wp2_with fail))
 exact bodyPost_ret (v:=.tuple #[.agg #[.bool true,.bool false,.bool false,.bool false,.bool false,.bool false,.bool false],.bool true]) (by simp [results,Tryz.results114,go_sem]) rfl ⟨rfl,((Upd.refl [] w).alloc _).alloc _⟩
theorem parts_9 (w:World):Calls Tryz.prog 114 #[.int .i64 9] w fun e w' => e=.returned (.tuple #[.agg #[.bool false,.bool false,.bool true,.bool true,.bool false,.bool false,.bool false],.bool true])∧Upd [] w w':=by
 go_enter Tryz.func114,Tryz.ntmps114
 go_upto_block 0 with fail
 refine blk1 (fun Q0 h0 => ?_)
 refine blk_seq (fun Q15 h15 => ?_)
 refine blk_seq (fun Q14 h14 => ?_)
 refine blk_seq (fun Q13 h13 => ?_)
 refine blk_seq (fun Q12 h12 => ?_)
 refine blk_seq (fun Q11 h11 => ?_)
 refine blk_seq (fun Q10 h10 => ?_)
 refine blk_seq (fun Q9 h9 => ?_)
 refine blk_seq (fun Q8 h8 => ?_)
 refine blk_seq (fun Q7 h7 => ?_)
 refine blk_seq (fun Q6 h6 => ?_)
 refine blk_seq (fun Q5 h5 => ?_)
 refine blk_seq (fun Q4 h4 => ?_)
 refine blk_seq (fun Q3 h3 => ?_)
 refine blk_seq (fun Q2 h2 => ?_)
 refine blk_seq (fun Q1 h1 => ?_)
 go_wp2_with fail
 repeat ((first | (with_reducible refine h1.out _ _ _ ?_) | (with_reducible refine h2.out _ _ _ ?_) | (with_reducible refine h3.out _ _ _ ?_) | (with_reducible refine h4.out _ _ _ ?_) | (with_reducible refine h5.out _ _ _ ?_) | (with_reducible refine h6.out _ _ _ ?_) | (with_reducible refine h7.out _ _ _ ?_) | (with_reducible refine h8.out _ _ _ ?_) | (with_reducible refine h9.out _ _ _ ?_) | (with_reducible refine h10.out _ _ _ ?_) | (with_reducible refine h11.out _ _ _ ?_) | (with_reducible refine h12.out _ _ _ ?_) | (with_reducible refine h13.out _ _ _ ?_) | (with_reducible refine h14.out _ _ _ ?_) | (with_reducible refine h15.out _ _ _ ?_) | (with_reducible refine h0.out _ _ _ ?_)); (try simp only [Exit.inBlock,Exit.then,Nat.reduceEqDiff,if_true,if_false,ite_true,ite_false,reduceCtorEq]); (try go_wp2_with fail))
 exact bodyPost_ret (v:=.tuple #[.agg #[.bool false,.bool false,.bool true,.bool true,.bool false,.bool false,.bool false],.bool true]) (by simp [results,Tryz.results114,go_sem]) rfl ⟨rfl,((Upd.refl [] w).alloc _).alloc _⟩
theorem parts_10 (w:World):Calls Tryz.prog 114 #[.int .i64 10] w fun e w' => e=.returned (.tuple #[.agg #[.bool false,.bool false,.bool true,.bool true,.bool true,.bool false,.bool false],.bool true])∧Upd [] w w':=by
 go_enter Tryz.func114,Tryz.ntmps114
 go_upto_block 0 with fail
 refine blk1 (fun Q0 h0 => ?_)
 refine blk_seq (fun Q15 h15 => ?_)
 refine blk_seq (fun Q14 h14 => ?_)
 refine blk_seq (fun Q13 h13 => ?_)
 refine blk_seq (fun Q12 h12 => ?_)
 refine blk_seq (fun Q11 h11 => ?_)
 refine blk_seq (fun Q10 h10 => ?_)
 refine blk_seq (fun Q9 h9 => ?_)
 refine blk_seq (fun Q8 h8 => ?_)
 refine blk_seq (fun Q7 h7 => ?_)
 refine blk_seq (fun Q6 h6 => ?_)
 refine blk_seq (fun Q5 h5 => ?_)
 refine blk_seq (fun Q4 h4 => ?_)
 refine blk_seq (fun Q3 h3 => ?_)
 refine blk_seq (fun Q2 h2 => ?_)
 refine blk_seq (fun Q1 h1 => ?_)
 go_wp2_with fail
 repeat ((first | (with_reducible refine h1.out _ _ _ ?_) | (with_reducible refine h2.out _ _ _ ?_) | (with_reducible refine h3.out _ _ _ ?_) | (with_reducible refine h4.out _ _ _ ?_) | (with_reducible refine h5.out _ _ _ ?_) | (with_reducible refine h6.out _ _ _ ?_) | (with_reducible refine h7.out _ _ _ ?_) | (with_reducible refine h8.out _ _ _ ?_) | (with_reducible refine h9.out _ _ _ ?_) | (with_reducible refine h10.out _ _ _ ?_) | (with_reducible refine h11.out _ _ _ ?_) | (with_reducible refine h12.out _ _ _ ?_) | (with_reducible refine h13.out _ _ _ ?_) | (with_reducible refine h14.out _ _ _ ?_) | (with_reducible refine h15.out _ _ _ ?_) | (with_reducible refine h0.out _ _ _ ?_)); (try simp only [Exit.inBlock,Exit.then,Nat.reduceEqDiff,if_true,if_false,ite_true,ite_false,reduceCtorEq]); (try go_wp2_with fail))
 exact bodyPost_ret (v:=.tuple #[.agg #[.bool false,.bool false,.bool true,.bool true,.bool true,.bool false,.bool false],.bool true]) (by simp [results,Tryz.results114,go_sem]) rfl ⟨rfl,((Upd.refl [] w).alloc _).alloc _⟩
theorem parts_11 (w:World):Calls Tryz.prog 114 #[.int .i64 11] w fun e w' => e=.returned (.tuple #[.agg #[.bool false,.bool false,.bool false,.bool true,.bool true,.bool true,.bool true],.bool true])∧Upd [] w w':=by
 go_enter Tryz.func114,Tryz.ntmps114
 go_upto_block 0 with fail
 refine blk1 (fun Q0 h0 => ?_)
 refine blk_seq (fun Q15 h15 => ?_)
 refine blk_seq (fun Q14 h14 => ?_)
 refine blk_seq (fun Q13 h13 => ?_)
 refine blk_seq (fun Q12 h12 => ?_)
 refine blk_seq (fun Q11 h11 => ?_)
 refine blk_seq (fun Q10 h10 => ?_)
 refine blk_seq (fun Q9 h9 => ?_)
 refine blk_seq (fun Q8 h8 => ?_)
 refine blk_seq (fun Q7 h7 => ?_)
 refine blk_seq (fun Q6 h6 => ?_)
 refine blk_seq (fun Q5 h5 => ?_)
 refine blk_seq (fun Q4 h4 => ?_)
 refine blk_seq (fun Q3 h3 => ?_)
 refine blk_seq (fun Q2 h2 => ?_)
 refine blk_seq (fun Q1 h1 => ?_)
 go_wp2_with fail
 repeat ((first | (with_reducible refine h1.out _ _ _ ?_) | (with_reducible refine h2.out _ _ _ ?_) | (with_reducible refine h3.out _ _ _ ?_) | (with_reducible refine h4.out _ _ _ ?_) | (with_reducible refine h5.out _ _ _ ?_) | (with_reducible refine h6.out _ _ _ ?_) | (with_reducible refine h7.out _ _ _ ?_) | (with_reducible refine h8.out _ _ _ ?_) | (with_reducible refine h9.out _ _ _ ?_) | (with_reducible refine h10.out _ _ _ ?_) | (with_reducible refine h11.out _ _ _ ?_) | (with_reducible refine h12.out _ _ _ ?_) | (with_reducible refine h13.out _ _ _ ?_) | (with_reducible refine h14.out _ _ _ ?_) | (with_reducible refine h15.out _ _ _ ?_) | (with_reducible refine h0.out _ _ _ ?_)); (try simp only [Exit.inBlock,Exit.then,Nat.reduceEqDiff,if_true,if_false,ite_true,ite_false,reduceCtorEq]); (try go_wp2_with fail))
 exact bodyPost_ret (v:=.tuple #[.agg #[.bool false,.bool false,.bool false,.bool true,.bool true,.bool true,.bool true],.bool true]) (by simp [results,Tryz.results114,go_sem]) rfl ⟨rfl,((Upd.refl [] w).alloc _).alloc _⟩
theorem parts_12 (w:World):Calls Tryz.prog 114 #[.int .i64 12] w fun e w' => e=.returned (.tuple #[.agg #[.bool false,.bool false,.bool false,.bool true,.bool false,.bool true,.bool false],.bool true])∧Upd [] w w':=by
 go_enter Tryz.func114,Tryz.ntmps114
 go_upto_block 0 with fail
 refine blk1 (fun Q0 h0 => ?_)
 refine blk_seq (fun Q15 h15 => ?_)
 refine blk_seq (fun Q14 h14 => ?_)
 refine blk_seq (fun Q13 h13 => ?_)
 refine blk_seq (fun Q12 h12 => ?_)
 refine blk_seq (fun Q11 h11 => ?_)
 refine blk_seq (fun Q10 h10 => ?_)
 refine blk_seq (fun Q9 h9 => ?_)
 refine blk_seq (fun Q8 h8 => ?_)
 refine blk_seq (fun Q7 h7 => ?_)
 refine blk_seq (fun Q6 h6 => ?_)
 refine blk_seq (fun Q5 h5 => ?_)
 refine blk_seq (fun Q4 h4 => ?_)
 refine blk_seq (fun Q3 h3 => ?_)
 refine blk_seq (fun Q2 h2 => ?_)
 refine blk_seq (fun Q1 h1 => ?_)
 go_wp2_with fail
 repeat ((first | (with_reducible refine h1.out _ _ _ ?_) | (with_reducible refine h2.out _ _ _ ?_) | (with_reducible refine h3.out _ _ _ ?_) | (with_reducible refine h4.out _ _ _ ?_) | (with_reducible refine h5.out _ _ _ ?_) | (with_reducible refine h6.out _ _ _ ?_) | (with_reducible refine h7.out _ _ _ ?_) | (with_reducible refine h8.out _ _ _ ?_) | (with_reducible refine h9.out _ _ _ ?_) | (with_reducible refine h10.out _ _ _ ?_) | (with_reducible refine h11.out _ _ _ ?_) | (with_reducible refine h12.out _ _ _ ?_) | (with_reducible refine h13.out _ _ _ ?_) | (with_reducible refine h14.out _ _ _ ?_) | (with_reducible refine h15.out _ _ _ ?_) | (with_reducible refine h0.out _ _ _ ?_)); (try simp only [Exit.inBlock,Exit.then,Nat.reduceEqDiff,if_true,if_false,ite_true,ite_false,reduceCtorEq]); (try go_wp2_with fail))
 exact bodyPost_ret (v:=.tuple #[.agg #[.bool false,.bool false,.bool false,.bool true,.bool false,.bool true,.bool false],.bool true]) (by simp [results,Tryz.results114,go_sem]) rfl ⟨rfl,((Upd.refl [] w).alloc _).alloc _⟩
theorem parts_13 (w:World):Calls Tryz.prog 114 #[.int .i64 13] w fun e w' => e=.returned (.tuple #[.agg #[.bool false,.bool false,.bool false,.bool false,.bool false,.bool true,.bool false],.bool true])∧Upd [] w w':=by
 go_enter Tryz.func114,Tryz.ntmps114
 go_upto_block 0 with fail
 refine blk1 (fun Q0 h0 => ?_)
 refine blk_seq (fun Q15 h15 => ?_)
 refine blk_seq (fun Q14 h14 => ?_)
 refine blk_seq (fun Q13 h13 => ?_)
 refine blk_seq (fun Q12 h12 => ?_)
 refine blk_seq (fun Q11 h11 => ?_)
 refine blk_seq (fun Q10 h10 => ?_)
 refine blk_seq (fun Q9 h9 => ?_)
 refine blk_seq (fun Q8 h8 => ?_)
 refine blk_seq (fun Q7 h7 => ?_)
 refine blk_seq (fun Q6 h6 => ?_)
 refine blk_seq (fun Q5 h5 => ?_)
 refine blk_seq (fun Q4 h4 => ?_)
 refine blk_seq (fun Q3 h3 => ?_)
 refine blk_seq (fun Q2 h2 => ?_)
 refine blk_seq (fun Q1 h1 => ?_)
 go_wp2_with fail
 repeat ((first | (with_reducible refine h1.out _ _ _ ?_) | (with_reducible refine h2.out _ _ _ ?_) | (with_reducible refine h3.out _ _ _ ?_) | (with_reducible refine h4.out _ _ _ ?_) | (with_reducible refine h5.out _ _ _ ?_) | (with_reducible refine h6.out _ _ _ ?_) | (with_reducible refine h7.out _ _ _ ?_) | (with_reducible refine h8.out _ _ _ ?_) | (with_reducible refine h9.out _ _ _ ?_) | (with_reducible refine h10.out _ _ _ ?_) | (with_reducible refine h11.out _ _ _ ?_) | (with_reducible refine h12.out _ _ _ ?_) | (with_reducible refine h13.out _ _ _ ?_) | (with_reducible refine h14.out _ _ _ ?_) | (with_reducible refine h15.out _ _ _ ?_) | (with_reducible refine h0.out _ _ _ ?_)); (try simp only [Exit.inBlock,Exit.then,Nat.reduceEqDiff,if_true,if_false,ite_true,ite_false,reduceCtorEq]); (try go_wp2_with fail))
 exact bodyPost_ret (v:=.tuple #[.agg #[.bool false,.bool false,.bool false,.bool false,.bool false,.bool true,.bool false],.bool true]) (by simp [results,Tryz.results114,go_sem]) rfl ⟨rfl,((Upd.refl [] w).alloc _).alloc _⟩
theorem parts_14 (w:World):Calls Tryz.prog 114 #[.int .i64 14] w fun e w' => e=.returned (.tuple #[.agg #[.bool false,.bool false,.bool false,.bool false,.bool false,.bool true,.bool true],.bool true])∧Upd [] w w':=by
 go_enter Tryz.func114,Tryz.ntmps114
 go_upto_block 0 with fail
 refine blk1 (fun Q0 h0 => ?_)
 refine blk_seq (fun Q15 h15 => ?_)
 refine blk_seq (fun Q14 h14 => ?_)
 refine blk_seq (fun Q13 h13 => ?_)
 refine blk_seq (fun Q12 h12 => ?_)
 refine blk_seq (fun Q11 h11 => ?_)
 refine blk_seq (fun Q10 h10 => ?_)
 refine blk_seq (fun Q9 h9 => ?_)
 refine blk_seq (fun Q8 h8 => ?_)
 refine blk_seq (fun Q7 h7 => ?_)
 refine blk_seq (fun Q6 h6 => ?_)
 refine blk_seq (fun Q5 h5 => ?_)
 refine blk_seq (fun Q4 h4 => ?_)
 refine blk_seq (fun Q3 h3 => ?_)
 refine blk_seq (fun Q2 h2 => ?_)
 refine blk_seq (fun Q1 h1 => ?_)
 go_wp2_with fail
 repeat ((first | (with_reducible refine h1.out _ _ _ ?_) | (with_reducible refine h2.out _ _ _ ?_) | (with_reducible refine h3.out _ _ _ ?_) | (with_reducible refine h4.out _ _ _ ?_) | (with_reducible refine h5.out _ _ _ ?_) | (with_reducible refine h6.out _ _ _ ?_) | (with_reducible refine h7.out _ _ _ ?_) | (with_reducible refine h8.out _ _ _ ?_) | (with_reducible refine h9.out _ _ _ ?_) | (with_reducible refine h10.out _ _ _ ?_) | (with_reducible refine h11.out _ _ _ ?_) | (with_reducible refine h12.out _ _ _ ?_) | (with_reducible refine h13.out _ _ _ ?_) | (with_reducible refine h14.out _ _ _ ?_) | (with_reducible refine h15.out _ _ _ ?_) | (with_reducible refine h0.out _ _ _ ?_)); (try simp only [Exit.inBlock,Exit.then,Nat.reduceEqDiff,if_true,if_false,ite_true,ite_false,reduceCtorEq]); (try go_wp2_with fail))
 exact bodyPost_ret (v:=.tuple #[.agg #[.bool false,.bool false,.bool false,.bool false,.bool false,.bool true,.bool true],.bool true]) (by simp [results,Tryz.results114,go_sem]) rfl ⟨rfl,((Upd.refl [] w).alloc _).alloc _⟩
theorem parts_15 (w:World):Calls Tryz.prog 114 #[.int .i64 15] w fun e w' => e=.returned (.tuple #[.agg #[.bool false,.bool false,.bool false,.bool false,.bool false,.bool false,.bool false],.bool true])∧Upd [] w w':=by
 go_enter Tryz.func114,Tryz.ntmps114
 go_upto_block 0 with fail
 refine blk1 (fun Q0 h0 => ?_)
 refine blk_seq (fun Q15 h15 => ?_)
 refine blk_seq (fun Q14 h14 => ?_)
 refine blk_seq (fun Q13 h13 => ?_)
 refine blk_seq (fun Q12 h12 => ?_)
 refine blk_seq (fun Q11 h11 => ?_)
 refine blk_seq (fun Q10 h10 => ?_)
 refine blk_seq (fun Q9 h9 => ?_)
 refine blk_seq (fun Q8 h8 => ?_)
 refine blk_seq (fun Q7 h7 => ?_)
 refine blk_seq (fun Q6 h6 => ?_)
 refine blk_seq (fun Q5 h5 => ?_)
 refine blk_seq (fun Q4 h4 => ?_)
 refine blk_seq (fun Q3 h3 => ?_)
 refine blk_seq (fun Q2 h2 => ?_)
 refine blk_seq (fun Q1 h1 => ?_)
 go_wp2_with fail
 repeat ((first | (with_reducible refine h1.out _ _ _ ?_) | (with_reducible refine h2.out _ _ _ ?_) | (with_reducible refine h3.out _ _ _ ?_) | (with_reducible refine h4.out _ _ _ ?_) | (with_reducible refine h5.out _ _ _ ?_) | (with_reducible refine h6.out _ _ _ ?_) | (with_reducible refine h7.out _ _ _ ?_) | (with_reducible refine h8.out _ _ _ ?_) | (with_reducible refine h9.out _ _ _ ?_) | (with_reducible refine h10.out _ _ _ ?_) | (with_reducible refine h11.out _ _ _ ?_) | (with_reducible refine h12.out _ _ _ ?_) | (with_reducible refine h13.out _ _ _ ?_) | (with_reducible refine h14.out _ _ _ ?_) | (with_reducible refine h15.out _ _ _ ?_) | (with_reducible refine h0.out _ _ _ ?_)); (try simp only [Exit.inBlock,Exit.then,Nat.reduceEqDiff,if_true,if_false,ite_true,ite_false,reduceCtorEq]); (try go_wp2_with fail))
 exact bodyPost_ret (v:=.tuple #[.agg #[.bool false,.bool false,.bool false,.bool false,.bool false,.bool false,.bool false],.bool true]) (by simp [results,Tryz.results114,go_sem]) rfl ⟨rfl,((Upd.refl [] w).alloc _).alloc _⟩
theorem parts_16 (w:World):Calls Tryz.prog 114 #[.int .i64 16] w fun e w' => e=.returned (.tuple #[.agg #[.bool false,.bool false,.bool false,.bool false,.bool false,.bool false,.bool false],.bool true])∧Upd [] w w':=by
 go_enter Tryz.func114,Tryz.ntmps114
 go_upto_block 0 with fail
 refine blk1 (fun Q0 h0 => ?_)
 refine blk_seq (fun Q15 h15 => ?_)
 refine blk_seq (fun Q14 h14 => ?_)
 refine blk_seq (fun Q13 h13 => ?_)
 refine blk_seq (fun Q12 h12 => ?_)
 refine blk_seq (fun Q11 h11 => ?_)
 refine blk_seq (fun Q10 h10 => ?_)
 refine blk_seq (fun Q9 h9 => ?_)
 refine blk_seq (fun Q8 h8 => ?_)
 refine blk_seq (fun Q7 h7 => ?_)
 refine blk_seq (fun Q6 h6 => ?_)
 refine blk_seq (fun Q5 h5 => ?_)
 refine blk_seq (fun Q4 h4 => ?_)
 refine blk_seq (fun Q3 h3 => ?_)
 refine blk_seq (fun Q2 h2 => ?_)
 refine blk_seq (fun Q1 h1 => ?_)
 go_wp2_with fail
 repeat ((first | (with_reducible refine h1.out _ _ _ ?_) | (with_reducible refine h2.out _ _ _ ?_) | (with_reducible refine h3.out _ _ _ ?_) | (with_reducible refine h4.out _ _ _ ?_) | (with_reducible refine h5.out _ _ _ ?_) | (with_reducible refine h6.out _ _ _ ?_) | (with_reducible refine h7.out _ _ _ ?_) | (with_reducible refine h8.out _ _ _ ?_) | (with_reducible refine h9.out _ _ _ ?_) | (with_reducible refine h10.out _ _ _ ?_) | (with_reducible refine h11.out _ _ _ ?_) | (with_reducible refine h12.out _ _ _ ?_) | (with_reducible refine h13.out _ _ _ ?_) | (with_reducible refine h14.out _ _ _ ?_) | (with_reducible refine h15.out _ _ _ ?_) | (with_reducible refine h0.out _ _ _ ?_)); (try simp only [Exit.inBlock,Exit.then,Nat.reduceEqDiff,if_true,if_false,ite_true,ite_false,reduceCtorEq]); (try go_wp2_with fail))
 exact bodyPost_ret (v:=.tuple #[.agg #[.bool false,.bool false,.bool false,.bool false,.bool false,.bool false,.bool false],.bool true]) (by simp [results,Tryz.results114,go_sem]) rfl ⟨rfl,((Upd.refl [] w).alloc _).alloc _⟩
theorem parts_no (k:Int) (h1:(k == 1)=false) (h2:(k == 2)=false) (h3:(k == 3)=false) (h4:(k == 4)=false) (h5:(k == 5)=false) (h6:(k == 6)=false) (h7:(k == 7)=false) (h8:(k == 8)=false) (h9:(k == 9)=false) (h10:(k == 10)=false) (h11:(k == 11)=false) (h12:(k == 12)=false) (h13:(k == 13)=false) (h14:(k == 14)=false) (h15:(k == 15)=false) (h16:(k == 16)=false) (w:World):Calls Tryz.prog 114 #[.int .i64 k] w fun e w' => e=.returned (.tuple #[.agg #[.bool false,.bool false,.bool false,.bool false,.bool false,.bool false,.bool false],.bool false])∧Upd [] w w':=by
 go_enter Tryz.func114,Tryz.ntmps114
 go_upto_block 0 with fail
 refine blk1 (fun Q0 h0 => ?_)
 refine blk_seq (fun Q15 h15 => ?_)
 refine blk_seq (fun Q14 h14 => ?_)
 refine blk_seq (fun Q13 h13 => ?_)
 refine blk_seq (fun Q12 h12 => ?_)
 refine blk_seq (fun Q11 h11 => ?_)
 refine blk_seq (fun Q10 h10 => ?_)
 refine blk_seq (fun Q9 h9 => ?_)
 refine blk_seq (fun Q8 h8 => ?_)
 refine blk_seq (fun Q7 h7 => ?_)
 refine blk_seq (fun Q6 h6 => ?_)
 refine blk_seq (fun Q5 h5 => ?_)
 refine blk_seq (fun Q4 h4 => ?_)
 refine blk_seq (fun Q3 h3 => ?_)
 refine blk_seq (fun Q2 h2 => ?_)
 refine blk_seq (fun Q1 h1 => ?_)
 go_wp2_with fail
 repeat ((first | (with_reducible refine h1.out _ _ _ ?_) | (with_reducible refine h2.out _ _ _ ?_) | (with_reducible refine h3.out _ _ _ ?_) | (with_reducible refine h4.out _ _ _ ?_) | (with_reducible refine h5.out _ _ _ ?_) | (with_reducible refine h6.out _ _ _ ?_) | (with_reducible refine h7.out _ _ _ ?_) | (with_reducible refine h8.out _ _ _ ?_) | (with_reducible refine h9.out _ _ _ ?_) | (with_reducible refine h10.out _ _ _ ?_) | (with_reducible refine h11.out _ _ _ ?_) | (with_reducible refine h12.out _ _ _ ?_) | (with_reducible refine h13.out _ _ _ ?_) | (with_reducible refine h14.out _ _ _ ?_) | (with_reducible refine h15.out _ _ _ ?_) | (with_reducible refine h0.out _ _ _ ?_)); (try simp only [Exit.inBlock,Exit.then,Nat.reduceEqDiff,if_true,if_false,ite_true,ite_false,reduceCtorEq]); (try go_wp2_with fail))
 exact bodyPost_ret (v:=.tuple #[.agg #[.bool false,.bool false,.bool false,.bool false,.bool false,.bool false,.bool false],.bool false]) (by simp [results,Tryz.results114,go_sem]) rfl ⟨rfl,((Upd.refl [] w).alloc _).alloc _⟩
theorem parts_ok (k:Int) (w:World):Calls Tryz.prog 114 #[.int .i64 k] w fun e w' => e=.returned (.tuple #[.agg #[.bool (pColl k),.bool (pOrd k),.bool (pReg k),.bool (pA k),.bool (pB k),.bool (pBody k),.bool (pElse k)],.bool (pIs k)])∧Upd [] w w':=by
 by_cases h1:k=1
 ·subst h1; exact parts_1 w
 by_cases h2:k=2
 ·subst h2; exact parts_2 w
 by_cases h3:k=3
 ·subst h3; exact parts_3 w
 by_cases h4:k=4
 ·subst h4; exact parts_4 w
 by_cases h5:k=5
 ·subst h5; exact parts_5 w
 by_cases h6:k=6
 ·subst h6; exact parts_6 w
 by_cases h7:k=7
 ·subst h7; exact parts_7 w
 by_cases h8:k=8
 ·subst h8; exact parts_8 w
 by_cases h9:k=9
 ·subst h9; exact parts_9 w
 by_cases h10:k=10
 ·subst h10; exact parts_10 w
 by_cases h11:k=11
 ·subst h11; exact parts_11 w
 by_cases h12:k=12
 ·subst h12; exact parts_12 w
 by_cases h13:k=13
 ·subst h13; exact parts_13 w
 by_cases h14:k=14
 ·subst h14; exact parts_14 w
 by_cases h15:k=15
 ·subst h15; exact parts_15 w
 by_cases h16:k=16
 ·subst h16; exact parts_16 w
 have e:∀ i:Int,¬ k=i→(k == i)=false:=fun i h => by simpa using h
 have hc:pColl k=false:=by unfold pColl; simp; omega
 have ho:pOrd k=false:=by unfold pOrd; simp; omega
 have hr:pReg k=false:=by unfold pReg; simp; omega
 have ha:pA k=false:=by unfold pA; simp; omega
 have hb:pB k=false:=by unfold pB; simp; omega
 have hd:pBody k=false:=by unfold pBody; simp; omega
 have he:pElse k=false:=by unfold pElse; simp; omega
 have hi:pIs k=false:=by unfold pIs; simp; omega
 rw [hc,ho,hr,ha,hb,hd,he,hi]
 exact parts_no k (e 1 h1) (e 2 h2) (e 3 h3) (e 4 h4) (e 5 h5) (e 6 h6) (e 7 h7) (e 8 h8) (e 9 h9) (e 10 h10) (e 11 h11) (e 12 h12) (e 13 h13) (e 14 h14) (e 15 h15) (e 16 h16) w
end Go.Proofs.YtmjnmpifibemjaaGreatDoor
namespace Go.Proofs.YtmjnmpifibemjaaGreatDoor
open Go.RowKit
def argB (r n:Int) (there:Bool):Bool:=if there then decide (0≤r) && decide (r≤8) && decide (-999≤n) && decide (n≤999) else decide (r=0) && decide (n=0)
theorem arg_ok (r n:Int) (there:Bool) (w:World):Calls Tryz.prog 116 #[.agg #[.int .i64 r,.int .i64 n],.bool there] w fun e w' => e=.returned (.bool (argB r n there))∧Upd [] w w':=by
 cases there with
 | false =>
   have HR:Hid (argB r n false=(r == 0 && n == 0)):=Zh (by unfold argB; rw [Bool.eq_iff_iff]; simp)
   go_enter Tryz.func116,Tryz.ntmps116
   go_wp2_with fail
   all_goals
    go_ret
    exact ⟨by rw [HR.out]; simp [*],(Upd.refl [] w).alloc _⟩
 | true =>
   by_cases h1:0≤r
   ·by_cases h2:r≤8
    ·by_cases h3:-999≤n
     ·by_cases h4:n≤999
      ·have HR:Hid (argB r n true=true):=Zh (by unfold argB; simp [h1,h2,h3,h4])
       go_enter Tryz.func116,Tryz.ntmps116
       go_wp2_with fail
       go_ret
       rw [HR.out]
       exact ⟨rfl,(Upd.refl [] w).alloc _⟩
      ·have HR:Hid (argB r n true=false):=Zh (by unfold argB; simp [h4])
       have e4:decide (n≤999)=false:=by simpa using h4
       go_enter Tryz.func116,Tryz.ntmps116
       go_wp2_with fail
       go_ret
       rw [HR.out]
       exact ⟨rfl,(Upd.refl [] w).alloc _⟩
     ·have HR:Hid (argB r n true=false):=Zh (by unfold argB; simp [h3])
      have e3:decide (-999≤n)=false:=by simpa using h3
      go_enter Tryz.func116,Tryz.ntmps116
      go_wp2_with fail
      go_ret
      rw [HR.out]
      exact ⟨rfl,(Upd.refl [] w).alloc _⟩
    ·have HR:Hid (argB r n true=false):=Zh (by unfold argB; simp [h2])
     have e2:decide (r≤8)=false:=by simpa using h2
     go_enter Tryz.func116,Tryz.ntmps116
     go_wp2_with fail
     go_ret
     rw [HR.out]
     exact ⟨rfl,(Upd.refl [] w).alloc _⟩
   ·have HR:Hid (argB r n true=false):=Zh (by unfold argB; simp [h1])
    have e1:decide (0≤r)=false:=by simpa using h1
    go_enter Tryz.func116,Tryz.ntmps116
    go_wp2_with fail
    go_ret
    rw [HR.out]
    exact ⟨rfl,(Upd.refl [] w).alloc _⟩
def collB (c:Int) (pc po:Bool) (ks:List Int):Bool:=if pc then decide (0≤c) && decide (c < ks.length) && (!po || ks.getD c.toNat 0 == 3) else c == 0
theorem coll_ok (kind coll reg ar an br bn:Int) (Ab Ae:Option Addr) (nb cb ne ce:Nat) (pc po pr pa pb pbo pe:Bool) (A:Option Addr) (n c:Nat) (ks:List Int) (w:World) (hk:Src w 1 (.slice A n c) n (ks.map (Value.int .i64))) (hn:n≤1000000) :
 Calls Tryz.prog 115 #[.agg #[.int .i64 kind,.int .i64 coll,.int .i64 reg,.int .i64 ar,.int .i64 an,.int .i64 br,.int .i64 bn,.slice Ab nb cb,.slice Ae ne ce],.agg #[.bool pc,.bool po,.bool pr,.bool pa,.bool pb,.bool pbo,.bool pe],.slice A n c] w fun e w' => e=.returned (.bool (collB coll pc po ks))∧Upd [] w w':=by
 have hl:ks.length=n:=by simpa using hk.1
 have HL:=Zh hl
 have HK:=Zh hk
 clear hl hk
 cases pc with
 | false =>
   have HR:Hid (collB coll false po ks=(coll == 0)):=Zh rfl
   go_enter Tryz.func115,Tryz.ntmps115
   go_wp2_with fail
   go_ret
   rw [HR.out]
   exact ⟨rfl,((Upd.refl [] w).alloc _).alloc _⟩
 | true =>
   by_cases h1:0≤coll
   ·by_cases h2:coll < n
    ·cases po with
     | false =>
       have HR:Hid (collB coll true false ks=true):=Zh (by unfold collB; rw [HL.out]; simp [h1,h2])
       go_enter Tryz.func115,Tryz.ntmps115
       go_wp2_with fail
       go_ret
       rw [HR.out]
       exact ⟨rfl,((Upd.refl [] w).alloc _).alloc _⟩
     | true =>
       obtain ⟨k,rfl⟩:∃ k:Nat,coll=k:=⟨coll.toNat,by omega⟩
       obtain ⟨x,hx⟩:∃ x,ks[k]?=some x:=⟨_,List.getElem?_eq_getElem (by rw [HL.out]; omega)⟩
       have HR:Hid (collB k true true ks=(x == 3)):=Zh (by unfold collB; rw [HL.out]; simp [h2,hx])
       obtain ⟨A',c',he,hc⟩:=HK.out.2
       injection he with he _ _
       subst he
       obtain ⟨ad,rfl,hlt,hcell⟩:=hc k (.int .i64 x) (by simp [hx])
       have n1:ad.block < w.heap.size + 1:=by omega
       have hb:(ad.add k).block < w.heap.size:=by rw [block_add]; exact hlt
       clear hx hc
       go_enter Tryz.func115,Tryz.ntmps115
       go_wp2_with fail
       go_ret
       rw [HR.out]
       exact ⟨rfl,((Upd.refl [] w).alloc _).alloc _⟩
    ·have HR:Hid (collB coll true po ks=false):=Zh (by unfold collB; rw [HL.out]; simp [h2])
     have e2:decide (coll < n)=false:=by simpa using h2
     go_enter Tryz.func115,Tryz.ntmps115
     go_wp2_with fail
     go_ret
     rw [HR.out]
     exact ⟨rfl,((Upd.refl [] w).alloc _).alloc _⟩
   ·have HR:Hid (collB coll true po ks=false):=Zh (by unfold collB; simp [h1])
    have e1:decide (0≤coll)=false:=by simpa using h1
    go_enter Tryz.func115,Tryz.ntmps115
    go_wp2_with fail
    go_ret
    rw [HR.out]
    exact ⟨rfl,((Upd.refl [] w).alloc _).alloc _⟩
end Go.Proofs.YtmjnmpifibemjaaGreatDoor
namespace Go.Proofs.YtmjnmpifibemjaaGreatDoor
open Go.RowKit
def loopB (k ar an:Int):Bool:=!(k == 12 && (!(ar == 0) || decide (an < 0) || decide (5 < an)))
def regB (pr:Bool) (reg:Int):Bool:=(pr == (decide (1≤reg) && decide (reg≤8))) && (pr || reg == 0)
def bodyB (pbo pe:Bool) (nb ne:Nat):Bool:=(pbo || nb == 0) && (pe || ne == 0)
def rightV (k coll reg ar an br bn:Int) (nb ne:Nat) (ks:List Int):Bool :=
 pIs k && collB coll (pColl k) (pOrd k) ks && argB ar an (pA k) && argB br bn (pB k) && loopB k ar an && regB (pReg k) reg && bodyB (pBody k) (pElse k) nb ne
end Go.Proofs.YtmjnmpifibemjaaGreatDoor
namespace Go.Proofs.YtmjnmpifibemjaaGreatDoor
open Go.RowKit
theorem right_ok (k coll reg ar an br bn:Int) (Ab Ae:Option Addr) (nb cb ne ce:Nat) (A:Option Addr) (n c:Nat) (ks:List Int) (w:World) (hk:Src w 1 (.slice A n c) n (ks.map (Value.int .i64))) (hn:n≤1000000) (hlb:nb≤9223372036854775807) (hle:ne≤9223372036854775807) :
 Calls Tryz.prog 104 #[.agg #[.int .i64 k,.int .i64 coll,.int .i64 reg,.int .i64 ar,.int .i64 an,.int .i64 br,.int .i64 bn,.slice Ab nb cb,.slice Ae ne ce],.slice A n c] w fun e w' => e=.returned (.bool (rightV k coll reg ar an br bn nb ne ks))∧Upd [] w w':=by
 obtain ⟨pc,hpc⟩:∃ x,pColl k=x:=⟨_,rfl⟩
 obtain ⟨po,hpo⟩:∃ x,pOrd k=x:=⟨_,rfl⟩
 obtain ⟨pr,hpr⟩:∃ x,pReg k=x:=⟨_,rfl⟩
 obtain ⟨pa,hpa⟩:∃ x,pA k=x:=⟨_,rfl⟩
 obtain ⟨pb,hpb⟩:∃ x,pB k=x:=⟨_,rfl⟩
 obtain ⟨pd,hpd⟩:∃ x,pBody k=x:=⟨_,rfl⟩
 obtain ⟨pe,hpe⟩:∃ x,pElse k=x:=⟨_,rfl⟩
 obtain ⟨is,his⟩:∃ x,pIs k=x:=⟨_,rfl⟩
 obtain ⟨cv,hcv⟩:∃ x,collB coll pc po ks=x:=⟨_,rfl⟩
 obtain ⟨av,hav⟩:∃ x,argB ar an pa=x:=⟨_,rfl⟩
 obtain ⟨bv,hbv⟩:∃ x,argB br bn pb=x:=⟨_,rfl⟩
 have HR:Hid (rightV k coll reg ar an br bn nb ne ks=(is && cv && av && bv && loopB k ar an && regB pr reg && bodyB pd pe nb ne)):=Zh (by unfold rightV; rw [hpc,hpo,hpr,hpa,hpb,hpd,hpe,his,hcv,hav,hbv])
 obtain ⟨rv,hrv⟩:∃ x,rightV k coll reg ar an br bn nb ne ks=x:=⟨_,rfl⟩
 rw [hrv] at HR ⊢
 clear hrv
 have PA:=fun w => parts_ok k w
 rw [hpc,hpo,hpr,hpa,hpb,hpd,hpe,his] at PA
 have HP:=Zh PA
 have HCV:=Zh hcv
 have HAV:=Zh hav
 have HBV:=Zh hbv
 have HK:=Zh hk
 clear PA hpc hpo hpr hpa hpb hpd hpe his hcv hav hbv hk
 cases is with
 | false =>
   go_enter Tryz.func104,Tryz.ntmps104
   go_wp2_with fail
   refine (HP.out _).mono ?_; rintro e w1 ⟨rfl,u1⟩
   have U1:=Zh (((Upd.refl [] w).alloc _).trans u1)
   clear u1
   go_wp2_with fail
   go_ret
   exact ⟨by rw [HR.out]; simp,U1.out.alloc _⟩
 | true =>
   go_enter Tryz.func104,Tryz.ntmps104
   go_wp2_with fail
   refine (HP.out _).mono ?_; rintro e w1 ⟨rfl,u1⟩
   have U1:=Zh (((Upd.refl [] w).alloc (.cells #[.int .i64 k,.int .i64 coll,.int .i64 reg,.int .i64 ar,.int .i64 an,.int .i64 br,.int .i64 bn,.slice Ab nb cb,.slice Ae ne ce] 62)).trans u1)
   have B1:=Zh ((Blk.new w 62 #[.int .i64 k,.int .i64 coll,.int .i64 reg,.int .i64 ar,.int .i64 an,.int .i64 br,.int .i64 bn,.slice Ab nb cb,.slice Ae ne ce]).upd u1 (by simp))
   clear u1
   have f1:=B1.out.facts
   go_wp2_with fail
   refine (coll_ok k coll reg ar an br bn Ab Ae nb cb ne ce pc po pr pa pb pd pe A n c ks _ (HK.out.upd0 (U1.out.alloc _)) hn).mono ?_; rintro e w2 ⟨rfl,u2⟩
   rw [HCV.out]
   have U2:=Zh ((U1.out.alloc (.cells #[.bool pc,.bool po,.bool pr,.bool pa,.bool pb,.bool pd,.bool pe] 216)).trans u2)
   have B2:=Zh ((B1.out.alloc (.cells #[.bool pc,.bool po,.bool pr,.bool pa,.bool pb,.bool pd,.bool pe] 216)).upd u2 (by simp))
   have P2:=Zh ((Blk.new w1 216 #[.bool pc,.bool po,.bool pr,.bool pa,.bool pb,.bool pd,.bool pe]).upd u2 (by simp))
   clear u2 f1
   cases cv with
   | false =>
     go_wp2_with fail
     go_ret
     exact ⟨by rw [HR.out]; simp,U2.out⟩
   | true =>
     have f2:=B2.out.facts
     have g2:=P2.out.facts
     go_wp2_with fail
     refine (arg_ok ar an pa _).mono ?_; rintro e w3 ⟨rfl,u3⟩
     rw [HAV.out]
     have U3:=Zh (U2.out.trans u3)
     have B3:=Zh (B2.out.upd u3 (by simp))
     have P3:=Zh (P2.out.upd u3 (by simp))
     clear u3 f2 g2
     cases av with
     | false =>
       go_wp2_with fail
       go_ret
       exact ⟨by rw [HR.out]; simp,U3.out⟩
     | true =>
       have f3:=B3.out.facts
       have g3:=P3.out.facts
       go_wp2_with fail
       refine (arg_ok br bn pb _).mono ?_; rintro e w4 ⟨rfl,u4⟩
       rw [HBV.out]
       have U4:=Zh (U3.out.trans u4)
       have B4:=Zh (B3.out.upd u4 (by simp))
       have P4:=Zh (P3.out.upd u4 (by simp))
       clear u4 f3 g3
       cases bv with
       | false =>
         go_wp2_with fail
         go_ret
         exact ⟨by rw [HR.out]; simp,U4.out⟩
       | true =>
         have f4:=B4.out.facts
         have g4:=P4.out.facts
         have hnb:nb≤9223372036854775807:=hlb
         have hne:ne≤9223372036854775807:=hle
         clear hlb hle
         cases pr <;> cases pd <;> cases pe
         all_goals
          go_wp2_with fail
         all_goals
          go_ret
          have HQ:=U4.out
          have HE:=HR.out
          clear HK HP U1 B1 U2 B2 P2 U3 B3 P3 B4 P4 HCV HAV HBV U4 HR f4 g4
          refine ⟨?_,HQ⟩
          rw [HE]
          clear HQ HE
          first
           | (simp [loopB,regB,bodyB, *]; done)
           | (simp [loopB,regB,bodyB, *]; omega)
           | (simp only [bne_iff_ne,ne_eq,bne_eq_false_iff_eq] at *; exfalso; omega)
           | (simp only [bne_iff_ne,ne_eq,bne_eq_false_iff_eq] at *; simp [loopB,regB,bodyB, *]; done)
           | (simp only [bne_iff_ne,ne_eq,bne_eq_false_iff_eq] at *; simp [loopB,regB,bodyB, *]; omega)
           | (have hr0:reg=0:=by
               have:(reg != 0)=false:=by assumption
               simpa using this
              subst hr0
              rcases Nat.eq_zero_or_pos ne with hz | hz
              ·subst hz; simp [loopB,regB,bodyB, *]
              ·have z1:((ne:Int) == 0)=false:=by
                have:¬ (ne:Int)=0:=by omega
                simpa using this
               have z2:(ne == 0)=false:=by
                have:¬ ne=0:=by omega
                simpa using this
               simp [loopB,regB,bodyB, *])
           | (rcases Nat.eq_zero_or_pos ne with hz | hz
              ·subst hz; simp [loopB,regB,bodyB, *]
              ·have z1:((ne:Int) == 0)=false:=by
                have:¬ (ne:Int)=0:=by omega
                simpa using this
               have z2:(ne == 0)=false:=by
                have:¬ ne=0:=by omega
                simpa using this
               simp [loopB,regB,bodyB, *])
           | done
end Go.Proofs.YtmjnmpifibemjaaGreatDoor
namespace Go.Proofs.YtmjnmpifibemjaaGreatDoor
open Go
def lightOp:Op→Bool
 | .move _ | .assign _ | .pick .. | .load .. | .nilCheck _ | .binOp .. | .unOp .. | .fieldAddr .. | .field .. | .indexAddr .. | .index .. | .extract .. | .slice .. | .makeInterface .. | .lookup .. | .typeAssert .. | .convert .. | .makeFunc .. => true
 | .call { callee:=.builtin .len,.. } | .call { callee:=.builtin .cap,.. } | .call { callee:=.builtin .min,.. } | .call { callee:=.builtin .max,.. } => true
 | _ => false
def isFloat (o:Oper):Bool:=(match o.op with | .move _ => true | _ => false) && o.guard.isNone && o.after.all (fun e => !Region.binds .any e)
def litStep (r:Result Next) (w:World) (K:Value→Prop):Prop :=
 match r with
 | .ok (.value v) w' => w'=w∧K v
 | _ => False
theorem litStep_value (v:Value) (w' w:World) (K:Value→Prop):litStep (.ok (.value v) w') w K=(w'=w∧K v):=rfl
section
variable (P:Program) (ops:Array Oper) (Q:Exit→Act→World→Prop)
def wpF:List Oper→Act→World→Prop
 | [],a,w => Q .normal a w
 | o :: l,a,w =>
   if Region.wanted o (yielded ops a.tmps) then (if lightOp o.op then litStep ((execOp a.eval o).run P w) w (fun v => wpF l (a.put o.dst v) w) else o.wp P a w (wpF l) Q) else wpF l (a.put o.dst undef) w
def wpI:List Nat→Act→World→Prop
 | [],a,w => Q .normal a w
 | i :: l,a,w => match ops[i]? with
   | none => False
   | some o => if Region.wanted o (yielded ops a.tmps) then (if lightOp o.op then litStep ((execOp a.eval o).run P w) w (fun v => wpI l (a.put o.dst v) w) else o.wp P a w (wpI l) Q) else wpI l (a.put o.dst undef) w
def dstOf (i:Nat):Option Tmp:=(ops[i]?).bind (·.dst)
def lookOf (i:Nat):List Tmp:=match ops[i]? with | some o => o.looksAt ops | none => []
def lightAt (i:Nat):Bool:=match ops[i]? with | some o => lightOp o.op | none => false
def depB (j x:Nat):Bool:=match ops[j]? with | some o => o.after.any (fun e => Region.binds .any e && e.on == x) | none => false
def depsBack (j:Nat):Bool:=match ops[j]? with | some o => o.after.all (fun e => !Region.binds .any e || decide (e.on < j)) | none => false
def pairOk (x j:Nat):Bool :=
 (match dstOf ops x with | some d => (dstOf ops j != some d) && (!(lookOf ops j).contains d || depB ops j x) | none => true) &&
 (match dstOf ops j with | some d => !(lookOf ops x).contains d || depB ops j x | none => true)
def okR (R:List Nat):Bool :=
 R.all (fun j => decide (j < ops.size) && depsBack ops j) &&
 R.all (fun h => lightAt ops h || R.all fun j => decide (j≤h) || R.any fun y => decide (h≤y) && depB ops j y) &&
 R.all (fun h => lightAt ops h || R.all fun x => decide (h≤x) || R.any fun y => decide (x < y) && decide (y≤h) && depB ops y x) &&
 R.all (fun j => !lightAt ops j || R.all fun x => !decide (x < j) || !lightAt ops x || pairOk ops x j)
def floats:List Nat:=(List.range ops.size).filter fun i => ((ops[i]?).map isFloat).getD false
def others:List Nat:=(List.range ops.size).filter fun i => !((ops[i]?).map isFloat).getD false
def markAll:List Nat→Array Bool→Array Bool
 | [],L => L
 | i :: l,L => markAll l (L.setIfInBounds i true)
def floatsOk:List Nat→Array Bool→Bool
 | [],_ => true
 | i :: l,L => (match ops[i]? with | some o => isFloat o | none => false) && Region.free .any ops L i && (Region.ready .any ops L).contains i && floatsOk l (L.setIfInBounds i true)
def forcedB:Bool:=Region.noSelect ops && okR ops (others ops) && floatsOk ops (floats ops) (Array.replicate ops.size false)
end
section
variable {P:Program} {ops:Array Oper} {Q:Exit→Act→World→Prop}
theorem put_get_other {a:Act} {d:Option Tmp} {v:Value} {t:Tmp} (h:d≠some t):(a.put d v).tmps[t]?=a.tmps[t]?:=by
 cases d with
 | none => rfl
 | some e => simp only [Act.put]; rw [Array.getElem?_setIfInBounds_ne (fun he => h (by rw [he]))]
theorem put_size (a:Act) (d:Option Tmp) (v:Value):(a.put d v).tmps.size=a.tmps.size:=by
 cases d <;> simp [Act.put]
theorem put_get_same {a b:Act} {t:Tmp} {v:Value} (hs:a.tmps.size=b.tmps.size):(a.put (some t) v).tmps[t]?=(b.put (some t) v).tmps[t]?:=by
 simp only [Act.put,Array.getElem?_setIfInBounds_self]
 simp [hs]
def putX (ops:Array Oper) (V:Nat→Value) (X:Nat→Bool):List Nat→Act→Act
 | [],a => a
 | i :: l,a => putX ops V X l (if X i then a.put (dstOf ops i) (V i) else a)
theorem putX_get {V:Nat→Value} {X Y:Nat→Bool} {t:Tmp}:∀ (l:List Nat) (a b:Act),(∀ x ∈ l,dstOf ops x=some t→X x=Y x)→a.tmps[t]?=b.tmps[t]?→a.tmps.size=b.tmps.size→(putX ops V X l a).tmps[t]?=(putX ops V Y l b).tmps[t]?
 | [],_,_,_,h,_ => h
 | i :: l,a,b,hx,h,hs => by
   unfold putX
   refine putX_get l _ _ (fun x hm => hx x (List.mem_cons_of_mem _ hm)) ?_ ?_
   ·by_cases hd:dstOf ops i=some t
    ·rw [hx i (List.mem_cons_self ..) hd,hd]
     split
     ·exact put_get_same hs
     ·exact h
    ·split <;> split <;> simp only [put_get_other hd,h]
   ·split <;> split <;> simp only [put_size,hs]
theorem putX_congr {V V':Nat→Value} {X Y:Nat→Bool}:∀ (l:List Nat) (a:Act),(∀ x ∈ l,X x=Y x)→(∀ x ∈ l,V x=V' x)→putX ops V X l a=putX ops V' Y l a
 | [],_,_,_ => rfl
 | i :: l,a,hx,hv => by
   unfold putX
   rw [hx i (List.mem_cons_self ..),hv i (List.mem_cons_self ..)]
   exact putX_congr l _ (fun x hm => hx x (List.mem_cons_of_mem _ hm)) (fun x hm => hv x (List.mem_cons_of_mem _ hm))
theorem putX_none {V:Nat→Value} {X:Nat→Bool}:∀ (l:List Nat) (a:Act),(∀ x ∈ l,X x=false)→putX ops V X l a=a
 | [],_,_ => rfl
 | i :: l,a,hx => by
   unfold putX
   rw [hx i (List.mem_cons_self ..)]
   exact putX_none l a fun x hm => hx x (List.mem_cons_of_mem _ hm)
theorem putX_out {V:Nat→Value} {X:Nat→Bool} {d:Option Tmp} {v:Value}:∀ (l:List Nat) (a:Act),(∀ x ∈ l,∀ t,d=some t→dstOf ops x≠some t)→putX ops V X l (a.put d v)=(putX ops V X l a).put d v
 | [],_,_ => rfl
 | i :: l,a,hx => by
   unfold putX
   split
   ·rw [Act.put_comm a v (V i) (fun t ht => hx i (List.mem_cons_self ..) t ht)]
    exact putX_out l _ fun x hm => hx x (List.mem_cons_of_mem _ hm)
   ·exact putX_out l _ fun x hm => hx x (List.mem_cons_of_mem _ hm)
theorem putX_add {V:Nat→Value} {X:Nat→Bool} {j:Nat} (hX:X j=false):∀ (l:List Nat) (a:Act),j ∈ l→l.Nodup→(∀ x ∈ l,x≠j→∀ t,dstOf ops j=some t→dstOf ops x≠some t) →
 putX ops V (fun x => X x || x == j) l a=(putX ops V X l a).put (dstOf ops j) (V j)
 | [],_,hm,_,_ => by simp at hm
 | i :: l,a,hm,hn,hd => by
   rw [List.nodup_cons] at hn
   by_cases hij:i=j
   ·subst hij
    unfold putX
    rw [hX]
    simp only [beq_self_eq_true,Bool.or_true,if_true,Bool.false_eq_true,if_false]
    rw [putX_congr (V':=V) (Y:=X) l _ (fun x hx => by
     have:x≠i:=fun e => hn.1 (e ▸ hx)
     simp [this]) (fun _ _ => rfl)]
    exact putX_out l a fun x hx t ht => hd x (List.mem_cons_of_mem _ hx) (fun e => hn.1 (e ▸ hx)) t ht
   ·have hm':j ∈ l:=by
     rcases List.mem_cons.1 hm with h | h
     ·exact absurd h.symm hij
     ·exact h
    unfold putX
    rw [show (X i || i == j)=X i by simp [hij]]
    exact putX_add hX l _ hm' hn.2 fun x hx => hd x (List.mem_cons_of_mem _ hx)
def segOK (P:Program) (ops:Array Oper) (w:World) (V:Nat→Value) (seg:List Nat) (a:Act):Prop:=∀ j ∈ seg,∀ o,ops[j]?=some o →
 (Region.wanted o (yielded ops (putX ops V (fun x => decide (x < j)) seg a).tmps)=true∧(execOp (putX ops V (fun x => decide (x < j)) seg a).eval o).run P w=.ok (.value (V j)) w) ∨
 (Region.wanted o (yielded ops (putX ops V (fun x => decide (x < j)) seg a).tmps)=false∧V j=undef)
theorem seg_of {w:World} {l':List Nat}:∀ (seg:List Nat) (a:Act),seg.Pairwise (· < ·)→(∀ x ∈ seg,lightAt ops x=true)→wpI P ops Q (seg ++ l') a w →
 ∃ V,segOK P ops w V seg a∧wpI P ops Q l' (putX ops V (fun _ => true) seg a) w
 | [],a,_,_,h => ⟨fun _ => undef,fun j hj => by simp at hj,h⟩
 | i :: seg,a,hp,hl,h => by
   rw [List.pairwise_cons] at hp
   have hli:=hl i (List.mem_cons_self ..)
   rw [List.cons_append] at h
   unfold wpI at h
   unfold lightAt at hli
   cases hoi:ops[i]? with
   | none => rw [hoi] at h; exact h.elim
   | some o =>
     rw [hoi] at h hli
     simp only at h hli
     have key:∀ v,wpI P ops Q (seg ++ l') (a.put o.dst v) w→((Region.wanted o (yielded ops a.tmps)=true∧(execOp a.eval o).run P w=.ok (.value v) w)∨(Region.wanted o (yielded ops a.tmps)=false∧v=undef)) →
      ∃ V,segOK P ops w V (i :: seg) a∧wpI P ops Q l' (putX ops V (fun _ => true) (i :: seg) a) w:=by
      intro v hv hy
      obtain ⟨V',hok,hw⟩:=seg_of seg (a.put o.dst v) hp.2 (fun x hx => hl x (List.mem_cons_of_mem _ hx)) hv
      have hd:dstOf ops i=o.dst:=by simp [dstOf,hoi]
      have hVV:∀ x ∈ seg,(fun x => if x=i then v else V' x) x=V' x:=fun x hx => by
       have:x≠i:=by have:=hp.1 x hx; omega
       simp [this]
      refine ⟨fun x => if x=i then v else V' x,?_,?_⟩
      ·intro j hj oj hoj
       rcases List.mem_cons.1 hj with rfl | hj
       ·have e:putX ops (fun x => if x=j then v else V' x) (fun x => decide (x < j)) (j :: seg) a=a:=putX_none _ _ (by
         intro x hx
         rcases List.mem_cons.1 hx with rfl | hx
         ·simp
         ·have:=hp.1 x hx; simp; omega)
        rw [e]
        rw [hoi] at hoj
        cases hoj
        simpa using hy
       ·have hij:=hp.1 j hj
        have e:putX ops (fun x => if x=i then v else V' x) (fun x => decide (x < j)) (i :: seg) a=putX ops V' (fun x => decide (x < j)) seg (a.put o.dst v):=by
         conv => lhs; unfold putX
         simp only [decide_eq_true hij,if_true,hd]
         exact putX_congr _ _ (fun _ _ => rfl) hVV
        rw [e]
        have:=hok j hj oj hoj
        have hne:j≠i:=by omega
        simpa [hne] using this
      ·have e:putX ops (fun x => if x=i then v else V' x) (fun _ => true) (i :: seg) a=putX ops V' (fun _ => true) seg (a.put o.dst v):=by
        conv => lhs; unfold putX
        simp only [if_true,hd]
        exact putX_congr _ _ (fun _ _ => rfl) hVV
       rw [e]
       exact hw
     cases hw:Region.wanted o (yielded ops a.tmps) with
     | true =>
       rw [hw] at h
       simp only [if_true,hli] at h
       unfold litStep at h
       cases hr:(execOp a.eval o).run P w with
       | ok n w' =>
         rw [hr] at h
         cases n with
         | value v =>
           obtain ⟨rfl,h⟩:=h
           exact key v h (.inl ⟨hw,hr⟩)
         | _ => exact h.elim
       | halt x w' => rw [hr] at h; exact h.elim
     | false =>
       rw [hw] at h
       simp only [Bool.false_eq_true,if_false] at h
       exact key undef h (.inr ⟨hw,rfl⟩)
end
end Go.Proofs.YtmjnmpifibemjaaGreatDoor

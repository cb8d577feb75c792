/-
 concordref09.One at some kinds.
 concordref09.One: is a statement right?
 concordref09.Right, Deep, Waits.
 concordref24.Fit: does a plan fit?
 Statements out of an argument.
 A law's argument: transactions that ended.
-/
import Derived.Test.YtmjnmpifibemjaaGreatDoorJoB17
import Derived.Test.YtmjnmpifibemjaaGreatDoorJoBsOne0
import Derived.Test.YtmjnmpifibemjaaGreatDoorJoBsOne1
import Derived.Test.YtmjnmpifibemjaaGreatDoorJoBsOne2
import Derived.Test.YtmjnmpifibemjaaGreatDoorJoB16
import Derived.Test.YtmjnmpifibemjaaGreatDoorJoB0
import Derived.Test.YtmjnmpifibemjaaGreatDoorJoB4
import Derived.Test.YtmjnmpifibemjaaGreatDoorJoB6
set_option linter.unusedVariables false
namespace Go.Proofs.YtmjnmpifibemjaaGreatDoor.Old
open Go.RowKit
attribute [local go_sem] litStep_value

set_option maxRecDepth 100000 in
set_option maxHeartbeats 4000000 in
theorem one_13 (coll : Int) (reg ar an br bn : Int) (Ab Ae : Option Addr) (nb cb ne ce : Nat) (A : Option Addr) (n c : Nat) (ks : List Int) (w : World) (hn : n ≤ 1000000) (hlb : nb ≤ 9223372036854775807) (hle : ne ≤ 9223372036854775807) (hk : Src w 1 (.slice A n c) n (ks.map (Value.int .i64))) :
 Calls Tryz.prog 47 #[.agg #[.int .i64 13, .int .i64 coll, .int .i64 reg, .int .i64 ar, .int .i64 an, .int .i64 br, .int .i64 bn, .slice Ab nb cb, .slice Ae ne ce], .slice A n c] w fun e w' => e = .returned (.bool (rightV 13 coll reg ar an br bn nb ne ks)) ∧ Upd [] w w' := by
 clear hk
 by_cases h1 : coll = 0
 ·subst h1
  have hcv : Hid (collB 0 false false ks = true) := Lib.hid rfl
  by_cases r1 : reg = 0
  ·subst r1
   have HR : Hid (rightV 13 0 0 ar an br bn nb ne ks = (argB ar an false && argB br bn false && loopB 13 ar an && bodyB true false nb ne)) := Lib.hid (rv_rest hcv.out (by simp [regB, show pReg 13 = false from rfl]) rfl)
   go_enter Tryz.func47, Tryz.ntmps47
   go_wp2_with fail
   refine (in_ok 13 _ 7 [1, 4, 5, 6, 7, 9, 10] _ (by exact Src.newAt (by simp) 7 rfl) (by omega)).mono ?_; rintro e w1 ⟨rfl, rfl⟩
   rw [show inB 13 [1, 4, 5, 6, 7, 9, 10] = false from rfl]
   go_wp2_with fail
   have B0 : Hid (Blk ((w.alloc (.cells #[.int .i64 13, .int .i64 0, .int .i64 0, .int .i64 ar, .int .i64 an, .int .i64 br, .int .i64 bn, .slice Ab nb cb, .slice Ae ne ce] 62)).alloc (.cells #[.int .i64 1, .int .i64 4, .int .i64 5, .int .i64 6, .int .i64 7, .int .i64 9, .int .i64 10] 3)) w.heap.size 62 #[.int .i64 13, .int .i64 0, .int .i64 0, .int .i64 ar, .int .i64 an, .int .i64 br, .int .i64 bn, .slice Ab nb cb, .slice Ae ne ce]) := Lib.hid ((Blk.new w _ _).alloc _)
   have U0 : Hid (Upd [] w ((w.alloc (.cells #[.int .i64 13, .int .i64 0, .int .i64 0, .int .i64 ar, .int .i64 an, .int .i64 br, .int .i64 bn, .slice Ab nb cb, .slice Ae ne ce] 62)).alloc (.cells #[.int .i64 1, .int .i64 4, .int .i64 5, .int .i64 6, .int .i64 7, .int .i64 9, .int .i64 10] 3))) := Lib.hid (((Upd.refl [] w).alloc _).alloc _)
   generalize ((w.alloc (.cells #[.int .i64 13, .int .i64 0, .int .i64 0, .int .i64 ar, .int .i64 an, .int .i64 br, .int .i64 bn, .slice Ab nb cb, .slice Ae ne ce] 62)).alloc (.cells #[.int .i64 1, .int .i64 4, .int .i64 5, .int .i64 6, .int .i64 7, .int .i64 9, .int .i64 10] 3)) = w1 at *
   have CS : Hid (∀ W, Upd [] w1.drew W → (∀ i, W.cell? ⟨w.heap.size, i, none⟩ = (#[.int .i64 13, .int .i64 0, .int .i64 0, .int .i64 ar, .int .i64 an, .int .i64 br, .int .i64 bn, .slice Ab nb cb, .slice Ae ne ce] : Array Value)[i]?)) := Lib.hid (fun W hW => (B0.out.drew.upd hW (by simp)).cell)
   obtain ⟨av, hav⟩ : ∃ y, argB ar an false = y := ⟨_, rfl⟩
   obtain ⟨bv, hbv⟩ : ∃ y, argB br bn false = y := ⟨_, rfl⟩
   have HAV := Lib.hid hav
   have HBV := Lib.hid hbv
   rw [hav, hbv] at HR
   clear hav hbv
   cases av with
   | false =>
     refine wp_invN [(3, .src 1 10 [.int .i64 1, .int .i64 2, .int .i64 3, .int .i64 4, .int .i64 6, .int .i64 7, .int .i64 9, .int .i64 10, .int .i64 11, .int .i64 12]), (4, .det (.bool false)), (5, .det (.bool false))] [] (by kernel_rfl) (by kernel_rfl) ⟨lasts_src _ _ _, lasts_det _, lasts_det _, trivial⟩ ?_
     iterate 3 (
      with_reducible apply wpV_light
      ·simp only [lightOp]
      ·intro W hU hF
       have f0 := CS.out W hU
       clear hU hF
       go_simp
       exact rfl
      simp only [Act.put, List.setIfInBounds_toArray, List.set_cons_zero, List.set_cons_succ])
     refine wpV_heavy (by simp only [lightOp]) (by rfl) (fun W hU hk hF K hK => ?_) ?_
     ·go_wp2_with fail
      refine hK.out _ _ (outV_new rfl ?_ ?_ ((Upd.refl _ _).alloc _))
      ·exact Src.newAt rfl 10 rfl
      ·intro b hb
       simp [mkI, specOf, Spec.src, Value.ownBlock] at hb
       subst hb; simp
     rintro _ ⟨A10, c10, rfl⟩
     simp only [Act.put, List.setIfInBounds_toArray, List.set_cons_zero, List.set_cons_succ]
     refine wpV_heavy (by simp only [lightOp]) (by rfl) (fun W hU hk hF K hK => ?_) ?_
     ·go_wp2_with fail
      have g := hF.out
      refine (in_ok 13 _ 10 [1, 2, 3, 4, 6, 7, 9, 10, 11, 12] _ (by exact g.1 (by kernel_rfl)) (by omega)).mono ?_; rintro e w2 ⟨rfl, rfl⟩
      go_wp2_with fail
      exact hK.out _ _ (outV_new rfl rfl (by intro b hb; cases hb) (.refl _ _))
     rintro _ rfl
     simp only [Act.put, List.setIfInBounds_toArray, List.set_cons_zero, List.set_cons_succ]
     refine wpV_heavy (by simp only [lightOp]) (by rfl) (fun W hU hk hF K hK => ?_) ?_
     ·go_wp2_with fail
      refine (arg_ok_ref ar an false _).mono ?_; rintro e w2 ⟨rfl, u2⟩
      rw [HAV.out]
      go_wp2_with fail
      exact hK.out _ _ (outV_new rfl rfl (by intro b hb; cases hb) u2)
     rintro _ rfl
     simp only [Act.put, List.setIfInBounds_toArray, List.set_cons_zero, List.set_cons_succ]
     iterate 2 (
      with_reducible apply wpV_light
      ·simp only [lightOp]
      ·intro W hU hF
       have f0 := CS.out W hU
       clear hU hF
       go_simp
       exact rfl
      simp only [Act.put, List.setIfInBounds_toArray, List.set_cons_zero, List.set_cons_succ])
     iterate 3 (
      refine wpV_skip (by rfl) (by simp only [lightOp]) ?_
      simp only [Act.put, List.setIfInBounds_toArray, List.set_cons_zero, List.set_cons_succ])
     iterate 3 (
      refine wpV_heavySkip (by simp only [lightOp]) (by rfl) (fun W hU hk => outV_new rfl trivial (by intro b hb; cases hb) (.refl _ _)) ?_
      rintro _ trivial
      simp only [Act.put, List.setIfInBounds_toArray, List.set_cons_zero, List.set_cons_succ])
     refine wpV_skip (by rfl) (by simp only [lightOp]) ?_
     simp only [Act.put, List.setIfInBounds_toArray, List.set_cons_zero, List.set_cons_succ]
     with_reducible apply wpV_light
     ·simp only [lightOp]
     ·intro W hU hF
      have f0 := CS.out W hU
      clear hU hF
      go_simp
      exact rfl
     simp only [Act.put, List.setIfInBounds_toArray, List.set_cons_zero, List.set_cons_succ]
     refine wpV_end (fun W hU _ _ => ?_)
     have U1 := Lib.hid (U0.out.trans ((Upd.refl [] w1).drew.trans hU))
     clear hU
     go_wp2_with fail
     go_ret
     rw [HR.out]
     exact ⟨by simp, U1.out⟩
   | true =>
     refine wp_invN [(3, .src 1 10 [.int .i64 1, .int .i64 2, .int .i64 3, .int .i64 4, .int .i64 6, .int .i64 7, .int .i64 9, .int .i64 10, .int .i64 11, .int .i64 12]), (4, .det (.bool false)), (5, .det (.bool true)), (11, .src 1 4 [.int .i64 2, .int .i64 7, .int .i64 10, .int .i64 11]), (12, .det (.bool false)), (13, .det (.bool bv))] [] (by kernel_rfl) (by kernel_rfl) ⟨lasts_src _ _ _, lasts_det _, lasts_det _, lasts_src _ _ _, lasts_det _, lasts_det _, trivial⟩ ?_
     iterate 3 (
      with_reducible apply wpV_light
      ·simp only [lightOp]
      ·intro W hU hF
       have f0 := CS.out W hU
       clear hU hF
       go_simp
       exact rfl
      simp only [Act.put, List.setIfInBounds_toArray, List.set_cons_zero, List.set_cons_succ])
     refine wpV_heavy (by simp only [lightOp]) (by rfl) (fun W hU hk hF K hK => ?_) ?_
     ·go_wp2_with fail
      refine hK.out _ _ (outV_new rfl ?_ ?_ ((Upd.refl _ _).alloc _))
      ·exact Src.newAt rfl 10 rfl
      ·intro b hb
       simp [mkI, specOf, Spec.src, Value.ownBlock] at hb
       subst hb; simp
     rintro _ ⟨A10, c10, rfl⟩
     simp only [Act.put, List.setIfInBounds_toArray, List.set_cons_zero, List.set_cons_succ]
     refine wpV_heavy (by simp only [lightOp]) (by rfl) (fun W hU hk hF K hK => ?_) ?_
     ·go_wp2_with fail
      have g := hF.out
      refine (in_ok 13 _ 10 [1, 2, 3, 4, 6, 7, 9, 10, 11, 12] _ (by exact g.1 (by kernel_rfl)) (by omega)).mono ?_; rintro e w2 ⟨rfl, rfl⟩
      go_wp2_with fail
      exact hK.out _ _ (outV_new rfl rfl (by intro b hb; cases hb) (.refl _ _))
     rintro _ rfl
     simp only [Act.put, List.setIfInBounds_toArray, List.set_cons_zero, List.set_cons_succ]
     refine wpV_heavy (by simp only [lightOp]) (by rfl) (fun W hU hk hF K hK => ?_) ?_
     ·go_wp2_with fail
      refine (arg_ok_ref ar an false _).mono ?_; rintro e w2 ⟨rfl, u2⟩
      rw [HAV.out]
      go_wp2_with fail
      exact hK.out _ _ (outV_new rfl rfl (by intro b hb; cases hb) u2)
     rintro _ rfl
     simp only [Act.put, List.setIfInBounds_toArray, List.set_cons_zero, List.set_cons_succ]
     iterate 5 (
      with_reducible apply wpV_light
      ·simp only [lightOp]
      ·intro W hU hF
       have f0 := CS.out W hU
       clear hU hF
       go_simp
       exact rfl
      simp only [Act.put, List.setIfInBounds_toArray, List.set_cons_zero, List.set_cons_succ])
     refine wpV_heavy (by simp only [lightOp]) (by rfl) (fun W hU hk hF K hK => ?_) ?_
     ·go_wp2_with fail
      refine hK.out _ _ (outV_new rfl ?_ ?_ ((Upd.refl _ _).alloc _))
      ·exact Src.newAt rfl 4 rfl
      ·intro b hb
       simp [mkI, specOf, Spec.src, Value.ownBlock] at hb
       subst hb; simp
     rintro _ ⟨A4, c4, rfl⟩
     simp only [Act.put, List.setIfInBounds_toArray, List.set_cons_zero, List.set_cons_succ]
     refine wpV_heavy (by simp only [lightOp]) (by rfl) (fun W hU hk hF K hK => ?_) ?_
     ·go_wp2_with fail
      have g := hF.out
      refine (in_ok 13 _ 4 [2, 7, 10, 11] _ (by exact g.2.2.2.1 (by kernel_rfl)) (by omega)).mono ?_; rintro e w2 ⟨rfl, rfl⟩
      go_wp2_with fail
      exact hK.out _ _ (outV_new rfl rfl (by intro b hb; cases hb) (.refl _ _))
     rintro _ rfl
     simp only [Act.put, List.setIfInBounds_toArray, List.set_cons_zero, List.set_cons_succ]
     refine wpV_heavy (by simp only [lightOp]) (by rfl) (fun W hU hk hF K hK => ?_) ?_
     ·go_wp2_with fail
      refine (arg_ok_ref br bn false _).mono ?_; rintro e w2 ⟨rfl, u2⟩
      rw [HBV.out]
      go_wp2_with fail
      exact hK.out _ _ (outV_new rfl rfl (by intro b hb; cases hb) u2)
     rintro _ rfl
     simp only [Act.put, List.setIfInBounds_toArray, List.set_cons_zero, List.set_cons_succ]
     iterate 2 (
      with_reducible apply wpV_light
      ·simp only [lightOp]
      ·intro W hU hF
       have f0 := CS.out W hU
       clear hU hF
       go_simp
       exact rfl
      simp only [Act.put, List.setIfInBounds_toArray, List.set_cons_zero, List.set_cons_succ])
     refine wpV_end (fun W hU _ _ => ?_)
     have U1 := Lib.hid (U0.out.trans ((Upd.refl [] w1).drew.trans hU))
     have f := CS.out W hU
     clear hU
     cases bv with
     | false =>
       go_wp2_with fail
       go_ret
       rw [HR.out]
       exact ⟨by simp, U1.out⟩
     | true =>
       rcases Nat.eq_zero_or_pos nb with hznb | hznb
       ·have znb : ((nb : Int) == 0) = true := by simp [hznb]
        have ynb : (nb == 0) = true := by simp [hznb]
        clear hznb
        rcases Nat.eq_zero_or_pos ne with hzne | hzne
        ·have zne : ((ne : Int) == 0) = true := by simp [hzne]
         have yne : (ne == 0) = true := by simp [hzne]
         clear hzne
         have HR2 : Hid (rightV 13 0 0 ar an br bn nb ne ks = true) := Lib.hid (by rw [HR.out]; simp [loopB, bodyB, *])
         go_wp2_with fail
         go_ret
         rw [HR2.out]
         exact ⟨rfl, U1.out⟩
        ·have zne : ((ne : Int) == 0) = false := by
          have : ¬ (ne : Int) = 0 := by omega
          simpa using this
         have yne : (ne == 0) = false := by
          have : ¬ ne = 0 := by omega
          simpa using this
         have HR2 : Hid (rightV 13 0 0 ar an br bn nb ne ks = false) := Lib.hid (by rw [HR.out]; simp [loopB, bodyB, *])
         go_wp2_with fail
         go_ret
         rw [HR2.out]
         exact ⟨rfl, U1.out⟩
       ·have znb : ((nb : Int) == 0) = false := by
         have : ¬ (nb : Int) = 0 := by omega
         simpa using this
        have ynb : (nb == 0) = false := by
         have : ¬ nb = 0 := by omega
         simpa using this
        rcases Nat.eq_zero_or_pos ne with hzne | hzne
        ·have zne : ((ne : Int) == 0) = true := by simp [hzne]
         have yne : (ne == 0) = true := by simp [hzne]
         clear hzne
         have HR2 : Hid (rightV 13 0 0 ar an br bn nb ne ks = true) := Lib.hid (by rw [HR.out]; simp [loopB, bodyB, *])
         go_wp2_with fail
         go_ret
         rw [HR2.out]
         exact ⟨rfl, U1.out⟩
        ·have zne : ((ne : Int) == 0) = false := by
          have : ¬ (ne : Int) = 0 := by omega
          simpa using this
         have yne : (ne == 0) = false := by
          have : ¬ ne = 0 := by omega
          simpa using this
         have HR2 : Hid (rightV 13 0 0 ar an br bn nb ne ks = false) := Lib.hid (by rw [HR.out]; simp [loopB, bodyB, *])
         go_wp2_with fail
         go_ret
         rw [HR2.out]
         exact ⟨rfl, U1.out⟩
  ·have q : (reg == 0) = false := by simpa using r1
   have q2 : (reg != 0) = true := by simpa using r1
   have HR : Hid (rightV 13 0 reg ar an br bn nb ne ks = false) := Lib.hid (rv_reg (by simp [regB, q, show pReg 13 = false from rfl]))
   go_enter Tryz.func47, Tryz.ntmps47
   go_wp2_with fail
   refine (in_ok 13 _ 7 [1, 4, 5, 6, 7, 9, 10] _ (by exact Src.newAt (by simp) 7 rfl) (by omega)).mono ?_; rintro e w1 ⟨rfl, rfl⟩
   rw [show inB 13 [1, 4, 5, 6, 7, 9, 10] = false from rfl]
   go_wp2_with fail
   go_ret
   rw [HR.out]
   exact ⟨rfl, ((Upd.refl [] w).alloc _).alloc _⟩
 ·have q : (coll == 0) = false := by simpa using h1
  have q2 : (coll != 0) = true := by simpa using h1
  have HR : Hid (rightV 13 coll reg ar an br bn nb ne ks = false) := Lib.hid (rv_coll q)
  go_enter Tryz.func47, Tryz.ntmps47
  go_wp2_with fail
  go_ret
  rw [HR.out]
  exact ⟨rfl, (Upd.refl [] w).alloc _⟩
set_option maxRecDepth 100000 in
set_option maxHeartbeats 4000000 in
theorem one_14 (coll : Int) (reg ar an br bn : Int) (Ab Ae : Option Addr) (nb cb ne ce : Nat) (A : Option Addr) (n c : Nat) (ks : List Int) (w : World) (hn : n ≤ 1000000) (hlb : nb ≤ 9223372036854775807) (hle : ne ≤ 9223372036854775807) (hk : Src w 1 (.slice A n c) n (ks.map (Value.int .i64))) :
 Calls Tryz.prog 47 #[.agg #[.int .i64 14, .int .i64 coll, .int .i64 reg, .int .i64 ar, .int .i64 an, .int .i64 br, .int .i64 bn, .slice Ab nb cb, .slice Ae ne ce], .slice A n c] w fun e w' => e = .returned (.bool (rightV 14 coll reg ar an br bn nb ne ks)) ∧ Upd [] w w' := by
 clear hk
 by_cases h1 : coll = 0
 ·subst h1
  have hcv : Hid (collB 0 false false ks = true) := Lib.hid rfl
  by_cases r1 : reg = 0
  ·subst r1
   have HR : Hid (rightV 14 0 0 ar an br bn nb ne ks = (argB ar an false && argB br bn false && loopB 14 ar an && bodyB true true nb ne)) := Lib.hid (rv_rest hcv.out (by simp [regB, show pReg 14 = false from rfl]) rfl)
   go_enter Tryz.func47, Tryz.ntmps47
   go_wp2_with fail
   refine (in_ok 14 _ 7 [1, 4, 5, 6, 7, 9, 10] _ (by exact Src.newAt (by simp) 7 rfl) (by omega)).mono ?_; rintro e w1 ⟨rfl, rfl⟩
   rw [show inB 14 [1, 4, 5, 6, 7, 9, 10] = false from rfl]
   go_wp2_with fail
   have B0 : Hid (Blk ((w.alloc (.cells #[.int .i64 14, .int .i64 0, .int .i64 0, .int .i64 ar, .int .i64 an, .int .i64 br, .int .i64 bn, .slice Ab nb cb, .slice Ae ne ce] 62)).alloc (.cells #[.int .i64 1, .int .i64 4, .int .i64 5, .int .i64 6, .int .i64 7, .int .i64 9, .int .i64 10] 3)) w.heap.size 62 #[.int .i64 14, .int .i64 0, .int .i64 0, .int .i64 ar, .int .i64 an, .int .i64 br, .int .i64 bn, .slice Ab nb cb, .slice Ae ne ce]) := Lib.hid ((Blk.new w _ _).alloc _)
   have U0 : Hid (Upd [] w ((w.alloc (.cells #[.int .i64 14, .int .i64 0, .int .i64 0, .int .i64 ar, .int .i64 an, .int .i64 br, .int .i64 bn, .slice Ab nb cb, .slice Ae ne ce] 62)).alloc (.cells #[.int .i64 1, .int .i64 4, .int .i64 5, .int .i64 6, .int .i64 7, .int .i64 9, .int .i64 10] 3))) := Lib.hid (((Upd.refl [] w).alloc _).alloc _)
   generalize ((w.alloc (.cells #[.int .i64 14, .int .i64 0, .int .i64 0, .int .i64 ar, .int .i64 an, .int .i64 br, .int .i64 bn, .slice Ab nb cb, .slice Ae ne ce] 62)).alloc (.cells #[.int .i64 1, .int .i64 4, .int .i64 5, .int .i64 6, .int .i64 7, .int .i64 9, .int .i64 10] 3)) = w1 at *
   have CS : Hid (∀ W, Upd [] w1.drew W → (∀ i, W.cell? ⟨w.heap.size, i, none⟩ = (#[.int .i64 14, .int .i64 0, .int .i64 0, .int .i64 ar, .int .i64 an, .int .i64 br, .int .i64 bn, .slice Ab nb cb, .slice Ae ne ce] : Array Value)[i]?)) := Lib.hid (fun W hW => (B0.out.drew.upd hW (by simp)).cell)
   obtain ⟨av, hav⟩ : ∃ y, argB ar an false = y := ⟨_, rfl⟩
   obtain ⟨bv, hbv⟩ : ∃ y, argB br bn false = y := ⟨_, rfl⟩
   have HAV := Lib.hid hav
   have HBV := Lib.hid hbv
   rw [hav, hbv] at HR
   clear hav hbv
   cases av with
   | false =>
     refine wp_invN [(3, .src 1 10 [.int .i64 1, .int .i64 2, .int .i64 3, .int .i64 4, .int .i64 6, .int .i64 7, .int .i64 9, .int .i64 10, .int .i64 11, .int .i64 12]), (4, .det (.bool false)), (5, .det (.bool false))] [] (by kernel_rfl) (by kernel_rfl) ⟨lasts_src _ _ _, lasts_det _, lasts_det _, trivial⟩ ?_
     iterate 3 (
      with_reducible apply wpV_light
      ·simp only [lightOp]
      ·intro W hU hF
       have f0 := CS.out W hU
       clear hU hF
       go_simp
       exact rfl
      simp only [Act.put, List.setIfInBounds_toArray, List.set_cons_zero, List.set_cons_succ])
     refine wpV_heavy (by simp only [lightOp]) (by rfl) (fun W hU hk hF K hK => ?_) ?_
     ·go_wp2_with fail
      refine hK.out _ _ (outV_new rfl ?_ ?_ ((Upd.refl _ _).alloc _))
      ·exact Src.newAt rfl 10 rfl
      ·intro b hb
       simp [mkI, specOf, Spec.src, Value.ownBlock] at hb
       subst hb; simp
     rintro _ ⟨A10, c10, rfl⟩
     simp only [Act.put, List.setIfInBounds_toArray, List.set_cons_zero, List.set_cons_succ]
     refine wpV_heavy (by simp only [lightOp]) (by rfl) (fun W hU hk hF K hK => ?_) ?_
     ·go_wp2_with fail
      have g := hF.out
      refine (in_ok 14 _ 10 [1, 2, 3, 4, 6, 7, 9, 10, 11, 12] _ (by exact g.1 (by kernel_rfl)) (by omega)).mono ?_; rintro e w2 ⟨rfl, rfl⟩
      go_wp2_with fail
      exact hK.out _ _ (outV_new rfl rfl (by intro b hb; cases hb) (.refl _ _))
     rintro _ rfl
     simp only [Act.put, List.setIfInBounds_toArray, List.set_cons_zero, List.set_cons_succ]
     refine wpV_heavy (by simp only [lightOp]) (by rfl) (fun W hU hk hF K hK => ?_) ?_
     ·go_wp2_with fail
      refine (arg_ok_ref ar an false _).mono ?_; rintro e w2 ⟨rfl, u2⟩
      rw [HAV.out]
      go_wp2_with fail
      exact hK.out _ _ (outV_new rfl rfl (by intro b hb; cases hb) u2)
     rintro _ rfl
     simp only [Act.put, List.setIfInBounds_toArray, List.set_cons_zero, List.set_cons_succ]
     iterate 2 (
      with_reducible apply wpV_light
      ·simp only [lightOp]
      ·intro W hU hF
       have f0 := CS.out W hU
       clear hU hF
       go_simp
       exact rfl
      simp only [Act.put, List.setIfInBounds_toArray, List.set_cons_zero, List.set_cons_succ])
     iterate 3 (
      refine wpV_skip (by rfl) (by simp only [lightOp]) ?_
      simp only [Act.put, List.setIfInBounds_toArray, List.set_cons_zero, List.set_cons_succ])
     iterate 3 (
      refine wpV_heavySkip (by simp only [lightOp]) (by rfl) (fun W hU hk => outV_new rfl trivial (by intro b hb; cases hb) (.refl _ _)) ?_
      rintro _ trivial
      simp only [Act.put, List.setIfInBounds_toArray, List.set_cons_zero, List.set_cons_succ])
     refine wpV_skip (by rfl) (by simp only [lightOp]) ?_
     simp only [Act.put, List.setIfInBounds_toArray, List.set_cons_zero, List.set_cons_succ]
     with_reducible apply wpV_light
     ·simp only [lightOp]
     ·intro W hU hF
      have f0 := CS.out W hU
      clear hU hF
      go_simp
      exact rfl
     simp only [Act.put, List.setIfInBounds_toArray, List.set_cons_zero, List.set_cons_succ]
     refine wpV_end (fun W hU _ _ => ?_)
     have U1 := Lib.hid (U0.out.trans ((Upd.refl [] w1).drew.trans hU))
     clear hU
     go_wp2_with fail
     go_ret
     rw [HR.out]
     exact ⟨by simp, U1.out⟩
   | true =>
     refine wp_invN [(3, .src 1 10 [.int .i64 1, .int .i64 2, .int .i64 3, .int .i64 4, .int .i64 6, .int .i64 7, .int .i64 9, .int .i64 10, .int .i64 11, .int .i64 12]), (4, .det (.bool false)), (5, .det (.bool true)), (11, .src 1 4 [.int .i64 2, .int .i64 7, .int .i64 10, .int .i64 11]), (12, .det (.bool false)), (13, .det (.bool bv))] [] (by kernel_rfl) (by kernel_rfl) ⟨lasts_src _ _ _, lasts_det _, lasts_det _, lasts_src _ _ _, lasts_det _, lasts_det _, trivial⟩ ?_
     iterate 3 (
      with_reducible apply wpV_light
      ·simp only [lightOp]
      ·intro W hU hF
       have f0 := CS.out W hU
       clear hU hF
       go_simp
       exact rfl
      simp only [Act.put, List.setIfInBounds_toArray, List.set_cons_zero, List.set_cons_succ])
     refine wpV_heavy (by simp only [lightOp]) (by rfl) (fun W hU hk hF K hK => ?_) ?_
     ·go_wp2_with fail
      refine hK.out _ _ (outV_new rfl ?_ ?_ ((Upd.refl _ _).alloc _))
      ·exact Src.newAt rfl 10 rfl
      ·intro b hb
       simp [mkI, specOf, Spec.src, Value.ownBlock] at hb
       subst hb; simp
     rintro _ ⟨A10, c10, rfl⟩
     simp only [Act.put, List.setIfInBounds_toArray, List.set_cons_zero, List.set_cons_succ]
     refine wpV_heavy (by simp only [lightOp]) (by rfl) (fun W hU hk hF K hK => ?_) ?_
     ·go_wp2_with fail
      have g := hF.out
      refine (in_ok 14 _ 10 [1, 2, 3, 4, 6, 7, 9, 10, 11, 12] _ (by exact g.1 (by kernel_rfl)) (by omega)).mono ?_; rintro e w2 ⟨rfl, rfl⟩
      go_wp2_with fail
      exact hK.out _ _ (outV_new rfl rfl (by intro b hb; cases hb) (.refl _ _))
     rintro _ rfl
     simp only [Act.put, List.setIfInBounds_toArray, List.set_cons_zero, List.set_cons_succ]
     refine wpV_heavy (by simp only [lightOp]) (by rfl) (fun W hU hk hF K hK => ?_) ?_
     ·go_wp2_with fail
      refine (arg_ok_ref ar an false _).mono ?_; rintro e w2 ⟨rfl, u2⟩
      rw [HAV.out]
      go_wp2_with fail
      exact hK.out _ _ (outV_new rfl rfl (by intro b hb; cases hb) u2)
     rintro _ rfl
     simp only [Act.put, List.setIfInBounds_toArray, List.set_cons_zero, List.set_cons_succ]
     iterate 5 (
      with_reducible apply wpV_light
      ·simp only [lightOp]
      ·intro W hU hF
       have f0 := CS.out W hU
       clear hU hF
       go_simp
       exact rfl
      simp only [Act.put, List.setIfInBounds_toArray, List.set_cons_zero, List.set_cons_succ])
     refine wpV_heavy (by simp only [lightOp]) (by rfl) (fun W hU hk hF K hK => ?_) ?_
     ·go_wp2_with fail
      refine hK.out _ _ (outV_new rfl ?_ ?_ ((Upd.refl _ _).alloc _))
      ·exact Src.newAt rfl 4 rfl
      ·intro b hb
       simp [mkI, specOf, Spec.src, Value.ownBlock] at hb
       subst hb; simp
     rintro _ ⟨A4, c4, rfl⟩
     simp only [Act.put, List.setIfInBounds_toArray, List.set_cons_zero, List.set_cons_succ]
     refine wpV_heavy (by simp only [lightOp]) (by rfl) (fun W hU hk hF K hK => ?_) ?_
     ·go_wp2_with fail
      have g := hF.out
      refine (in_ok 14 _ 4 [2, 7, 10, 11] _ (by exact g.2.2.2.1 (by kernel_rfl)) (by omega)).mono ?_; rintro e w2 ⟨rfl, rfl⟩
      go_wp2_with fail
      exact hK.out _ _ (outV_new rfl rfl (by intro b hb; cases hb) (.refl _ _))
     rintro _ rfl
     simp only [Act.put, List.setIfInBounds_toArray, List.set_cons_zero, List.set_cons_succ]
     refine wpV_heavy (by simp only [lightOp]) (by rfl) (fun W hU hk hF K hK => ?_) ?_
     ·go_wp2_with fail
      refine (arg_ok_ref br bn false _).mono ?_; rintro e w2 ⟨rfl, u2⟩
      rw [HBV.out]
      go_wp2_with fail
      exact hK.out _ _ (outV_new rfl rfl (by intro b hb; cases hb) u2)
     rintro _ rfl
     simp only [Act.put, List.setIfInBounds_toArray, List.set_cons_zero, List.set_cons_succ]
     iterate 2 (
      with_reducible apply wpV_light
      ·simp only [lightOp]
      ·intro W hU hF
       have f0 := CS.out W hU
       clear hU hF
       go_simp
       exact rfl
      simp only [Act.put, List.setIfInBounds_toArray, List.set_cons_zero, List.set_cons_succ])
     refine wpV_end (fun W hU _ _ => ?_)
     have U1 := Lib.hid (U0.out.trans ((Upd.refl [] w1).drew.trans hU))
     have f := CS.out W hU
     clear hU
     cases bv with
     | false =>
       go_wp2_with fail
       go_ret
       rw [HR.out]
       exact ⟨by simp, U1.out⟩
     | true =>
       rcases Nat.eq_zero_or_pos nb with hznb | hznb
       ·have znb : ((nb : Int) == 0) = true := by simp [hznb]
        have ynb : (nb == 0) = true := by simp [hznb]
        clear hznb
        rcases Nat.eq_zero_or_pos ne with hzne | hzne
        ·have zne : ((ne : Int) == 0) = true := by simp [hzne]
         have yne : (ne == 0) = true := by simp [hzne]
         clear hzne
         have HR2 : Hid (rightV 14 0 0 ar an br bn nb ne ks = true) := Lib.hid (by rw [HR.out]; simp [loopB, bodyB, *])
         go_wp2_with fail
         go_ret
         rw [HR2.out]
         exact ⟨rfl, U1.out⟩
        ·have zne : ((ne : Int) == 0) = false := by
          have : ¬ (ne : Int) = 0 := by omega
          simpa using this
         have yne : (ne == 0) = false := by
          have : ¬ ne = 0 := by omega
          simpa using this
         have HR2 : Hid (rightV 14 0 0 ar an br bn nb ne ks = true) := Lib.hid (by rw [HR.out]; simp [loopB, bodyB, *])
         go_wp2_with fail
         go_ret
         rw [HR2.out]
         exact ⟨rfl, U1.out⟩
       ·have znb : ((nb : Int) == 0) = false := by
         have : ¬ (nb : Int) = 0 := by omega
         simpa using this
        have ynb : (nb == 0) = false := by
         have : ¬ nb = 0 := by omega
         simpa using this
        rcases Nat.eq_zero_or_pos ne with hzne | hzne
        ·have zne : ((ne : Int) == 0) = true := by simp [hzne]
         have yne : (ne == 0) = true := by simp [hzne]
         clear hzne
         have HR2 : Hid (rightV 14 0 0 ar an br bn nb ne ks = true) := Lib.hid (by rw [HR.out]; simp [loopB, bodyB, *])
         go_wp2_with fail
         go_ret
         rw [HR2.out]
         exact ⟨rfl, U1.out⟩
        ·have zne : ((ne : Int) == 0) = false := by
          have : ¬ (ne : Int) = 0 := by omega
          simpa using this
         have yne : (ne == 0) = false := by
          have : ¬ ne = 0 := by omega
          simpa using this
         have HR2 : Hid (rightV 14 0 0 ar an br bn nb ne ks = true) := Lib.hid (by rw [HR.out]; simp [loopB, bodyB, *])
         go_wp2_with fail
         go_ret
         rw [HR2.out]
         exact ⟨rfl, U1.out⟩
  ·have q : (reg == 0) = false := by simpa using r1
   have q2 : (reg != 0) = true := by simpa using r1
   have HR : Hid (rightV 14 0 reg ar an br bn nb ne ks = false) := Lib.hid (rv_reg (by simp [regB, q, show pReg 14 = false from rfl]))
   go_enter Tryz.func47, Tryz.ntmps47
   go_wp2_with fail
   refine (in_ok 14 _ 7 [1, 4, 5, 6, 7, 9, 10] _ (by exact Src.newAt (by simp) 7 rfl) (by omega)).mono ?_; rintro e w1 ⟨rfl, rfl⟩
   rw [show inB 14 [1, 4, 5, 6, 7, 9, 10] = false from rfl]
   go_wp2_with fail
   go_ret
   rw [HR.out]
   exact ⟨rfl, ((Upd.refl [] w).alloc _).alloc _⟩
 ·have q : (coll == 0) = false := by simpa using h1
  have q2 : (coll != 0) = true := by simpa using h1
  have HR : Hid (rightV 14 coll reg ar an br bn nb ne ks = false) := Lib.hid (rv_coll q)
  go_enter Tryz.func47, Tryz.ntmps47
  go_wp2_with fail
  go_ret
  rw [HR.out]
  exact ⟨rfl, (Upd.refl [] w).alloc _⟩
set_option maxRecDepth 100000 in
set_option maxHeartbeats 4000000 in
theorem one_15 (coll : Int) (reg ar an br bn : Int) (Ab Ae : Option Addr) (nb cb ne ce : Nat) (A : Option Addr) (n c : Nat) (ks : List Int) (w : World) (hn : n ≤ 1000000) (hlb : nb ≤ 9223372036854775807) (hle : ne ≤ 9223372036854775807) (hk : Src w 1 (.slice A n c) n (ks.map (Value.int .i64))) :
 Calls Tryz.prog 47 #[.agg #[.int .i64 15, .int .i64 coll, .int .i64 reg, .int .i64 ar, .int .i64 an, .int .i64 br, .int .i64 bn, .slice Ab nb cb, .slice Ae ne ce], .slice A n c] w fun e w' => e = .returned (.bool (rightV 15 coll reg ar an br bn nb ne ks)) ∧ Upd [] w w' := by
 clear hk
 by_cases h1 : coll = 0
 ·subst h1
  have hcv : Hid (collB 0 false false ks = true) := Lib.hid rfl
  by_cases r1 : reg = 0
  ·subst r1
   have HR : Hid (rightV 15 0 0 ar an br bn nb ne ks = (argB ar an false && argB br bn false && loopB 15 ar an && bodyB false false nb ne)) := Lib.hid (rv_rest hcv.out (by simp [regB, show pReg 15 = false from rfl]) rfl)
   go_enter Tryz.func47, Tryz.ntmps47
   go_wp2_with fail
   refine (in_ok 15 _ 7 [1, 4, 5, 6, 7, 9, 10] _ (by exact Src.newAt (by simp) 7 rfl) (by omega)).mono ?_; rintro e w1 ⟨rfl, rfl⟩
   rw [show inB 15 [1, 4, 5, 6, 7, 9, 10] = false from rfl]
   go_wp2_with fail
   have B0 : Hid (Blk ((w.alloc (.cells #[.int .i64 15, .int .i64 0, .int .i64 0, .int .i64 ar, .int .i64 an, .int .i64 br, .int .i64 bn, .slice Ab nb cb, .slice Ae ne ce] 62)).alloc (.cells #[.int .i64 1, .int .i64 4, .int .i64 5, .int .i64 6, .int .i64 7, .int .i64 9, .int .i64 10] 3)) w.heap.size 62 #[.int .i64 15, .int .i64 0, .int .i64 0, .int .i64 ar, .int .i64 an, .int .i64 br, .int .i64 bn, .slice Ab nb cb, .slice Ae ne ce]) := Lib.hid ((Blk.new w _ _).alloc _)
   have U0 : Hid (Upd [] w ((w.alloc (.cells #[.int .i64 15, .int .i64 0, .int .i64 0, .int .i64 ar, .int .i64 an, .int .i64 br, .int .i64 bn, .slice Ab nb cb, .slice Ae ne ce] 62)).alloc (.cells #[.int .i64 1, .int .i64 4, .int .i64 5, .int .i64 6, .int .i64 7, .int .i64 9, .int .i64 10] 3))) := Lib.hid (((Upd.refl [] w).alloc _).alloc _)
   generalize ((w.alloc (.cells #[.int .i64 15, .int .i64 0, .int .i64 0, .int .i64 ar, .int .i64 an, .int .i64 br, .int .i64 bn, .slice Ab nb cb, .slice Ae ne ce] 62)).alloc (.cells #[.int .i64 1, .int .i64 4, .int .i64 5, .int .i64 6, .int .i64 7, .int .i64 9, .int .i64 10] 3)) = w1 at *
   have CS : Hid (∀ W, Upd [] w1.drew W → (∀ i, W.cell? ⟨w.heap.size, i, none⟩ = (#[.int .i64 15, .int .i64 0, .int .i64 0, .int .i64 ar, .int .i64 an, .int .i64 br, .int .i64 bn, .slice Ab nb cb, .slice Ae ne ce] : Array Value)[i]?)) := Lib.hid (fun W hW => (B0.out.drew.upd hW (by simp)).cell)
   obtain ⟨av, hav⟩ : ∃ y, argB ar an false = y := ⟨_, rfl⟩
   obtain ⟨bv, hbv⟩ : ∃ y, argB br bn false = y := ⟨_, rfl⟩
   have HAV := Lib.hid hav
   have HBV := Lib.hid hbv
   rw [hav, hbv] at HR
   clear hav hbv
   cases av with
   | false =>
     refine wp_invN [(3, .src 1 10 [.int .i64 1, .int .i64 2, .int .i64 3, .int .i64 4, .int .i64 6, .int .i64 7, .int .i64 9, .int .i64 10, .int .i64 11, .int .i64 12]), (4, .det (.bool false)), (5, .det (.bool false))] [] (by kernel_rfl) (by kernel_rfl) ⟨lasts_src _ _ _, lasts_det _, lasts_det _, trivial⟩ ?_
     iterate 3 (
      with_reducible apply wpV_light
      ·simp only [lightOp]
      ·intro W hU hF
       have f0 := CS.out W hU
       clear hU hF
       go_simp
       exact rfl
      simp only [Act.put, List.setIfInBounds_toArray, List.set_cons_zero, List.set_cons_succ])
     refine wpV_heavy (by simp only [lightOp]) (by rfl) (fun W hU hk hF K hK => ?_) ?_
     ·go_wp2_with fail
      refine hK.out _ _ (outV_new rfl ?_ ?_ ((Upd.refl _ _).alloc _))
      ·exact Src.newAt rfl 10 rfl
      ·intro b hb
       simp [mkI, specOf, Spec.src, Value.ownBlock] at hb
       subst hb; simp
     rintro _ ⟨A10, c10, rfl⟩
     simp only [Act.put, List.setIfInBounds_toArray, List.set_cons_zero, List.set_cons_succ]
     refine wpV_heavy (by simp only [lightOp]) (by rfl) (fun W hU hk hF K hK => ?_) ?_
     ·go_wp2_with fail
      have g := hF.out
      refine (in_ok 15 _ 10 [1, 2, 3, 4, 6, 7, 9, 10, 11, 12] _ (by exact g.1 (by kernel_rfl)) (by omega)).mono ?_; rintro e w2 ⟨rfl, rfl⟩
      go_wp2_with fail
      exact hK.out _ _ (outV_new rfl rfl (by intro b hb; cases hb) (.refl _ _))
     rintro _ rfl
     simp only [Act.put, List.setIfInBounds_toArray, List.set_cons_zero, List.set_cons_succ]
     refine wpV_heavy (by simp only [lightOp]) (by rfl) (fun W hU hk hF K hK => ?_) ?_
     ·go_wp2_with fail
      refine (arg_ok_ref ar an false _).mono ?_; rintro e w2 ⟨rfl, u2⟩
      rw [HAV.out]
      go_wp2_with fail
      exact hK.out _ _ (outV_new rfl rfl (by intro b hb; cases hb) u2)
     rintro _ rfl
     simp only [Act.put, List.setIfInBounds_toArray, List.set_cons_zero, List.set_cons_succ]
     iterate 2 (
      with_reducible apply wpV_light
      ·simp only [lightOp]
      ·intro W hU hF
       have f0 := CS.out W hU
       clear hU hF
       go_simp
       exact rfl
      simp only [Act.put, List.setIfInBounds_toArray, List.set_cons_zero, List.set_cons_succ])
     iterate 3 (
      refine wpV_skip (by rfl) (by simp only [lightOp]) ?_
      simp only [Act.put, List.setIfInBounds_toArray, List.set_cons_zero, List.set_cons_succ])
     iterate 3 (
      refine wpV_heavySkip (by simp only [lightOp]) (by rfl) (fun W hU hk => outV_new rfl trivial (by intro b hb; cases hb) (.refl _ _)) ?_
      rintro _ trivial
      simp only [Act.put, List.setIfInBounds_toArray, List.set_cons_zero, List.set_cons_succ])
     refine wpV_skip (by rfl) (by simp only [lightOp]) ?_
     simp only [Act.put, List.setIfInBounds_toArray, List.set_cons_zero, List.set_cons_succ]
     with_reducible apply wpV_light
     ·simp only [lightOp]
     ·intro W hU hF
      have f0 := CS.out W hU
      clear hU hF
      go_simp
      exact rfl
     simp only [Act.put, List.setIfInBounds_toArray, List.set_cons_zero, List.set_cons_succ]
     refine wpV_end (fun W hU _ _ => ?_)
     have U1 := Lib.hid (U0.out.trans ((Upd.refl [] w1).drew.trans hU))
     clear hU
     go_wp2_with fail
     go_ret
     rw [HR.out]
     exact ⟨by simp, U1.out⟩
   | true =>
     refine wp_invN [(3, .src 1 10 [.int .i64 1, .int .i64 2, .int .i64 3, .int .i64 4, .int .i64 6, .int .i64 7, .int .i64 9, .int .i64 10, .int .i64 11, .int .i64 12]), (4, .det (.bool false)), (5, .det (.bool true)), (11, .src 1 4 [.int .i64 2, .int .i64 7, .int .i64 10, .int .i64 11]), (12, .det (.bool false)), (13, .det (.bool bv))] [] (by kernel_rfl) (by kernel_rfl) ⟨lasts_src _ _ _, lasts_det _, lasts_det _, lasts_src _ _ _, lasts_det _, lasts_det _, trivial⟩ ?_
     iterate 3 (
      with_reducible apply wpV_light
      ·simp only [lightOp]
      ·intro W hU hF
       have f0 := CS.out W hU
       clear hU hF
       go_simp
       exact rfl
      simp only [Act.put, List.setIfInBounds_toArray, List.set_cons_zero, List.set_cons_succ])
     refine wpV_heavy (by simp only [lightOp]) (by rfl) (fun W hU hk hF K hK => ?_) ?_
     ·go_wp2_with fail
      refine hK.out _ _ (outV_new rfl ?_ ?_ ((Upd.refl _ _).alloc _))
      ·exact Src.newAt rfl 10 rfl
      ·intro b hb
       simp [mkI, specOf, Spec.src, Value.ownBlock] at hb
       subst hb; simp
     rintro _ ⟨A10, c10, rfl⟩
     simp only [Act.put, List.setIfInBounds_toArray, List.set_cons_zero, List.set_cons_succ]
     refine wpV_heavy (by simp only [lightOp]) (by rfl) (fun W hU hk hF K hK => ?_) ?_
     ·go_wp2_with fail
      have g := hF.out
      refine (in_ok 15 _ 10 [1, 2, 3, 4, 6, 7, 9, 10, 11, 12] _ (by exact g.1 (by kernel_rfl)) (by omega)).mono ?_; rintro e w2 ⟨rfl, rfl⟩
      go_wp2_with fail
      exact hK.out _ _ (outV_new rfl rfl (by intro b hb; cases hb) (.refl _ _))
     rintro _ rfl
     simp only [Act.put, List.setIfInBounds_toArray, List.set_cons_zero, List.set_cons_succ]
     refine wpV_heavy (by simp only [lightOp]) (by rfl) (fun W hU hk hF K hK => ?_) ?_
     ·go_wp2_with fail
      refine (arg_ok_ref ar an false _).mono ?_; rintro e w2 ⟨rfl, u2⟩
      rw [HAV.out]
      go_wp2_with fail
      exact hK.out _ _ (outV_new rfl rfl (by intro b hb; cases hb) u2)
     rintro _ rfl
     simp only [Act.put, List.setIfInBounds_toArray, List.set_cons_zero, List.set_cons_succ]
     iterate 5 (
      with_reducible apply wpV_light
      ·simp only [lightOp]
      ·intro W hU hF
       have f0 := CS.out W hU
       clear hU hF
       go_simp
       exact rfl
      simp only [Act.put, List.setIfInBounds_toArray, List.set_cons_zero, List.set_cons_succ])
     refine wpV_heavy (by simp only [lightOp]) (by rfl) (fun W hU hk hF K hK => ?_) ?_
     ·go_wp2_with fail
      refine hK.out _ _ (outV_new rfl ?_ ?_ ((Upd.refl _ _).alloc _))
      ·exact Src.newAt rfl 4 rfl
      ·intro b hb
       simp [mkI, specOf, Spec.src, Value.ownBlock] at hb
       subst hb; simp
     rintro _ ⟨A4, c4, rfl⟩
     simp only [Act.put, List.setIfInBounds_toArray, List.set_cons_zero, List.set_cons_succ]
     refine wpV_heavy (by simp only [lightOp]) (by rfl) (fun W hU hk hF K hK => ?_) ?_
     ·go_wp2_with fail
      have g := hF.out
      refine (in_ok 15 _ 4 [2, 7, 10, 11] _ (by exact g.2.2.2.1 (by kernel_rfl)) (by omega)).mono ?_; rintro e w2 ⟨rfl, rfl⟩
      go_wp2_with fail
      exact hK.out _ _ (outV_new rfl rfl (by intro b hb; cases hb) (.refl _ _))
     rintro _ rfl
     simp only [Act.put, List.setIfInBounds_toArray, List.set_cons_zero, List.set_cons_succ]
     refine wpV_heavy (by simp only [lightOp]) (by rfl) (fun W hU hk hF K hK => ?_) ?_
     ·go_wp2_with fail
      refine (arg_ok_ref br bn false _).mono ?_; rintro e w2 ⟨rfl, u2⟩
      rw [HBV.out]
      go_wp2_with fail
      exact hK.out _ _ (outV_new rfl rfl (by intro b hb; cases hb) u2)
     rintro _ rfl
     simp only [Act.put, List.setIfInBounds_toArray, List.set_cons_zero, List.set_cons_succ]
     iterate 2 (
      with_reducible apply wpV_light
      ·simp only [lightOp]
      ·intro W hU hF
       have f0 := CS.out W hU
       clear hU hF
       go_simp
       exact rfl
      simp only [Act.put, List.setIfInBounds_toArray, List.set_cons_zero, List.set_cons_succ])
     refine wpV_end (fun W hU _ _ => ?_)
     have U1 := Lib.hid (U0.out.trans ((Upd.refl [] w1).drew.trans hU))
     have f := CS.out W hU
     clear hU
     cases bv with
     | false =>
       go_wp2_with fail
       go_ret
       rw [HR.out]
       exact ⟨by simp, U1.out⟩
     | true =>
       rcases Nat.eq_zero_or_pos nb with hznb | hznb
       ·have znb : ((nb : Int) == 0) = true := by simp [hznb]
        have ynb : (nb == 0) = true := by simp [hznb]
        clear hznb
        rcases Nat.eq_zero_or_pos ne with hzne | hzne
        ·have zne : ((ne : Int) == 0) = true := by simp [hzne]
         have yne : (ne == 0) = true := by simp [hzne]
         clear hzne
         have HR2 : Hid (rightV 15 0 0 ar an br bn nb ne ks = true) := Lib.hid (by rw [HR.out]; simp [loopB, bodyB, *])
         go_wp2_with fail
         go_ret
         rw [HR2.out]
         exact ⟨rfl, U1.out⟩
        ·have zne : ((ne : Int) == 0) = false := by
          have : ¬ (ne : Int) = 0 := by omega
          simpa using this
         have yne : (ne == 0) = false := by
          have : ¬ ne = 0 := by omega
          simpa using this
         have HR2 : Hid (rightV 15 0 0 ar an br bn nb ne ks = false) := Lib.hid (by rw [HR.out]; simp [loopB, bodyB, *])
         go_wp2_with fail
         go_ret
         rw [HR2.out]
         exact ⟨rfl, U1.out⟩
       ·have znb : ((nb : Int) == 0) = false := by
         have : ¬ (nb : Int) = 0 := by omega
         simpa using this
        have ynb : (nb == 0) = false := by
         have : ¬ nb = 0 := by omega
         simpa using this
        rcases Nat.eq_zero_or_pos ne with hzne | hzne
        ·have zne : ((ne : Int) == 0) = true := by simp [hzne]
         have yne : (ne == 0) = true := by simp [hzne]
         clear hzne
         have HR2 : Hid (rightV 15 0 0 ar an br bn nb ne ks = false) := Lib.hid (by rw [HR.out]; simp [loopB, bodyB, *])
         go_wp2_with fail
         go_ret
         rw [HR2.out]
         exact ⟨rfl, U1.out⟩
        ·have zne : ((ne : Int) == 0) = false := by
          have : ¬ (ne : Int) = 0 := by omega
          simpa using this
         have yne : (ne == 0) = false := by
          have : ¬ ne = 0 := by omega
          simpa using this
         have HR2 : Hid (rightV 15 0 0 ar an br bn nb ne ks = false) := Lib.hid (by rw [HR.out]; simp [loopB, bodyB, *])
         go_wp2_with fail
         go_ret
         rw [HR2.out]
         exact ⟨rfl, U1.out⟩
  ·have q : (reg == 0) = false := by simpa using r1
   have q2 : (reg != 0) = true := by simpa using r1
   have HR : Hid (rightV 15 0 reg ar an br bn nb ne ks = false) := Lib.hid (rv_reg (by simp [regB, q, show pReg 15 = false from rfl]))
   go_enter Tryz.func47, Tryz.ntmps47
   go_wp2_with fail
   refine (in_ok 15 _ 7 [1, 4, 5, 6, 7, 9, 10] _ (by exact Src.newAt (by simp) 7 rfl) (by omega)).mono ?_; rintro e w1 ⟨rfl, rfl⟩
   rw [show inB 15 [1, 4, 5, 6, 7, 9, 10] = false from rfl]
   go_wp2_with fail
   go_ret
   rw [HR.out]
   exact ⟨rfl, ((Upd.refl [] w).alloc _).alloc _⟩
 ·have q : (coll == 0) = false := by simpa using h1
  have q2 : (coll != 0) = true := by simpa using h1
  have HR : Hid (rightV 15 coll reg ar an br bn nb ne ks = false) := Lib.hid (rv_coll q)
  go_enter Tryz.func47, Tryz.ntmps47
  go_wp2_with fail
  go_ret
  rw [HR.out]
  exact ⟨rfl, (Upd.refl [] w).alloc _⟩
set_option maxRecDepth 100000 in
set_option maxHeartbeats 4000000 in
theorem one_16 (coll : Int) (reg ar an br bn : Int) (Ab Ae : Option Addr) (nb cb ne ce : Nat) (A : Option Addr) (n c : Nat) (ks : List Int) (w : World) (hn : n ≤ 1000000) (hlb : nb ≤ 9223372036854775807) (hle : ne ≤ 9223372036854775807) (hk : Src w 1 (.slice A n c) n (ks.map (Value.int .i64))) :
 Calls Tryz.prog 47 #[.agg #[.int .i64 16, .int .i64 coll, .int .i64 reg, .int .i64 ar, .int .i64 an, .int .i64 br, .int .i64 bn, .slice Ab nb cb, .slice Ae ne ce], .slice A n c] w fun e w' => e = .returned (.bool (rightV 16 coll reg ar an br bn nb ne ks)) ∧ Upd [] w w' := by
 clear hk
 by_cases h1 : coll = 0
 ·subst h1
  have hcv : Hid (collB 0 false false ks = true) := Lib.hid rfl
  by_cases r1 : reg = 0
  ·subst r1
   have HR : Hid (rightV 16 0 0 ar an br bn nb ne ks = (argB ar an false && argB br bn false && loopB 16 ar an && bodyB false false nb ne)) := Lib.hid (rv_rest hcv.out (by simp [regB, show pReg 16 = false from rfl]) rfl)
   go_enter Tryz.func47, Tryz.ntmps47
   go_wp2_with fail
   refine (in_ok 16 _ 7 [1, 4, 5, 6, 7, 9, 10] _ (by exact Src.newAt (by simp) 7 rfl) (by omega)).mono ?_; rintro e w1 ⟨rfl, rfl⟩
   rw [show inB 16 [1, 4, 5, 6, 7, 9, 10] = false from rfl]
   go_wp2_with fail
   have B0 : Hid (Blk ((w.alloc (.cells #[.int .i64 16, .int .i64 0, .int .i64 0, .int .i64 ar, .int .i64 an, .int .i64 br, .int .i64 bn, .slice Ab nb cb, .slice Ae ne ce] 62)).alloc (.cells #[.int .i64 1, .int .i64 4, .int .i64 5, .int .i64 6, .int .i64 7, .int .i64 9, .int .i64 10] 3)) w.heap.size 62 #[.int .i64 16, .int .i64 0, .int .i64 0, .int .i64 ar, .int .i64 an, .int .i64 br, .int .i64 bn, .slice Ab nb cb, .slice Ae ne ce]) := Lib.hid ((Blk.new w _ _).alloc _)
   have U0 : Hid (Upd [] w ((w.alloc (.cells #[.int .i64 16, .int .i64 0, .int .i64 0, .int .i64 ar, .int .i64 an, .int .i64 br, .int .i64 bn, .slice Ab nb cb, .slice Ae ne ce] 62)).alloc (.cells #[.int .i64 1, .int .i64 4, .int .i64 5, .int .i64 6, .int .i64 7, .int .i64 9, .int .i64 10] 3))) := Lib.hid (((Upd.refl [] w).alloc _).alloc _)
   generalize ((w.alloc (.cells #[.int .i64 16, .int .i64 0, .int .i64 0, .int .i64 ar, .int .i64 an, .int .i64 br, .int .i64 bn, .slice Ab nb cb, .slice Ae ne ce] 62)).alloc (.cells #[.int .i64 1, .int .i64 4, .int .i64 5, .int .i64 6, .int .i64 7, .int .i64 9, .int .i64 10] 3)) = w1 at *
   have CS : Hid (∀ W, Upd [] w1.drew W → (∀ i, W.cell? ⟨w.heap.size, i, none⟩ = (#[.int .i64 16, .int .i64 0, .int .i64 0, .int .i64 ar, .int .i64 an, .int .i64 br, .int .i64 bn, .slice Ab nb cb, .slice Ae ne ce] : Array Value)[i]?)) := Lib.hid (fun W hW => (B0.out.drew.upd hW (by simp)).cell)
   obtain ⟨av, hav⟩ : ∃ y, argB ar an false = y := ⟨_, rfl⟩
   obtain ⟨bv, hbv⟩ : ∃ y, argB br bn false = y := ⟨_, rfl⟩
   have HAV := Lib.hid hav
   have HBV := Lib.hid hbv
   rw [hav, hbv] at HR
   clear hav hbv
   cases av with
   | false =>
     refine wp_invN [(3, .src 1 10 [.int .i64 1, .int .i64 2, .int .i64 3, .int .i64 4, .int .i64 6, .int .i64 7, .int .i64 9, .int .i64 10, .int .i64 11, .int .i64 12]), (4, .det (.bool false)), (5, .det (.bool false))] [] (by kernel_rfl) (by kernel_rfl) ⟨lasts_src _ _ _, lasts_det _, lasts_det _, trivial⟩ ?_
     iterate 3 (
      with_reducible apply wpV_light
      ·simp only [lightOp]
      ·intro W hU hF
       have f0 := CS.out W hU
       clear hU hF
       go_simp
       exact rfl
      simp only [Act.put, List.setIfInBounds_toArray, List.set_cons_zero, List.set_cons_succ])
     refine wpV_heavy (by simp only [lightOp]) (by rfl) (fun W hU hk hF K hK => ?_) ?_
     ·go_wp2_with fail
      refine hK.out _ _ (outV_new rfl ?_ ?_ ((Upd.refl _ _).alloc _))
      ·exact Src.newAt rfl 10 rfl
      ·intro b hb
       simp [mkI, specOf, Spec.src, Value.ownBlock] at hb
       subst hb; simp
     rintro _ ⟨A10, c10, rfl⟩
     simp only [Act.put, List.setIfInBounds_toArray, List.set_cons_zero, List.set_cons_succ]
     refine wpV_heavy (by simp only [lightOp]) (by rfl) (fun W hU hk hF K hK => ?_) ?_
     ·go_wp2_with fail
      have g := hF.out
      refine (in_ok 16 _ 10 [1, 2, 3, 4, 6, 7, 9, 10, 11, 12] _ (by exact g.1 (by kernel_rfl)) (by omega)).mono ?_; rintro e w2 ⟨rfl, rfl⟩
      go_wp2_with fail
      exact hK.out _ _ (outV_new rfl rfl (by intro b hb; cases hb) (.refl _ _))
     rintro _ rfl
     simp only [Act.put, List.setIfInBounds_toArray, List.set_cons_zero, List.set_cons_succ]
     refine wpV_heavy (by simp only [lightOp]) (by rfl) (fun W hU hk hF K hK => ?_) ?_
     ·go_wp2_with fail
      refine (arg_ok_ref ar an false _).mono ?_; rintro e w2 ⟨rfl, u2⟩
      rw [HAV.out]
      go_wp2_with fail
      exact hK.out _ _ (outV_new rfl rfl (by intro b hb; cases hb) u2)
     rintro _ rfl
     simp only [Act.put, List.setIfInBounds_toArray, List.set_cons_zero, List.set_cons_succ]
     iterate 2 (
      with_reducible apply wpV_light
      ·simp only [lightOp]
      ·intro W hU hF
       have f0 := CS.out W hU
       clear hU hF
       go_simp
       exact rfl
      simp only [Act.put, List.setIfInBounds_toArray, List.set_cons_zero, List.set_cons_succ])
     iterate 3 (
      refine wpV_skip (by rfl) (by simp only [lightOp]) ?_
      simp only [Act.put, List.setIfInBounds_toArray, List.set_cons_zero, List.set_cons_succ])
     iterate 3 (
      refine wpV_heavySkip (by simp only [lightOp]) (by rfl) (fun W hU hk => outV_new rfl trivial (by intro b hb; cases hb) (.refl _ _)) ?_
      rintro _ trivial
      simp only [Act.put, List.setIfInBounds_toArray, List.set_cons_zero, List.set_cons_succ])
     refine wpV_skip (by rfl) (by simp only [lightOp]) ?_
     simp only [Act.put, List.setIfInBounds_toArray, List.set_cons_zero, List.set_cons_succ]
     with_reducible apply wpV_light
     ·simp only [lightOp]
     ·intro W hU hF
      have f0 := CS.out W hU
      clear hU hF
      go_simp
      exact rfl
     simp only [Act.put, List.setIfInBounds_toArray, List.set_cons_zero, List.set_cons_succ]
     refine wpV_end (fun W hU _ _ => ?_)
     have U1 := Lib.hid (U0.out.trans ((Upd.refl [] w1).drew.trans hU))
     clear hU
     go_wp2_with fail
     go_ret
     rw [HR.out]
     exact ⟨by simp, U1.out⟩
   | true =>
     refine wp_invN [(3, .src 1 10 [.int .i64 1, .int .i64 2, .int .i64 3, .int .i64 4, .int .i64 6, .int .i64 7, .int .i64 9, .int .i64 10, .int .i64 11, .int .i64 12]), (4, .det (.bool false)), (5, .det (.bool true)), (11, .src 1 4 [.int .i64 2, .int .i64 7, .int .i64 10, .int .i64 11]), (12, .det (.bool false)), (13, .det (.bool bv))] [] (by kernel_rfl) (by kernel_rfl) ⟨lasts_src _ _ _, lasts_det _, lasts_det _, lasts_src _ _ _, lasts_det _, lasts_det _, trivial⟩ ?_
     iterate 3 (
      with_reducible apply wpV_light
      ·simp only [lightOp]
      ·intro W hU hF
       have f0 := CS.out W hU
       clear hU hF
       go_simp
       exact rfl
      simp only [Act.put, List.setIfInBounds_toArray, List.set_cons_zero, List.set_cons_succ])
     refine wpV_heavy (by simp only [lightOp]) (by rfl) (fun W hU hk hF K hK => ?_) ?_
     ·go_wp2_with fail
      refine hK.out _ _ (outV_new rfl ?_ ?_ ((Upd.refl _ _).alloc _))
      ·exact Src.newAt rfl 10 rfl
      ·intro b hb
       simp [mkI, specOf, Spec.src, Value.ownBlock] at hb
       subst hb; simp
     rintro _ ⟨A10, c10, rfl⟩
     simp only [Act.put, List.setIfInBounds_toArray, List.set_cons_zero, List.set_cons_succ]
     refine wpV_heavy (by simp only [lightOp]) (by rfl) (fun W hU hk hF K hK => ?_) ?_
     ·go_wp2_with fail
      have g := hF.out
      refine (in_ok 16 _ 10 [1, 2, 3, 4, 6, 7, 9, 10, 11, 12] _ (by exact g.1 (by kernel_rfl)) (by omega)).mono ?_; rintro e w2 ⟨rfl, rfl⟩
      go_wp2_with fail
      exact hK.out _ _ (outV_new rfl rfl (by intro b hb; cases hb) (.refl _ _))
     rintro _ rfl
     simp only [Act.put, List.setIfInBounds_toArray, List.set_cons_zero, List.set_cons_succ]
     refine wpV_heavy (by simp only [lightOp]) (by rfl) (fun W hU hk hF K hK => ?_) ?_
     ·go_wp2_with fail
      refine (arg_ok_ref ar an false _).mono ?_; rintro e w2 ⟨rfl, u2⟩
      rw [HAV.out]
      go_wp2_with fail
      exact hK.out _ _ (outV_new rfl rfl (by intro b hb; cases hb) u2)
     rintro _ rfl
     simp only [Act.put, List.setIfInBounds_toArray, List.set_cons_zero, List.set_cons_succ]
     iterate 5 (
      with_reducible apply wpV_light
      ·simp only [lightOp]
      ·intro W hU hF
       have f0 := CS.out W hU
       clear hU hF
       go_simp
       exact rfl
      simp only [Act.put, List.setIfInBounds_toArray, List.set_cons_zero, List.set_cons_succ])
     refine wpV_heavy (by simp only [lightOp]) (by rfl) (fun W hU hk hF K hK => ?_) ?_
     ·go_wp2_with fail
      refine hK.out _ _ (outV_new rfl ?_ ?_ ((Upd.refl _ _).alloc _))
      ·exact Src.newAt rfl 4 rfl
      ·intro b hb
       simp [mkI, specOf, Spec.src, Value.ownBlock] at hb
       subst hb; simp
     rintro _ ⟨A4, c4, rfl⟩
     simp only [Act.put, List.setIfInBounds_toArray, List.set_cons_zero, List.set_cons_succ]
     refine wpV_heavy (by simp only [lightOp]) (by rfl) (fun W hU hk hF K hK => ?_) ?_
     ·go_wp2_with fail
      have g := hF.out
      refine (in_ok 16 _ 4 [2, 7, 10, 11] _ (by exact g.2.2.2.1 (by kernel_rfl)) (by omega)).mono ?_; rintro e w2 ⟨rfl, rfl⟩
      go_wp2_with fail
      exact hK.out _ _ (outV_new rfl rfl (by intro b hb; cases hb) (.refl _ _))
     rintro _ rfl
     simp only [Act.put, List.setIfInBounds_toArray, List.set_cons_zero, List.set_cons_succ]
     refine wpV_heavy (by simp only [lightOp]) (by rfl) (fun W hU hk hF K hK => ?_) ?_
     ·go_wp2_with fail
      refine (arg_ok_ref br bn false _).mono ?_; rintro e w2 ⟨rfl, u2⟩
      rw [HBV.out]
      go_wp2_with fail
      exact hK.out _ _ (outV_new rfl rfl (by intro b hb; cases hb) u2)
     rintro _ rfl
     simp only [Act.put, List.setIfInBounds_toArray, List.set_cons_zero, List.set_cons_succ]
     iterate 2 (
      with_reducible apply wpV_light
      ·simp only [lightOp]
      ·intro W hU hF
       have f0 := CS.out W hU
       clear hU hF
       go_simp
       exact rfl
      simp only [Act.put, List.setIfInBounds_toArray, List.set_cons_zero, List.set_cons_succ])
     refine wpV_end (fun W hU _ _ => ?_)
     have U1 := Lib.hid (U0.out.trans ((Upd.refl [] w1).drew.trans hU))
     have f := CS.out W hU
     clear hU
     cases bv with
     | false =>
       go_wp2_with fail
       go_ret
       rw [HR.out]
       exact ⟨by simp, U1.out⟩
     | true =>
       rcases Nat.eq_zero_or_pos nb with hznb | hznb
       ·have znb : ((nb : Int) == 0) = true := by simp [hznb]
        have ynb : (nb == 0) = true := by simp [hznb]
        clear hznb
        rcases Nat.eq_zero_or_pos ne with hzne | hzne
        ·have zne : ((ne : Int) == 0) = true := by simp [hzne]
         have yne : (ne == 0) = true := by simp [hzne]
         clear hzne
         have HR2 : Hid (rightV 16 0 0 ar an br bn nb ne ks = true) := Lib.hid (by rw [HR.out]; simp [loopB, bodyB, *])
         go_wp2_with fail
         go_ret
         rw [HR2.out]
         exact ⟨rfl, U1.out⟩
        ·have zne : ((ne : Int) == 0) = false := by
          have : ¬ (ne : Int) = 0 := by omega
          simpa using this
         have yne : (ne == 0) = false := by
          have : ¬ ne = 0 := by omega
          simpa using this
         have HR2 : Hid (rightV 16 0 0 ar an br bn nb ne ks = false) := Lib.hid (by rw [HR.out]; simp [loopB, bodyB, *])
         go_wp2_with fail
         go_ret
         rw [HR2.out]
         exact ⟨rfl, U1.out⟩
       ·have znb : ((nb : Int) == 0) = false := by
         have : ¬ (nb : Int) = 0 := by omega
         simpa using this
        have ynb : (nb == 0) = false := by
         have : ¬ nb = 0 := by omega
         simpa using this
        rcases Nat.eq_zero_or_pos ne with hzne | hzne
        ·have zne : ((ne : Int) == 0) = true := by simp [hzne]
         have yne : (ne == 0) = true := by simp [hzne]
         clear hzne
         have HR2 : Hid (rightV 16 0 0 ar an br bn nb ne ks = false) := Lib.hid (by rw [HR.out]; simp [loopB, bodyB, *])
         go_wp2_with fail
         go_ret
         rw [HR2.out]
         exact ⟨rfl, U1.out⟩
        ·have zne : ((ne : Int) == 0) = false := by
          have : ¬ (ne : Int) = 0 := by omega
          simpa using this
         have yne : (ne == 0) = false := by
          have : ¬ ne = 0 := by omega
          simpa using this
         have HR2 : Hid (rightV 16 0 0 ar an br bn nb ne ks = false) := Lib.hid (by rw [HR.out]; simp [loopB, bodyB, *])
         go_wp2_with fail
         go_ret
         rw [HR2.out]
         exact ⟨rfl, U1.out⟩
  ·have q : (reg == 0) = false := by simpa using r1
   have q2 : (reg != 0) = true := by simpa using r1
   have HR : Hid (rightV 16 0 reg ar an br bn nb ne ks = false) := Lib.hid (rv_reg (by simp [regB, q, show pReg 16 = false from rfl]))
   go_enter Tryz.func47, Tryz.ntmps47
   go_wp2_with fail
   refine (in_ok 16 _ 7 [1, 4, 5, 6, 7, 9, 10] _ (by exact Src.newAt (by simp) 7 rfl) (by omega)).mono ?_; rintro e w1 ⟨rfl, rfl⟩
   rw [show inB 16 [1, 4, 5, 6, 7, 9, 10] = false from rfl]
   go_wp2_with fail
   go_ret
   rw [HR.out]
   exact ⟨rfl, ((Upd.refl [] w).alloc _).alloc _⟩
 ·have q : (coll == 0) = false := by simpa using h1
  have q2 : (coll != 0) = true := by simpa using h1
  have HR : Hid (rightV 16 coll reg ar an br bn nb ne ks = false) := Lib.hid (rv_coll q)
  go_enter Tryz.func47, Tryz.ntmps47
  go_wp2_with fail
  go_ret
  rw [HR.out]
  exact ⟨rfl, (Upd.refl [] w).alloc _⟩
end Go.Proofs.YtmjnmpifibemjaaGreatDoor.Old

namespace Go.Proofs.YtmjnmpifibemjaaGreatDoor.Old
open Go.RowKit
attribute [local go_sem] litStep_value

set_option maxRecDepth 100000 in
set_option maxHeartbeats 4000000 in
theorem one_ok (k coll : Int) (reg ar an br bn : Int) (Ab Ae : Option Addr) (nb cb ne ce : Nat) (A : Option Addr) (n c : Nat) (ks : List Int) (w : World) (hn : n ≤ 1000000) (hlb : nb ≤ 9223372036854775807) (hle : ne ≤ 9223372036854775807) (hk : Src w 1 (.slice A n c) n (ks.map (Value.int .i64))) :
 Calls Tryz.prog 47 #[.agg #[.int .i64 k, .int .i64 coll, .int .i64 reg, .int .i64 ar, .int .i64 an, .int .i64 br, .int .i64 bn, .slice Ab nb cb, .slice Ae ne ce], .slice A n c] w fun e w' => e = .returned (.bool (rightV k coll reg ar an br bn nb ne ks)) ∧ Upd [] w w' := by
 by_cases h1 : k = 1
 ·subst h1; exact one_1 coll reg ar an br bn Ab Ae nb cb ne ce A n c ks w hn hlb hle hk
 by_cases h2 : k = 2
 ·subst h2; exact one_2 coll reg ar an br bn Ab Ae nb cb ne ce A n c ks w hn hlb hle hk
 by_cases h3 : k = 3
 ·subst h3; exact one_3 coll reg ar an br bn Ab Ae nb cb ne ce A n c ks w hn hlb hle hk
 by_cases h4 : k = 4
 ·subst h4; exact one_4 coll reg ar an br bn Ab Ae nb cb ne ce A n c ks w hn hlb hle hk
 by_cases h5 : k = 5
 ·subst h5; exact one_5 coll reg ar an br bn Ab Ae nb cb ne ce A n c ks w hn hlb hle hk
 by_cases h6 : k = 6
 ·subst h6; exact one_6 coll reg ar an br bn Ab Ae nb cb ne ce A n c ks w hn hlb hle hk
 by_cases h7 : k = 7
 ·subst h7; exact one_7 coll reg ar an br bn Ab Ae nb cb ne ce A n c ks w hn hlb hle hk
 by_cases h8 : k = 8
 ·subst h8; exact one_8 coll reg ar an br bn Ab Ae nb cb ne ce A n c ks w hn hlb hle hk
 by_cases h9 : k = 9
 ·subst h9; exact one_9 coll reg ar an br bn Ab Ae nb cb ne ce A n c ks w hn hlb hle hk
 by_cases h10 : k = 10
 ·subst h10; exact one_10 coll reg ar an br bn Ab Ae nb cb ne ce A n c ks w hn hlb hle hk
 by_cases h11 : k = 11
 ·subst h11; exact one_11 coll reg ar an br bn Ab Ae nb cb ne ce A n c ks w hn hlb hle hk
 by_cases h12 : k = 12
 ·subst h12; exact one_12 coll reg ar an br bn Ab Ae nb cb ne ce A n c ks w hn hlb hle hk
 by_cases h13 : k = 13
 ·subst h13; exact one_13 coll reg ar an br bn Ab Ae nb cb ne ce A n c ks w hn hlb hle hk
 by_cases h14 : k = 14
 ·subst h14; exact one_14 coll reg ar an br bn Ab Ae nb cb ne ce A n c ks w hn hlb hle hk
 by_cases h15 : k = 15
 ·subst h15; exact one_15 coll reg ar an br bn Ab Ae nb cb ne ce A n c ks w hn hlb hle hk
 by_cases h16 : k = 16
 ·subst h16; exact one_16 coll reg ar an br bn Ab Ae nb cb ne ce A n c ks w hn hlb hle hk
 clear hk
 have HR : Hid (rightV k coll reg ar an br bn nb ne ks = false) := Lib.hid (by unfold rightV; rw [show pIs k = false by unfold pIs; simp; omega]; simp)
 by_cases h : k < 1
 ·clear h1 h2 h3 h4 h5 h6 h7 h8 h9 h10 h11 h12 h13 h14 h15 h16
  go_enter Tryz.func47, Tryz.ntmps47
  go_wp2_with fail
  go_ret
  rw [HR.out]
  exact ⟨rfl, (Upd.refl [] w).alloc _⟩
 ·have g : 16 < k := by omega
  have g2 : decide (k < 1) = false := by simp; omega
  clear h h1 h2 h3 h4 h5 h6 h7 h8 h9 h10 h11 h12 h13 h14 h15 h16
  go_enter Tryz.func47, Tryz.ntmps47
  go_wp2_with fail
  go_ret
  rw [HR.out]
  exact ⟨rfl, (Upd.refl [] w).alloc _⟩
end Go.Proofs.YtmjnmpifibemjaaGreatDoor.Old

namespace Go.Proofs.YtmjnmpifibemjaaGreatDoor.Old
open Go.RowKit

/-- The document's answer: from the line i on. -/
def refR (ks : List Int) : List (Stm × Nat) → Nat → Int × Int
 | [], _ => (0, 0)
 | (x, d) :: l, i => if 100 ≤ i then (8, (i : Int) + 1) else if 8 < d then (10, (i : Int) + 1) else if !rightS ks x then (9, (i : Int) + 1) else refR ks l (i + 1)
theorem refR_walk (ks : List Int) : ∀ (l : List (Stm × Nat)) (i : Nat), (walkF (stepR ks) l (0, 0) i).2.1 = refR ks l i
 | [], i => rfl
 | (x, d) :: l, i => by
   unfold walkF refR
   by_cases h1 : 100 ≤ i
   ·rw [if_pos h1]
    have : stepR ks (0, 0) (i + 1) d x = (false, (8, ((i + 1 : Nat) : Int))) := by unfold stepR; rw [if_pos (by omega)]; rfl
    rw [this]
    simp
   ·rw [if_neg h1]
    by_cases h2 : 8 < d
    ·rw [if_pos h2]
     have : stepR ks (0, 0) (i + 1) d x = (false, (10, ((i + 1 : Nat) : Int))) := by unfold stepR; rw [if_neg (by omega), if_pos h2]; rfl
     rw [this]
     simp
    ·rw [if_neg h2]
     cases h3 : rightS ks x with
     | false =>
       have : stepR ks (0, 0) (i + 1) d x = (false, (9, ((i + 1 : Nat) : Int))) := by unfold stepR; rw [if_neg (by omega), if_neg h2, h3]; rfl
       rw [this]
       simp
     | true =>
       have : stepR ks (0, 0) (i + 1) d x = (true, (0, 0)) := by unfold stepR; rw [if_neg (by omega), if_neg h2, h3]; rfl
       rw [this]
       simp only [Bool.not_true, Bool.false_eq_true, if_false]
       exact refR_walk ks l (i + 1)
theorem refR_drop {ks : List Int} {L : List (Stm × Nat)} {i : Nat} {x : Stm} {d : Nat} (h : L[i]? = some (x, d)) :
 refR ks (L.drop i) i = if 100 ≤ i then (8, (i : Int) + 1) else if 8 < d then (10, (i : Int) + 1) else if !rightS ks x then (9, (i : Int) + 1) else refR ks (L.drop (i + 1)) (i + 1) := by
 obtain ⟨hl, he⟩ := List.getElem?_eq_some_iff.1 h
 rw [List.drop_eq_getElem_cons hl, he]
 rfl

/-- The slice of lines: what its cells are. -/
structure LineAt (W : World) (B : Nat) (v : Value) (L : List (Stm × Nat)) : Prop where
 slice : ∃ A c, v = .slice A L.length c ∧ L.length ≤ c ∧ c ≤ 9223372036854775807 ∧ ∀ i k coll reg ar an br bn bo el d, L[i]? = some (.mk k coll reg ar an br bn bo el, d) → ∃ ad vb ve, A = some ad ∧ ad.block < W.heap.size ∧ Stms W B vb bo ∧ Stms W B ve el ∧
  W.cell? (ad.add (i * 10)) = some (.int .i64 k) ∧ ∀ j u, (stmCells k coll reg ar an br bn vb ve ++ [.int .i64 d])[j + 1]? = some u → W.cell? ⟨(ad.add (i * 10)).block, (ad.add (i * 10)).off + (j + 1), none⟩ = some u
theorem lineAt_of {W : World} {B B' : Nat} {v : Value} {n : Nat} {L : List (Stm × Nat)} {xs : List Value} (hn : n = L.length) (ho : W.ownsRow B' 113 10 v n xs) (hr : LinesR W B L xs) : LineAt W B v L := by
 subst hn
 obtain ⟨A, c, rfl, h1, h2⟩ := own_slice ho
 obtain ⟨_, A', c', he, hs⟩ := Src.of_own ho
 injection he with he _ _
 subst he
 refine ⟨A, c, rfl, h1, by simpa [maxLen] using h2, fun i k coll reg ar an br bn bo el d h => ?_⟩
 obtain ⟨vb, ve, g1, g2, g3⟩ := hr.get h
 obtain ⟨ad, rfl, hl, c0⟩ := hs (i * 10) _ (g3 0 _ rfl)
 refine ⟨ad, vb, ve, rfl, hl, g1, g2, c0, fun j u hu => ?_⟩
 obtain ⟨ad', e, _, cj⟩ := hs (i * 10 + (j + 1)) u (g3 (j + 1) u hu)
 cases e
 rw [← add_more]
 exact cj
theorem LineAt.keep {W W' : World} {B : Nat} {v : Value} {L : List (Stm × Nat)} (h : LineAt W B v L) (hB : B ≤ W.heap.size) (hu : Upd [] W W') : LineAt W' B v L := by
 obtain ⟨A, c, e, h1, h2, hh⟩ := h.slice
 have hb : Below W.heap.size W W' := hu.below (Nat.le_refl _) (by simp)
 have hbB : Below B W W' := hu.below hB (by simp)
 refine ⟨A, c, e, h1, h2, fun i k coll reg ar an br bn bo el d h => ?_⟩
 obtain ⟨ad, vb, ve, e, hl, g1, g2, c0, cj⟩ := hh i k coll reg ar an br bn bo el d h
 exact ⟨ad, vb, ve, e, Nat.lt_of_lt_of_le hl hu.size, g1.belowW hbB, g2.belowW hbB, (hb.cell (by rw [block_add]; exact hl)).trans c0, fun j u hu' => (hb.cell (p := ⟨_, _, none⟩) (by rw [block_add]; exact hl)).trans (cj j u hu')⟩

/-- Lines of all, put behind none. -/
theorem lines_all (l : List Stm) (v : Value) (w : World) (hv : Stms w w.heap.size v l) (hl : sizes l ≤ 900000) :
 Calls Tryz.prog 46 #[.slice none 0 0, v, .int .i64 1] w fun e w' => ∃ v', e = .returned v' ∧ LineAt w' w.heap.size v' (linesOf 1 l) ∧ Upd [] w w' := by
 have hc := lines_ok (Nat.le_refl w.heap.size) (sizes l + 1) l v (.slice none 0 0) w 1 0 [] (by omega) hv (own_nil _ _ _ _) (Nat.le_refl _) (by omega) (by omega)
 refine hc.mono ?_
 rintro e w' ⟨v', ys, rfl, h1, h2, h3, _⟩
 exact ⟨v', rfl, lineAt_of (by omega) h1 (by simpa using h2), by simpa [Value.ownBlock] using h3⟩

set_option maxRecDepth 100000 in
set_option maxHeartbeats 2000000 in
theorem ref_right_ok (l : List Stm) (v : Value) (A : Option Addr) (n c : Nat) (ks : List Int) (w : World) (hv : Stms w w.heap.size v l) (hk : Src w 1 (.slice A n c) n (ks.map (Value.int .i64))) (hn : n ≤ 1000000) (hl : sizes l ≤ 900000) :
 Calls Tryz.prog 20 #[v, .slice A n c] w fun e w' => e = .returned (.tuple #[.int .i64 (rightR ks l).1, .int .i64 (rightR ks l).2]) ∧ Upd [] w w' := by
 have HV := Lib.hid hv
 have HK := Lib.hid hk
 have HR : Hid (rightR ks l = refR ks ((linesOf 1 l).drop 0) 0) := Lib.hid (refR_walk ks _ _)
 have HLN := Lib.hid (lines_sizes _ l 1 (Nat.le_refl _))
 clear hv hk
 go_enter Tryz.func20, Tryz.ntmps20
 go_wp2_with fail
 refine (lines_all l v w HV.out hl).mono ?_; rintro e w1 ⟨v1, rfl, hla, u1⟩
 have HLA := Lib.hid hla
 have U1 := Lib.hid u1
 obtain ⟨A1, c1, rfl, hc1, hc2, _⟩ := hla.slice
 obtain ⟨L, hL⟩ : ∃ L, linesOf 1 l = L := ⟨_, rfl⟩
 rw [hL] at HLA HLN HR hc1
 rw [hL]
 have hln : L.length ≤ 900000 := by rw [HLN.out]; exact hl
 clear hla u1 hL
 obtain ⟨m, hm⟩ : ∃ m, L.length = m := ⟨_, rfl⟩
 rw [hm] at HLA hc1 hln ⊢
 have HM := Lib.hid hm
 clear hm HLN
 go_wp2_with fail
 go_loopw [7] (fun i wr => ∃ (k : Nat), i = .int .i64 k ∧ k ≤ m ∧ Hid (rightR ks l = refR ks (L.drop k) k) ∧ Hid (Upd [] w1 wr)) (fun i _ => m - (intOf i).toNat)
 case atStart => exact ⟨0, rfl, by omega, HR, Lib.hid (.refl _ _)⟩
 case round =>
  obtain ⟨k, rfl, hk, KR, KU⟩ := hrel
  by_cases hkm : k < m
  ·obtain ⟨⟨x, d⟩, hx⟩ : ∃ x, L[k]? = some x := ⟨_, List.getElem?_eq_getElem (by rw [HM.out]; exact hkm)⟩
   obtain ⟨a1, a2, a3, a4, a5, a6, a7, bo, el⟩ := x
   obtain ⟨A2, c2, e2, _, _, hh⟩ := (HLA.out.keep U1.out.size KU.out).slice
   injection e2 with e2 e4 e3
   clear e4
   subst e2 e3
   obtain ⟨ad, vb, ve, rfl, hlt, hsb, hse, c0, cj⟩ := hh k a1 a2 a3 a4 a5 a6 a7 bo el d hx
   have HX := Lib.hid (KR.out.trans (refR_drop hx))
   obtain ⟨Ab, nb, cb, rfl⟩ := hsb.slice
   obtain ⟨Ae, ne, ce, rfl⟩ := hse.slice
   obtain ⟨hlb, hlb2⟩ := hsb.len
   obtain ⟨hle, hle2⟩ := hse.len
   subst hlb hle
   have c1 := cj 0 _ rfl
   have c2 := cj 1 _ rfl
   have c3 := cj 2 _ rfl
   have c4 := cj 3 _ rfl
   have c5 := cj 4 _ rfl
   have c6 := cj 5 _ rfl
   have c7 := cj 6 _ rfl
   have c8 := cj 7 _ rfl
   have c9 := cj 8 _ rfl
   have HK1 : Hid (Src wr 1 (.slice A n c) n (ks.map (Value.int .i64))) := Lib.hid ((HK.out.upd0 U1.out).upd0 KU.out)
   clear cj hsb hse hx hh
   by_cases h1 : 100 ≤ k
   ·have h1' : decide ((100 : Int) ≤ k) = true := by simp; omega
    have HZ : Hid (rightR ks l = (8, (k : Int) + 1)) := Lib.hid (by rw [HX.out, if_pos h1])
    go_wp2_with fail
    go_ret2
    rw [HZ.out]
    exact ⟨rfl, U1.out.trans KU.out⟩
   ·have h1' : decide ((100 : Int) ≤ k) = false := by simp; omega
    by_cases h2 : 8 < d
    ·have h2' : decide ((8 : Int) < d) = true := by simp; omega
     have HZ : Hid (rightR ks l = (10, (k : Int) + 1)) := Lib.hid (by rw [HX.out, if_neg h1, if_pos h2])
     go_wp2_with fail
     go_ret2
     rw [HZ.out]
     exact ⟨rfl, U1.out.trans KU.out⟩
    ·have h2' : decide ((8 : Int) < d) = false := by simp; omega
     have HZ : Hid (rightR ks l = if !rightV a1 a2 a3 a4 a5 a6 a7 bo.length el.length ks then (9, (k : Int) + 1) else refR ks (L.drop (k + 1)) (k + 1)) := Lib.hid (by rw [HX.out, if_neg h1, if_neg h2]; rfl)
     obtain ⟨b, hb⟩ : ∃ b, rightV a1 a2 a3 a4 a5 a6 a7 bo.length el.length ks = b := ⟨_, rfl⟩
     have HBV := Lib.hid hb
     rw [hb] at HZ
     clear hb
     go_wp2_with fail
     refine (one_ok a1 a2 a3 a4 a5 a6 a7 Ab Ae bo.length cb el.length ce A n c ks wr hn hlb2 hle2 HK1.out).mono ?_; rintro e w3 ⟨rfl, u3⟩
     rw [HBV.out]
     have U3 := Lib.hid (KU.out.trans u3)
     clear u3
     cases b with
     | false =>
       go_wp2_with fail
       go_ret2
       rw [HZ.out]
       exact ⟨rfl, U1.out.trans U3.out⟩
     | true =>
       go_wp2_with fail
       go_roundw
       case rel => exact ⟨k + 1, by go_num, by omega, Lib.hid (by rw [HZ.out]; rfl), U3⟩
       case measure => simp [intOf]; omega
  ·obtain rfl : m = k := by omega
   have HZ : Hid (rightR ks l = (0, 0)) := Lib.hid (by rw [KR.out, List.drop_eq_nil_of_le (by rw [HM.out]; exact Nat.le_refl _)]; rfl)
   go_wp2_with fail
   go_ret2
   rw [HZ.out]
   exact ⟨rfl, U1.out.trans KU.out⟩
end Go.Proofs.YtmjnmpifibemjaaGreatDoor.Old

namespace Go.Proofs.YtmjnmpifibemjaaGreatDoor
open Go.RowKit St Jd Ev
attribute [local go_sem] litStep_value

def FitPost (p : Pn) (w : World) (e : Ending) (w' : World) : Prop := ∃ e1 a1 : Int, e = .returned (.tuple #[.int .i64 e1, .int .i64 a1]) ∧ (e1 = 0 → FitP p) ∧ Upd [] w w'
/-- A plan's lists can be counted. -/
def CntP (p : Pn) : Prop := p.ks.length ≤ 9223372036854775807 ∧ p.ths.length ≤ 9223372036854775807 ∧ ∀ t ∈ p.ths, t.length ≤ 9223372036854775807
set_option maxRecDepth 100000 in
set_option maxHeartbeats 8000000 in
theorem fit_ok (p : Pn) (kv tv : Value) (w : World) (h : PlanV w p kv tv) (hz : SzP p) (hb : CntP p) :
 Calls Tryz.prog 18 #[planC p kv tv] w (FitPost p w) := by
 obtain ⟨Ak, ck, hkv⟩ : ∃ A c, kv = .slice A p.ks.length c := by obtain ⟨_, A, c, e, _⟩ := h.ks; exact ⟨A, c, e⟩
 obtain ⟨At, ct, htv⟩ : ∃ A c, tv = .slice A p.ths.length c := by obtain ⟨vs, ⟨_, A, c, e, _⟩, _⟩ := h.ths; exact ⟨A, c, e⟩
 obtain ⟨nk, hnk⟩ : ∃ k, k = p.ks.length := ⟨_, rfl⟩
 obtain ⟨nt, hnt⟩ : ∃ k, k = p.ths.length := ⟨_, rfl⟩
 rw [← hnk] at hkv
 rw [← hnt] at htv
 subst hkv htv
 have HN : Hid (nk = p.ks.length ∧ nt = p.ths.length) := Lib.hid ⟨hnk, hnt⟩
 have HP := Lib.hid h
 have HZ := Lib.hid hz
 have HB := Lib.hid hb
 have hk63 : (nk : Int) ≤ 9223372036854775807 := by have := hb.1; omega
 have ht63 : (nt : Int) ≤ 9223372036854775807 := by have := hb.2.1; omega
 obtain ⟨wo, hwo⟩ : ∃ x, x = p.words := ⟨_, rfl⟩
 obtain ⟨pa, hpa⟩ : ∃ x, x = p.pat := ⟨_, rfl⟩
 unfold planC
 rw [← hwo, ← hpa]
 clear h hz hb hnk hnt hwo hpa
 go_enter Tryz.func18, Tryz.ntmps18
 obtain ⟨w1, hw1⟩ : ∃ w1, w1 = w.alloc (.cells #[.int .i64 wo, .int .i64 pa, .slice Ak nk ck, .slice At nt ct] 25) := ⟨_, rfl⟩
 have U1 : Hid (Upd [] w w1) := Lib.hid (by rw [hw1]; exact (Upd.refl _ _).alloc _)
 have X1 : Hid (Blk w1 w.heap.size 25 #[.int .i64 wo, .int .i64 pa, .slice Ak nk ck, .slice At nt ct]) := Lib.hid (by rw [hw1]; exact Blk.new _ _ _)
 by_cases b1 : wo < 64
 ·go_wp2_with fail
  go_ret2
  exact ⟨_, _, rfl, by omega, by rw [← hw1]; exact U1.out⟩
 by_cases b2 : 16384 < wo
 ·go_wp2_with fail
  go_ret2
  exact ⟨_, _, rfl, by omega, by rw [← hw1]; exact U1.out⟩
 by_cases b3 : pa < 0
 ·go_wp2_with fail
  go_ret2
  exact ⟨_, _, rfl, by omega, by rw [← hw1]; exact U1.out⟩
 by_cases b4 : 1000000 < pa
 ·go_wp2_with fail
  go_ret2
  exact ⟨_, _, rfl, by omega, by rw [← hw1]; exact U1.out⟩
 by_cases c1 : 8 < nk
 ·have c1' : (8 : Int) < nk := by omega
  go_wp2_with fail
  go_ret2
  exact ⟨_, _, rfl, by omega, by rw [← hw1]; exact U1.out⟩
 have c1' : ¬ (8 : Int) < nk := by omega
 by_cases c2 : 6 < nt
 ·have c2' : (6 : Int) < nt := by omega
  go_wp2_with fail
  go_ret2
  exact ⟨_, _, rfl, by omega, by rw [← hw1]; exact U1.out⟩
 have c2' : ¬ (6 : Int) < nt := by omega
 have HC : Hid (nk ≤ 8 ∧ nt ≤ 6) := Lib.hid (by omega)
 clear c1 c2
 go_wp2_with fail
 rw [← hw1]
 clear hw1
 go_loopw [4] (fun u4 wr => ∃ i : Nat, u4 = .int .i64 i ∧ i ≤ nk ∧ Hid (Upd [] w1 wr ∧ ∀ j, j < i → 1 ≤ p.ks.getD j 0 ∧ p.ks.getD j 0 ≤ 3)) (fun u _ => nk - (intOf u).toNat)
 case atStart => exact ⟨0, rfl, by omega, Lib.hid ⟨.refl _ _, fun j hj => by omega⟩⟩
 case round =>
  obtain ⟨i, rfl, hi, KX⟩ := hrel
  rename World => wr
  have b0 := (X1.out.upd KX.out.1 (by simp)).facts
  by_cases hlt : i < nk
  ·have hii : (i : Int) < nk := by omega
   obtain ⟨k0, hk0⟩ : ∃ k0, p.ks[i]? = some k0 := ⟨_, List.getElem?_eq_getElem (by rw [← HN.out.1]; exact hlt)⟩
   have hcell : ∃ ad, Ak = some ad ∧ ad.block < wr.heap.size ∧ wr.cell? (ad.add i) = some (.int .i64 k0) := by
    obtain ⟨_, A', n', e, h⟩ := HP.out.ks.upd0 (U1.out.trans KX.out.1)
    injection e with e
    subst e
    exact h i _ (by rw [List.getElem?_map, hk0]; rfl)
   obtain ⟨ad, hA, had, hcell⟩ := hcell
   have HK : Hid (p.ks.getD i 0 = k0 ∧ i < nk) := Lib.hid ⟨by rw [List.getD_eq_getElem?_getD, hk0]; rfl, hlt⟩
   clear hi hlt hk0
   subst hA
   by_cases d1 : k0 < 1
   ·go_wp2_with fail
    go_ret2
    exact ⟨_, _, rfl, by omega, U1.out.trans KX.out.1⟩
   by_cases d2 : 3 < k0
   ·go_wp2_with fail
    go_ret2
    exact ⟨_, _, rfl, by omega, U1.out.trans KX.out.1⟩
   have X2 : Hid (Upd [] w1 wr ∧ ∀ j, j < i + 1 → 1 ≤ p.ks.getD j 0 ∧ p.ks.getD j 0 ≤ 3) := Lib.hid ⟨KX.out.1, fun j hj => by
    by_cases e : j = i
    ·rw [e, HK.out.1]; omega
    ·exact KX.out.2 j (by omega)⟩
   go_wp2_with fail
   go_round
   case rel => exact ⟨i + 1, by simp, by have := HK.out.2; omega, X2⟩
   case measure => have := HK.out.2; simp [intOf]; omega
  ·have hii : ¬ (i : Int) < nk := by omega
   have HKS : Hid (∀ k ∈ p.ks, 1 ≤ k ∧ k ≤ 3) := Lib.hid (fun k hk => by
    obtain ⟨j, hj⟩ := List.getElem?_of_mem hk
    have hjl := (List.getElem?_eq_some_iff.1 hj).1
    have := KX.out.2 j (by have := HN.out.1; omega)
    rw [List.getD_eq_getElem?_getD, hj] at this
    exact this)
   have UR := Lib.hid KX.out.1
   clear hi hlt KX b0
   have b0 := (X1.out.upd UR.out (by simp)).facts
   go_wp2_with fail
   clear b0
   go_loopw [5, 6, 7, 8] (fun u5 u6 u7 u8 wr2 => ∃ i : Nat, u5 = .int .i64 i ∧ i ≤ nt ∧ Hid (Upd [] wr wr2 ∧ ∀ j t, j < i → p.ths[j]? = some t → t.length ≤ 20 ∧ ∀ l ∈ t, (rightR p.ks l).1 = 0)) (fun u _ _ _ _ => nt - (intOf u).toNat)
   case atStart => exact ⟨0, rfl, by omega, Lib.hid ⟨.refl _ _, fun j t hj => by omega⟩⟩
   case round =>
    obtain ⟨i, rfl, hi, KX⟩ := hrel
    rename World => wr2
    have UX : Hid (Upd [] w1 wr2) := Lib.hid (UR.out.trans KX.out.1)
    have b0 := (X1.out.upd UX.out (by simp)).facts
    by_cases hlt : i < nt
    ·have hii : (i : Int) < nt := by omega
     obtain ⟨vs, ⟨hv1, hv2⟩, hrow⟩ := (HP.out.upd0 (U1.out.trans UX.out)).ths
     obtain ⟨A', n', e, hcells⟩ := hv2
     injection e with e e2 e3
     clear e2 e3
     subst e
     have hil : i < p.ths.length := by rw [← HN.out.2]; exact hlt
     obtain ⟨v, hv⟩ : ∃ v, vs[i]? = some v := ⟨_, List.getElem?_eq_getElem (by omega)⟩
     obtain ⟨t, ht⟩ : ∃ t, p.ths[i]? = some t := ⟨_, List.getElem?_eq_getElem hil⟩
     obtain ⟨us, ⟨hu1, Aj, cj, rfl, hu2⟩, hst⟩ := hrow i v t hv ht
     obtain ⟨ad, hA, had, hcell⟩ := hcells i _ hv
     obtain ⟨nj, hnj⟩ : ∃ k, k = t.length := ⟨_, rfl⟩
     rw [← hnj] at hcell
     have hj63 : (nj : Int) ≤ 9223372036854775807 := by have := HB.out.2.2 t (List.mem_of_getElem? ht); omega
     have HT : Hid (p.ths[i]? = some t ∧ i < nt ∧ nj = t.length ∧ us.length = t.length) := Lib.hid ⟨ht, hlt, hnj, by omega⟩
     have HU2 := Lib.hid hu2
     have HST := Lib.hid hst
     clear hv1 hcells hil hv ht hrow hu1 hu2 hst hnj hi hlt
     subst hA
     have HCL : Hid (wr2.cell? (ad.add i) = some (.slice Aj nj cj) ∧ ad.block < wr2.heap.size) := Lib.hid ⟨hcell, had⟩
     by_cases d1 : 20 < nj
     ·have d1' : (20 : Int) < nj := by omega
      go_wp2_with fail
      go_ret2
      exact ⟨_, _, rfl, by omega, U1.out.trans UX.out⟩
     have d1' : ¬ (20 : Int) < nj := by omega
     have HNJ : Hid (nj ≤ 20) := Lib.hid (by omega)
     clear d1
     go_wp2_with fail
     clear b0 hcell had
     go_loopw [6, 7, 8] (fun u6 u7 u8 wr3 => ∃ j : Nat, u6 = .int .i64 j ∧ j ≤ nj ∧ Hid (Upd [] wr2 wr3 ∧ ∀ k l, k < j → t[k]? = some l → (rightR p.ks l).1 = 0)) (fun u _ _ _ => nj - (intOf u).toNat)
     case atStart => exact ⟨0, rfl, by omega, Lib.hid ⟨.refl _ _, fun k l hk => by omega⟩⟩
     case round =>
      obtain ⟨j, rfl, hj, KY⟩ := hrel
      rename World => wr3
      have UY : Hid (Upd [] w1 wr3) := Lib.hid (UX.out.trans KY.out.1)
      have b0 := (X1.out.upd UY.out (by simp)).facts
      have bel : Below wr2.heap.size wr2 wr3 := KY.out.1.below (Nat.le_refl _) (by simp)
      have hcell : wr3.cell? (ad.add i) = some (.slice Aj nj cj) := (bel.cell (by rw [block_add]; exact HCL.out.2)).trans HCL.out.1
      have had : ad.block < wr3.heap.size := Nat.lt_of_lt_of_le HCL.out.2 KY.out.1.size
      by_cases hlt : j < nj
      ·have hjj : (j : Int) < nj := by omega
       obtain ⟨u, hu⟩ : ∃ u, us[j]? = some u := ⟨_, List.getElem?_eq_getElem (by have := HT.out; omega)⟩
       obtain ⟨l, hl⟩ : ∃ l, t[j]? = some l := ⟨_, List.getElem?_eq_getElem (by have := HT.out; omega)⟩
       have HS : Hid (Stms wr3 wr3.heap.size u l) := Lib.hid ((HST.out j u l hu hl).upd0 KY.out.1)
       obtain ⟨ad2, hA2, had2, hc2⟩ := HU2.out j u hu
       have hcell2 : wr3.cell? (ad2.add j) = some u := (bel.cell (by rw [block_add]; exact had2)).trans hc2
       have had3 : ad2.block < wr3.heap.size := Nat.lt_of_lt_of_le had2 KY.out.1.size
       have HL : Hid (t[j]? = some l ∧ j < nj) := Lib.hid ⟨hl, hlt⟩
       clear hu hl had2 hc2 hj hlt bel
       subst hA2
       go_wp2_with fail
       refine wp_forced (by kernel_rfl) (by kernel_rfl) ?_
       simp only [ordered, List.filter_cons, List.filter_nil, isFloat, Option.isNone_none, Option.isNone_some, Bool.true_and, Bool.and_true, Bool.false_and, Bool.and_false, List.all_toArray, List.all_cons, List.all_nil, Region.binds, Bool.not_true, Bool.not_false, if_true, if_false, Bool.false_eq_true, List.cons_append, List.nil_append, ite_true, ite_false]
       repeat (first | ((with_reducible refine wpF_no ?_ ?_); (· rfl); simp only [Act.put, List.setIfInBounds_toArray, List.set_cons_zero, List.set_cons_succ]) | ((with_reducible refine wpF_light ?_ (fun K hK => ?_)); (· simp only [lightOp]; done); go_simp; refine hK _ ?_; clear hK K; simp only [Act.put, List.setIfInBounds_toArray, List.set_cons_zero, List.set_cons_succ]))
       refine wpF_call (by simp only [lightOp]) (by rfl) (fun K hK => ?_)
       go_wp2_with fail
       have hks : Src wr3.drew 1 (.slice Ak nk ck) nk (p.ks.map (Value.int .i64)) := by
        have := (HP.out.ks.upd0 (U1.out.trans UY.out)).upd0 (Upd.refl _ _).drew
        rwa [← HN.out.1] at this
       refine (Old.ref_right_ok l u Ak nk ck p.ks wr3.drew (HS.out.upd0 (Upd.refl _ _).drew) hks (by have := HC.out; omega) (HZ.out t (List.mem_of_getElem? HT.out.1) l (List.mem_of_getElem? HL.out.1))).mono ?_
       rintro e w5 ⟨rfl, u5⟩
       have U5 : Hid (Upd [] wr2 w5) := Lib.hid ((KY.out.1.drew).trans u5)
       obtain ⟨e1, he1⟩ : ∃ e1, e1 = (rightR p.ks l).1 := ⟨_, rfl⟩
       obtain ⟨a1, ha1⟩ : ∃ a1, a1 = (rightR p.ks l).2 := ⟨_, rfl⟩
       rw [← he1, ← ha1]
       have HE1 := Lib.hid he1
       clear u5 hks b0 hcell had hcell2 had3 he1 ha1
       go_wp2_with fail
       refine hK.out _ _ ?_
       clear hK K
       try simp only [Act.put, List.setIfInBounds_toArray, List.set_cons_zero, List.set_cons_succ]
       repeat (first | ((with_reducible refine wpF_no ?_ ?_); (· rfl); simp only [Act.put, List.setIfInBounds_toArray, List.set_cons_zero, List.set_cons_succ]) | ((with_reducible refine wpF_light ?_ (fun K hK => ?_)); (· simp only [lightOp]; done); go_simp; refine hK _ ?_; clear hK K; simp only [Act.put, List.setIfInBounds_toArray, List.set_cons_zero, List.set_cons_succ]))
       refine wpF_end ?_
       by_cases h0 : e1 = 0
       ·subst h0
        have X5 : Hid (Upd [] wr2 w5 ∧ ∀ k l, k < j + 1 → t[k]? = some l → (rightR p.ks l).1 = 0) := Lib.hid ⟨U5.out, fun k l' hk hl' => by
         by_cases e : k = j
         ·subst e
          rw [HL.out.1] at hl'
          injection hl' with hl'
          subst hl'
          exact HE1.out.symm
         ·exact KY.out.2 k l' (by omega) hl'⟩
        go_wp2_with fail
        go_round
        case rel => exact ⟨j + 1, by simp, by have := HL.out.2; omega, X5⟩
        case measure => have := HL.out.2; simp [intOf]; omega
       ·have h0' : (e1 != 0) = true := by simpa using h0
        have H0 := Lib.hid h0
        clear h0
        go_wp2_with fail
        go_ret2
        exact ⟨_, _, rfl, fun h => absurd h H0.out, U1.out.trans (UX.out.trans U5.out)⟩
      ·have hjj : ¬ (j : Int) < nj := by omega
       have X2 : Hid (Upd [] wr wr3 ∧ ∀ k t, k < i + 1 → p.ths[k]? = some t → t.length ≤ 20 ∧ ∀ l ∈ t, (rightR p.ks l).1 = 0) := Lib.hid ⟨KX.out.1.trans KY.out.1, fun k t' hk ht' => by
        by_cases e : k = i
        ·subst e
         rw [HT.out.1] at ht'
         injection ht' with ht'
         subst ht'
         refine ⟨by rw [← HT.out.2.2.1]; exact HNJ.out, fun l hl => ?_⟩
         obtain ⟨q, hq⟩ := List.getElem?_of_mem hl
         have hql := (List.getElem?_eq_some_iff.1 hq).1
         exact KY.out.2 q l (by have := HT.out; omega) hq
        ·exact KX.out.2 k t' (by omega) ht'⟩
       clear bel hj hlt
       go_wp2_with fail
       go_round
       case rel => exact ⟨i + 1, by simp, by have := HT.out.2.1; omega, X2⟩
       case measure => have := HT.out.2.1; simp [intOf]; omega
    ·have hii : ¬ (i : Int) < nt := by omega
     have HFT : Hid (FitP p) := Lib.hid ⟨by rw [← HN.out.1]; exact HC.out.1, HKS.out, by rw [← HN.out.2]; exact HC.out.2, fun t ht => by
      obtain ⟨j, hj⟩ := List.getElem?_of_mem ht
      have hjl := (List.getElem?_eq_some_iff.1 hj).1
      exact (KX.out.2 j t (by have := HN.out.2; omega) hj).1, fun t ht => by
      obtain ⟨j, hj⟩ := List.getElem?_of_mem ht
      have hjl := (List.getElem?_eq_some_iff.1 hj).1
      exact (KX.out.2 j t (by have := HN.out.2; omega) hj).2⟩
     go_wp2_with fail
     go_ret2
     exact ⟨_, _, rfl, fun _ => HFT.out, U1.out.trans UX.out⟩
end Go.Proofs.YtmjnmpifibemjaaGreatDoor

namespace Go.Proofs.YtmjnmpifibemjaaGreatDoor
open Go.RowKit Go.Deep Go.WideShapes Go.ChangeShapes

theorem list9 {α : Type} {l : List α} (h : l.length = 9) : ∃ a0 a1 a2 a3 a4 a5 a6 a7 a8, l = [a0, a1, a2, a3, a4, a5, a6, a7, a8] := by
 match l, h with
 | [a0, a1, a2, a3, a4, a5, a6, a7, a8], _ => exact ⟨a0, a1, a2, a3, a4, a5, a6, a7, a8, rfl⟩

section
variable {H : Type} {enc : TypeId × Value → H} {W : World} {base : Nat} {spare : Nat → Bool} {held : Bool}
theorem arg_of {fuel : Nat} {a b : Value} {x : DataW H × List MemPlace} (h : DataW.trod enc Tryz.prog W base spare held fuel 60 [a, b] = some x) : ∃ i j : Int, a = .int .i64 i ∧ b = .int .i64 j := by
 obtain ⟨xs, n, _, _, hl, hxl, hf⟩ := DataW.trod_struct Tryz.underlying60 h
 have t0 := hf 0 _ rfl
 have t1 := hf 1 _ rfl
 have c1 : Tryz.prog.cellsOf 3 = 1 := by kernel_rfl
 simp only [List.getElem_toArray, List.getElem_cons_zero, List.getElem_cons_succ, c1, List.drop_zero, List.drop_succ_cons, List.take_succ_cons, List.take_zero] at t0 t1
 have hx0 : xs[0]? = some (xs[0]'(by rw [hxl]; decide)) := List.getElem?_eq_getElem _
 have hx1 : xs[1]? = some (xs[1]'(by rw [hxl]; decide)) := List.getElem?_eq_getElem _
 rw [hx0] at t0
 rw [hx1] at t1
 obtain ⟨y0, g0, _, _⟩ := DataW.trod_int Tryz.underlying3 t0
 obtain ⟨y1, g1, _, _⟩ := DataW.trod_int Tryz.underlying3 t1
 simp only [List.cons.injEq, and_true] at g0 g1
 exact ⟨y0, y1, g0, g1⟩

end
end Go.Proofs.YtmjnmpifibemjaaGreatDoor

namespace Go.Proofs.YtmjnmpifibemjaaGreatDoor
open Go.RowKit Go.WideShapes Go.ChangeShapes St

section
variable {H : Type} {enc : TypeId × Value → H} {W : World} {base b0 : Nat} {spare : Nat → Bool} {held : Bool} {v : Value} {d : DataW H} {ps : List MemPlace} {r : Reach}
end
end Go.Proofs.YtmjnmpifibemjaaGreatDoor

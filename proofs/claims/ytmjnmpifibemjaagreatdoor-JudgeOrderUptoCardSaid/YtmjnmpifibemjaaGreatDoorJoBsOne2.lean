/-
 concordref09.One at some kinds.
-/
import Derived.Test.YtmjnmpifibemjaaGreatDoorJoB17
set_option linter.unusedVariables false
namespace Go.Proofs.YtmjnmpifibemjaaGreatDoor.Old
open Go.RowKit
attribute [local go_sem] litStep_value

set_option maxRecDepth 100000 in
set_option maxHeartbeats 4000000 in
theorem one_9 (coll : Int) (reg ar an br bn : Int) (Ab Ae : Option Addr) (nb cb ne ce : Nat) (A : Option Addr) (n c : Nat) (ks : List Int) (w : World) (hn : n ≤ 1000000) (hlb : nb ≤ 9223372036854775807) (hle : ne ≤ 9223372036854775807) (hk : Src w 1 (.slice A n c) n (ks.map (Value.int .i64))) :
 Calls Tryz.prog 47 #[.agg #[.int .i64 9, .int .i64 coll, .int .i64 reg, .int .i64 ar, .int .i64 an, .int .i64 br, .int .i64 bn, .slice Ab nb cb, .slice Ae ne ce], .slice A n c] w fun e w' => e = .returned (.bool (rightV 9 coll reg ar an br bn nb ne ks)) ∧ Upd [] w w' := by
 clear hk
 by_cases h1 : coll = 0
 ·subst h1
  have hcv : Hid (collB 0 false false ks = true) := Lib.hid rfl
  by_cases r1 : 1 ≤ reg
  ·by_cases r2 : reg ≤ 8
   ·have HR : Hid (rightV 9 0 reg ar an br bn nb ne ks = (argB ar an true && argB br bn false && loopB 9 ar an && bodyB false false nb ne)) := Lib.hid (rv_rest hcv.out (by simp [regB, r1, r2, show pReg 9 = true from rfl]) rfl)
    go_enter Tryz.func47, Tryz.ntmps47
    go_wp2_with fail
    refine (in_ok 9 _ 7 [1, 4, 5, 6, 7, 9, 10] _ (by exact Src.newAt (by simp) 7 rfl) (by omega)).mono ?_; rintro e w1 ⟨rfl, rfl⟩
    rw [show inB 9 [1, 4, 5, 6, 7, 9, 10] = true from rfl]
    go_wp2_with fail
    have B0 : Hid (Blk ((w.alloc (.cells #[.int .i64 9, .int .i64 0, .int .i64 reg, .int .i64 ar, .int .i64 an, .int .i64 br, .int .i64 bn, .slice Ab nb cb, .slice Ae ne ce] 62)).alloc (.cells #[.int .i64 1, .int .i64 4, .int .i64 5, .int .i64 6, .int .i64 7, .int .i64 9, .int .i64 10] 3)) w.heap.size 62 #[.int .i64 9, .int .i64 0, .int .i64 reg, .int .i64 ar, .int .i64 an, .int .i64 br, .int .i64 bn, .slice Ab nb cb, .slice Ae ne ce]) := Lib.hid ((Blk.new w _ _).alloc _)
    have U0 : Hid (Upd [] w ((w.alloc (.cells #[.int .i64 9, .int .i64 0, .int .i64 reg, .int .i64 ar, .int .i64 an, .int .i64 br, .int .i64 bn, .slice Ab nb cb, .slice Ae ne ce] 62)).alloc (.cells #[.int .i64 1, .int .i64 4, .int .i64 5, .int .i64 6, .int .i64 7, .int .i64 9, .int .i64 10] 3))) := Lib.hid (((Upd.refl [] w).alloc _).alloc _)
    generalize ((w.alloc (.cells #[.int .i64 9, .int .i64 0, .int .i64 reg, .int .i64 ar, .int .i64 an, .int .i64 br, .int .i64 bn, .slice Ab nb cb, .slice Ae ne ce] 62)).alloc (.cells #[.int .i64 1, .int .i64 4, .int .i64 5, .int .i64 6, .int .i64 7, .int .i64 9, .int .i64 10] 3)) = w1 at *
    have CS : Hid (∀ W, Upd [] w1.drew W → (∀ i, W.cell? ⟨w.heap.size, i, none⟩ = (#[.int .i64 9, .int .i64 0, .int .i64 reg, .int .i64 ar, .int .i64 an, .int .i64 br, .int .i64 bn, .slice Ab nb cb, .slice Ae ne ce] : Array Value)[i]?)) := Lib.hid (fun W hW => (B0.out.drew.upd hW (by simp)).cell)
    obtain ⟨av, hav⟩ : ∃ y, argB ar an true = y := ⟨_, rfl⟩
    obtain ⟨bv, hbv⟩ : ∃ y, argB br bn false = y := ⟨_, rfl⟩
    have HAV := Lib.hid hav
    have HBV := Lib.hid hbv
    rw [hav, hbv] at HR
    clear hav hbv
    cases av with
    | false =>
      refine wp_invN [(3, .src 1 10 [.int .i64 1, .int .i64 2, .int .i64 3, .int .i64 4, .int .i64 6, .int .i64 7, .int .i64 9, .int .i64 10, .int .i64 11, .int .i64 12]), (4, .det (.bool true)), (5, .det (.bool false))] [] (by kernel_rfl) (by kernel_rfl) ⟨lasts_src _ _ _, lasts_det _, lasts_det _, trivial⟩ ?_
      iterate 3 (
       with_reducible apply wpV_light
       ·simp only [lightOp]
       ·intro W hU hF
        have f0 := CS.out W hU
        clear hU hF
        go_simp
        exact rfl
       simp only [Act.put, List.setIfInBounds_toArray, List.set_cons_zero, List.set_cons_succ])
      refine wpV_heavy (by simp only [lightOp]) (by rfl) (fun W hU hk hF K hK => ?_) ?_
      ·go_wp2_with fail
       refine hK.out _ _ (outV_new rfl ?_ ?_ ((Upd.refl _ _).alloc _))
       ·exact Src.newAt rfl 10 rfl
       ·intro b hb
        simp [mkI, specOf, Spec.src, Value.ownBlock] at hb
        subst hb; simp
      rintro _ ⟨A10, c10, rfl⟩
      simp only [Act.put, List.setIfInBounds_toArray, List.set_cons_zero, List.set_cons_succ]
      refine wpV_heavy (by simp only [lightOp]) (by rfl) (fun W hU hk hF K hK => ?_) ?_
      ·go_wp2_with fail
       have g := hF.out
       refine (in_ok 9 _ 10 [1, 2, 3, 4, 6, 7, 9, 10, 11, 12] _ (by exact g.1 (by kernel_rfl)) (by omega)).mono ?_; rintro e w2 ⟨rfl, rfl⟩
       go_wp2_with fail
       exact hK.out _ _ (outV_new rfl rfl (by intro b hb; cases hb) (.refl _ _))
      rintro _ rfl
      simp only [Act.put, List.setIfInBounds_toArray, List.set_cons_zero, List.set_cons_succ]
      refine wpV_heavy (by simp only [lightOp]) (by rfl) (fun W hU hk hF K hK => ?_) ?_
      ·go_wp2_with fail
       refine (arg_ok_ref ar an true _).mono ?_; rintro e w2 ⟨rfl, u2⟩
       rw [HAV.out]
       go_wp2_with fail
       exact hK.out _ _ (outV_new rfl rfl (by intro b hb; cases hb) u2)
      rintro _ rfl
      simp only [Act.put, List.setIfInBounds_toArray, List.set_cons_zero, List.set_cons_succ]
      iterate 2 (
       with_reducible apply wpV_light
       ·simp only [lightOp]
       ·intro W hU hF
        have f0 := CS.out W hU
        clear hU hF
        go_simp
        exact rfl
       simp only [Act.put, List.setIfInBounds_toArray, List.set_cons_zero, List.set_cons_succ])
      iterate 3 (
       refine wpV_skip (by rfl) (by simp only [lightOp]) ?_
       simp only [Act.put, List.setIfInBounds_toArray, List.set_cons_zero, List.set_cons_succ])
      iterate 3 (
       refine wpV_heavySkip (by simp only [lightOp]) (by rfl) (fun W hU hk => outV_new rfl trivial (by intro b hb; cases hb) (.refl _ _)) ?_
       rintro _ trivial
       simp only [Act.put, List.setIfInBounds_toArray, List.set_cons_zero, List.set_cons_succ])
      refine wpV_skip (by rfl) (by simp only [lightOp]) ?_
      simp only [Act.put, List.setIfInBounds_toArray, List.set_cons_zero, List.set_cons_succ]
      with_reducible apply wpV_light
      ·simp only [lightOp]
      ·intro W hU hF
       have f0 := CS.out W hU
       clear hU hF
       go_simp
       exact rfl
      simp only [Act.put, List.setIfInBounds_toArray, List.set_cons_zero, List.set_cons_succ]
      refine wpV_end (fun W hU _ _ => ?_)
      have U1 := Lib.hid (U0.out.trans ((Upd.refl [] w1).drew.trans hU))
      clear hU
      go_wp2_with fail
      go_ret
      rw [HR.out]
      exact ⟨by simp, U1.out⟩
    | true =>
      refine wp_invN [(3, .src 1 10 [.int .i64 1, .int .i64 2, .int .i64 3, .int .i64 4, .int .i64 6, .int .i64 7, .int .i64 9, .int .i64 10, .int .i64 11, .int .i64 12]), (4, .det (.bool true)), (5, .det (.bool true)), (11, .src 1 4 [.int .i64 2, .int .i64 7, .int .i64 10, .int .i64 11]), (12, .det (.bool false)), (13, .det (.bool bv))] [] (by kernel_rfl) (by kernel_rfl) ⟨lasts_src _ _ _, lasts_det _, lasts_det _, lasts_src _ _ _, lasts_det _, lasts_det _, trivial⟩ ?_
      iterate 3 (
       with_reducible apply wpV_light
       ·simp only [lightOp]
       ·intro W hU hF
        have f0 := CS.out W hU
        clear hU hF
        go_simp
        exact rfl
       simp only [Act.put, List.setIfInBounds_toArray, List.set_cons_zero, List.set_cons_succ])
      refine wpV_heavy (by simp only [lightOp]) (by rfl) (fun W hU hk hF K hK => ?_) ?_
      ·go_wp2_with fail
       refine hK.out _ _ (outV_new rfl ?_ ?_ ((Upd.refl _ _).alloc _))
       ·exact Src.newAt rfl 10 rfl
       ·intro b hb
        simp [mkI, specOf, Spec.src, Value.ownBlock] at hb
        subst hb; simp
      rintro _ ⟨A10, c10, rfl⟩
      simp only [Act.put, List.setIfInBounds_toArray, List.set_cons_zero, List.set_cons_succ]
      refine wpV_heavy (by simp only [lightOp]) (by rfl) (fun W hU hk hF K hK => ?_) ?_
      ·go_wp2_with fail
       have g := hF.out
       refine (in_ok 9 _ 10 [1, 2, 3, 4, 6, 7, 9, 10, 11, 12] _ (by exact g.1 (by kernel_rfl)) (by omega)).mono ?_; rintro e w2 ⟨rfl, rfl⟩
       go_wp2_with fail
       exact hK.out _ _ (outV_new rfl rfl (by intro b hb; cases hb) (.refl _ _))
      rintro _ rfl
      simp only [Act.put, List.setIfInBounds_toArray, List.set_cons_zero, List.set_cons_succ]
      refine wpV_heavy (by simp only [lightOp]) (by rfl) (fun W hU hk hF K hK => ?_) ?_
      ·go_wp2_with fail
       refine (arg_ok_ref ar an true _).mono ?_; rintro e w2 ⟨rfl, u2⟩
       rw [HAV.out]
       go_wp2_with fail
       exact hK.out _ _ (outV_new rfl rfl (by intro b hb; cases hb) u2)
      rintro _ rfl
      simp only [Act.put, List.setIfInBounds_toArray, List.set_cons_zero, List.set_cons_succ]
      iterate 5 (
       with_reducible apply wpV_light
       ·simp only [lightOp]
       ·intro W hU hF
        have f0 := CS.out W hU
        clear hU hF
        go_simp
        exact rfl
       simp only [Act.put, List.setIfInBounds_toArray, List.set_cons_zero, List.set_cons_succ])
      refine wpV_heavy (by simp only [lightOp]) (by rfl) (fun W hU hk hF K hK => ?_) ?_
      ·go_wp2_with fail
       refine hK.out _ _ (outV_new rfl ?_ ?_ ((Upd.refl _ _).alloc _))
       ·exact Src.newAt rfl 4 rfl
       ·intro b hb
        simp [mkI, specOf, Spec.src, Value.ownBlock] at hb
        subst hb; simp
      rintro _ ⟨A4, c4, rfl⟩
      simp only [Act.put, List.setIfInBounds_toArray, List.set_cons_zero, List.set_cons_succ]
      refine wpV_heavy (by simp only [lightOp]) (by rfl) (fun W hU hk hF K hK => ?_) ?_
      ·go_wp2_with fail
       have g := hF.out
       refine (in_ok 9 _ 4 [2, 7, 10, 11] _ (by exact g.2.2.2.1 (by kernel_rfl)) (by omega)).mono ?_; rintro e w2 ⟨rfl, rfl⟩
       go_wp2_with fail
       exact hK.out _ _ (outV_new rfl rfl (by intro b hb; cases hb) (.refl _ _))
      rintro _ rfl
      simp only [Act.put, List.setIfInBounds_toArray, List.set_cons_zero, List.set_cons_succ]
      refine wpV_heavy (by simp only [lightOp]) (by rfl) (fun W hU hk hF K hK => ?_) ?_
      ·go_wp2_with fail
       refine (arg_ok_ref br bn false _).mono ?_; rintro e w2 ⟨rfl, u2⟩
       rw [HBV.out]
       go_wp2_with fail
       exact hK.out _ _ (outV_new rfl rfl (by intro b hb; cases hb) u2)
      rintro _ rfl
      simp only [Act.put, List.setIfInBounds_toArray, List.set_cons_zero, List.set_cons_succ]
      iterate 2 (
       with_reducible apply wpV_light
       ·simp only [lightOp]
       ·intro W hU hF
        have f0 := CS.out W hU
        clear hU hF
        go_simp
        exact rfl
       simp only [Act.put, List.setIfInBounds_toArray, List.set_cons_zero, List.set_cons_succ])
      refine wpV_end (fun W hU _ _ => ?_)
      have U1 := Lib.hid (U0.out.trans ((Upd.refl [] w1).drew.trans hU))
      have f := CS.out W hU
      clear hU
      cases bv with
      | false =>
        go_wp2_with fail
        go_ret
        rw [HR.out]
        exact ⟨by simp, U1.out⟩
      | true =>
        rcases Nat.eq_zero_or_pos nb with hznb | hznb
        ·have znb : ((nb : Int) == 0) = true := by simp [hznb]
         have ynb : (nb == 0) = true := by simp [hznb]
         clear hznb
         rcases Nat.eq_zero_or_pos ne with hzne | hzne
         ·have zne : ((ne : Int) == 0) = true := by simp [hzne]
          have yne : (ne == 0) = true := by simp [hzne]
          clear hzne
          have HR2 : Hid (rightV 9 0 reg ar an br bn nb ne ks = true) := Lib.hid (by rw [HR.out]; simp [loopB, bodyB, *])
          go_wp2_with fail
          go_ret
          rw [HR2.out]
          exact ⟨rfl, U1.out⟩
         ·have zne : ((ne : Int) == 0) = false := by
           have : ¬ (ne : Int) = 0 := by omega
           simpa using this
          have yne : (ne == 0) = false := by
           have : ¬ ne = 0 := by omega
           simpa using this
          have HR2 : Hid (rightV 9 0 reg ar an br bn nb ne ks = false) := Lib.hid (by rw [HR.out]; simp [loopB, bodyB, *])
          go_wp2_with fail
          go_ret
          rw [HR2.out]
          exact ⟨rfl, U1.out⟩
        ·have znb : ((nb : Int) == 0) = false := by
          have : ¬ (nb : Int) = 0 := by omega
          simpa using this
         have ynb : (nb == 0) = false := by
          have : ¬ nb = 0 := by omega
          simpa using this
         rcases Nat.eq_zero_or_pos ne with hzne | hzne
         ·have zne : ((ne : Int) == 0) = true := by simp [hzne]
          have yne : (ne == 0) = true := by simp [hzne]
          clear hzne
          have HR2 : Hid (rightV 9 0 reg ar an br bn nb ne ks = false) := Lib.hid (by rw [HR.out]; simp [loopB, bodyB, *])
          go_wp2_with fail
          go_ret
          rw [HR2.out]
          exact ⟨rfl, U1.out⟩
         ·have zne : ((ne : Int) == 0) = false := by
           have : ¬ (ne : Int) = 0 := by omega
           simpa using this
          have yne : (ne == 0) = false := by
           have : ¬ ne = 0 := by omega
           simpa using this
          have HR2 : Hid (rightV 9 0 reg ar an br bn nb ne ks = false) := Lib.hid (by rw [HR.out]; simp [loopB, bodyB, *])
          go_wp2_with fail
          go_ret
          rw [HR2.out]
          exact ⟨rfl, U1.out⟩
   ·have q : decide (reg ≤ 8) = false := by simp; omega
    have q2 : decide (8 < reg) = true := by simp; omega
    have HR : Hid (rightV 9 0 reg ar an br bn nb ne ks = false) := Lib.hid (rv_reg (by simp [regB, q, show pReg 9 = true from rfl]))
    go_enter Tryz.func47, Tryz.ntmps47
    go_wp2_with fail
    refine (in_ok 9 _ 7 [1, 4, 5, 6, 7, 9, 10] _ (by exact Src.newAt (by simp) 7 rfl) (by omega)).mono ?_; rintro e w1 ⟨rfl, rfl⟩
    rw [show inB 9 [1, 4, 5, 6, 7, 9, 10] = true from rfl]
    go_wp2_with fail
    go_ret
    rw [HR.out]
    exact ⟨rfl, ((Upd.refl [] w).alloc _).alloc _⟩
  ·have q : decide (1 ≤ reg) = false := by simp; omega
   have q2 : decide (reg < 1) = true := by simp; omega
   have HR : Hid (rightV 9 0 reg ar an br bn nb ne ks = false) := Lib.hid (rv_reg (by simp [regB, q, show pReg 9 = true from rfl]))
   go_enter Tryz.func47, Tryz.ntmps47
   go_wp2_with fail
   refine (in_ok 9 _ 7 [1, 4, 5, 6, 7, 9, 10] _ (by exact Src.newAt (by simp) 7 rfl) (by omega)).mono ?_; rintro e w1 ⟨rfl, rfl⟩
   rw [show inB 9 [1, 4, 5, 6, 7, 9, 10] = true from rfl]
   go_wp2_with fail
   go_ret
   rw [HR.out]
   exact ⟨rfl, ((Upd.refl [] w).alloc _).alloc _⟩
 ·have q : (coll == 0) = false := by simpa using h1
  have q2 : (coll != 0) = true := by simpa using h1
  have HR : Hid (rightV 9 coll reg ar an br bn nb ne ks = false) := Lib.hid (rv_coll q)
  go_enter Tryz.func47, Tryz.ntmps47
  go_wp2_with fail
  go_ret
  rw [HR.out]
  exact ⟨rfl, (Upd.refl [] w).alloc _⟩
set_option maxRecDepth 100000 in
set_option maxHeartbeats 4000000 in
theorem one_10 (coll : Int) (reg ar an br bn : Int) (Ab Ae : Option Addr) (nb cb ne ce : Nat) (A : Option Addr) (n c : Nat) (ks : List Int) (w : World) (hn : n ≤ 1000000) (hlb : nb ≤ 9223372036854775807) (hle : ne ≤ 9223372036854775807) (hk : Src w 1 (.slice A n c) n (ks.map (Value.int .i64))) :
 Calls Tryz.prog 47 #[.agg #[.int .i64 10, .int .i64 coll, .int .i64 reg, .int .i64 ar, .int .i64 an, .int .i64 br, .int .i64 bn, .slice Ab nb cb, .slice Ae ne ce], .slice A n c] w fun e w' => e = .returned (.bool (rightV 10 coll reg ar an br bn nb ne ks)) ∧ Upd [] w w' := by
 clear hk
 by_cases h1 : coll = 0
 ·subst h1
  have hcv : Hid (collB 0 false false ks = true) := Lib.hid rfl
  by_cases r1 : 1 ≤ reg
  ·by_cases r2 : reg ≤ 8
   ·have HR : Hid (rightV 10 0 reg ar an br bn nb ne ks = (argB ar an true && argB br bn true && loopB 10 ar an && bodyB false false nb ne)) := Lib.hid (rv_rest hcv.out (by simp [regB, r1, r2, show pReg 10 = true from rfl]) rfl)
    go_enter Tryz.func47, Tryz.ntmps47
    go_wp2_with fail
    refine (in_ok 10 _ 7 [1, 4, 5, 6, 7, 9, 10] _ (by exact Src.newAt (by simp) 7 rfl) (by omega)).mono ?_; rintro e w1 ⟨rfl, rfl⟩
    rw [show inB 10 [1, 4, 5, 6, 7, 9, 10] = true from rfl]
    go_wp2_with fail
    have B0 : Hid (Blk ((w.alloc (.cells #[.int .i64 10, .int .i64 0, .int .i64 reg, .int .i64 ar, .int .i64 an, .int .i64 br, .int .i64 bn, .slice Ab nb cb, .slice Ae ne ce] 62)).alloc (.cells #[.int .i64 1, .int .i64 4, .int .i64 5, .int .i64 6, .int .i64 7, .int .i64 9, .int .i64 10] 3)) w.heap.size 62 #[.int .i64 10, .int .i64 0, .int .i64 reg, .int .i64 ar, .int .i64 an, .int .i64 br, .int .i64 bn, .slice Ab nb cb, .slice Ae ne ce]) := Lib.hid ((Blk.new w _ _).alloc _)
    have U0 : Hid (Upd [] w ((w.alloc (.cells #[.int .i64 10, .int .i64 0, .int .i64 reg, .int .i64 ar, .int .i64 an, .int .i64 br, .int .i64 bn, .slice Ab nb cb, .slice Ae ne ce] 62)).alloc (.cells #[.int .i64 1, .int .i64 4, .int .i64 5, .int .i64 6, .int .i64 7, .int .i64 9, .int .i64 10] 3))) := Lib.hid (((Upd.refl [] w).alloc _).alloc _)
    generalize ((w.alloc (.cells #[.int .i64 10, .int .i64 0, .int .i64 reg, .int .i64 ar, .int .i64 an, .int .i64 br, .int .i64 bn, .slice Ab nb cb, .slice Ae ne ce] 62)).alloc (.cells #[.int .i64 1, .int .i64 4, .int .i64 5, .int .i64 6, .int .i64 7, .int .i64 9, .int .i64 10] 3)) = w1 at *
    have CS : Hid (∀ W, Upd [] w1.drew W → (∀ i, W.cell? ⟨w.heap.size, i, none⟩ = (#[.int .i64 10, .int .i64 0, .int .i64 reg, .int .i64 ar, .int .i64 an, .int .i64 br, .int .i64 bn, .slice Ab nb cb, .slice Ae ne ce] : Array Value)[i]?)) := Lib.hid (fun W hW => (B0.out.drew.upd hW (by simp)).cell)
    obtain ⟨av, hav⟩ : ∃ y, argB ar an true = y := ⟨_, rfl⟩
    obtain ⟨bv, hbv⟩ : ∃ y, argB br bn true = y := ⟨_, rfl⟩
    have HAV := Lib.hid hav
    have HBV := Lib.hid hbv
    rw [hav, hbv] at HR
    clear hav hbv
    cases av with
    | false =>
      refine wp_invN [(3, .src 1 10 [.int .i64 1, .int .i64 2, .int .i64 3, .int .i64 4, .int .i64 6, .int .i64 7, .int .i64 9, .int .i64 10, .int .i64 11, .int .i64 12]), (4, .det (.bool true)), (5, .det (.bool false))] [] (by kernel_rfl) (by kernel_rfl) ⟨lasts_src _ _ _, lasts_det _, lasts_det _, trivial⟩ ?_
      iterate 3 (
       with_reducible apply wpV_light
       ·simp only [lightOp]
       ·intro W hU hF
        have f0 := CS.out W hU
        clear hU hF
        go_simp
        exact rfl
       simp only [Act.put, List.setIfInBounds_toArray, List.set_cons_zero, List.set_cons_succ])
      refine wpV_heavy (by simp only [lightOp]) (by rfl) (fun W hU hk hF K hK => ?_) ?_
      ·go_wp2_with fail
       refine hK.out _ _ (outV_new rfl ?_ ?_ ((Upd.refl _ _).alloc _))
       ·exact Src.newAt rfl 10 rfl
       ·intro b hb
        simp [mkI, specOf, Spec.src, Value.ownBlock] at hb
        subst hb; simp
      rintro _ ⟨A10, c10, rfl⟩
      simp only [Act.put, List.setIfInBounds_toArray, List.set_cons_zero, List.set_cons_succ]
      refine wpV_heavy (by simp only [lightOp]) (by rfl) (fun W hU hk hF K hK => ?_) ?_
      ·go_wp2_with fail
       have g := hF.out
       refine (in_ok 10 _ 10 [1, 2, 3, 4, 6, 7, 9, 10, 11, 12] _ (by exact g.1 (by kernel_rfl)) (by omega)).mono ?_; rintro e w2 ⟨rfl, rfl⟩
       go_wp2_with fail
       exact hK.out _ _ (outV_new rfl rfl (by intro b hb; cases hb) (.refl _ _))
      rintro _ rfl
      simp only [Act.put, List.setIfInBounds_toArray, List.set_cons_zero, List.set_cons_succ]
      refine wpV_heavy (by simp only [lightOp]) (by rfl) (fun W hU hk hF K hK => ?_) ?_
      ·go_wp2_with fail
       refine (arg_ok_ref ar an true _).mono ?_; rintro e w2 ⟨rfl, u2⟩
       rw [HAV.out]
       go_wp2_with fail
       exact hK.out _ _ (outV_new rfl rfl (by intro b hb; cases hb) u2)
      rintro _ rfl
      simp only [Act.put, List.setIfInBounds_toArray, List.set_cons_zero, List.set_cons_succ]
      iterate 2 (
       with_reducible apply wpV_light
       ·simp only [lightOp]
       ·intro W hU hF
        have f0 := CS.out W hU
        clear hU hF
        go_simp
        exact rfl
       simp only [Act.put, List.setIfInBounds_toArray, List.set_cons_zero, List.set_cons_succ])
      iterate 3 (
       refine wpV_skip (by rfl) (by simp only [lightOp]) ?_
       simp only [Act.put, List.setIfInBounds_toArray, List.set_cons_zero, List.set_cons_succ])
      iterate 3 (
       refine wpV_heavySkip (by simp only [lightOp]) (by rfl) (fun W hU hk => outV_new rfl trivial (by intro b hb; cases hb) (.refl _ _)) ?_
       rintro _ trivial
       simp only [Act.put, List.setIfInBounds_toArray, List.set_cons_zero, List.set_cons_succ])
      refine wpV_skip (by rfl) (by simp only [lightOp]) ?_
      simp only [Act.put, List.setIfInBounds_toArray, List.set_cons_zero, List.set_cons_succ]
      with_reducible apply wpV_light
      ·simp only [lightOp]
      ·intro W hU hF
       have f0 := CS.out W hU
       clear hU hF
       go_simp
       exact rfl
      simp only [Act.put, List.setIfInBounds_toArray, List.set_cons_zero, List.set_cons_succ]
      refine wpV_end (fun W hU _ _ => ?_)
      have U1 := Lib.hid (U0.out.trans ((Upd.refl [] w1).drew.trans hU))
      clear hU
      go_wp2_with fail
      go_ret
      rw [HR.out]
      exact ⟨by simp, U1.out⟩
    | true =>
      refine wp_invN [(3, .src 1 10 [.int .i64 1, .int .i64 2, .int .i64 3, .int .i64 4, .int .i64 6, .int .i64 7, .int .i64 9, .int .i64 10, .int .i64 11, .int .i64 12]), (4, .det (.bool true)), (5, .det (.bool true)), (11, .src 1 4 [.int .i64 2, .int .i64 7, .int .i64 10, .int .i64 11]), (12, .det (.bool true)), (13, .det (.bool bv))] [] (by kernel_rfl) (by kernel_rfl) ⟨lasts_src _ _ _, lasts_det _, lasts_det _, lasts_src _ _ _, lasts_det _, lasts_det _, trivial⟩ ?_
      iterate 3 (
       with_reducible apply wpV_light
       ·simp only [lightOp]
       ·intro W hU hF
        have f0 := CS.out W hU
        clear hU hF
        go_simp
        exact rfl
       simp only [Act.put, List.setIfInBounds_toArray, List.set_cons_zero, List.set_cons_succ])
      refine wpV_heavy (by simp only [lightOp]) (by rfl) (fun W hU hk hF K hK => ?_) ?_
      ·go_wp2_with fail
       refine hK.out _ _ (outV_new rfl ?_ ?_ ((Upd.refl _ _).alloc _))
       ·exact Src.newAt rfl 10 rfl
       ·intro b hb
        simp [mkI, specOf, Spec.src, Value.ownBlock] at hb
        subst hb; simp
      rintro _ ⟨A10, c10, rfl⟩
      simp only [Act.put, List.setIfInBounds_toArray, List.set_cons_zero, List.set_cons_succ]
      refine wpV_heavy (by simp only [lightOp]) (by rfl) (fun W hU hk hF K hK => ?_) ?_
      ·go_wp2_with fail
       have g := hF.out
       refine (in_ok 10 _ 10 [1, 2, 3, 4, 6, 7, 9, 10, 11, 12] _ (by exact g.1 (by kernel_rfl)) (by omega)).mono ?_; rintro e w2 ⟨rfl, rfl⟩
       go_wp2_with fail
       exact hK.out _ _ (outV_new rfl rfl (by intro b hb; cases hb) (.refl _ _))
      rintro _ rfl
      simp only [Act.put, List.setIfInBounds_toArray, List.set_cons_zero, List.set_cons_succ]
      refine wpV_heavy (by simp only [lightOp]) (by rfl) (fun W hU hk hF K hK => ?_) ?_
      ·go_wp2_with fail
       refine (arg_ok_ref ar an true _).mono ?_; rintro e w2 ⟨rfl, u2⟩
       rw [HAV.out]
       go_wp2_with fail
       exact hK.out _ _ (outV_new rfl rfl (by intro b hb; cases hb) u2)
      rintro _ rfl
      simp only [Act.put, List.setIfInBounds_toArray, List.set_cons_zero, List.set_cons_succ]
      iterate 5 (
       with_reducible apply wpV_light
       ·simp only [lightOp]
       ·intro W hU hF
        have f0 := CS.out W hU
        clear hU hF
        go_simp
        exact rfl
       simp only [Act.put, List.setIfInBounds_toArray, List.set_cons_zero, List.set_cons_succ])
      refine wpV_heavy (by simp only [lightOp]) (by rfl) (fun W hU hk hF K hK => ?_) ?_
      ·go_wp2_with fail
       refine hK.out _ _ (outV_new rfl ?_ ?_ ((Upd.refl _ _).alloc _))
       ·exact Src.newAt rfl 4 rfl
       ·intro b hb
        simp [mkI, specOf, Spec.src, Value.ownBlock] at hb
        subst hb; simp
      rintro _ ⟨A4, c4, rfl⟩
      simp only [Act.put, List.setIfInBounds_toArray, List.set_cons_zero, List.set_cons_succ]
      refine wpV_heavy (by simp only [lightOp]) (by rfl) (fun W hU hk hF K hK => ?_) ?_
      ·go_wp2_with fail
       have g := hF.out
       refine (in_ok 10 _ 4 [2, 7, 10, 11] _ (by exact g.2.2.2.1 (by kernel_rfl)) (by omega)).mono ?_; rintro e w2 ⟨rfl, rfl⟩
       go_wp2_with fail
       exact hK.out _ _ (outV_new rfl rfl (by intro b hb; cases hb) (.refl _ _))
      rintro _ rfl
      simp only [Act.put, List.setIfInBounds_toArray, List.set_cons_zero, List.set_cons_succ]
      refine wpV_heavy (by simp only [lightOp]) (by rfl) (fun W hU hk hF K hK => ?_) ?_
      ·go_wp2_with fail
       refine (arg_ok_ref br bn true _).mono ?_; rintro e w2 ⟨rfl, u2⟩
       rw [HBV.out]
       go_wp2_with fail
       exact hK.out _ _ (outV_new rfl rfl (by intro b hb; cases hb) u2)
      rintro _ rfl
      simp only [Act.put, List.setIfInBounds_toArray, List.set_cons_zero, List.set_cons_succ]
      iterate 2 (
       with_reducible apply wpV_light
       ·simp only [lightOp]
       ·intro W hU hF
        have f0 := CS.out W hU
        clear hU hF
        go_simp
        exact rfl
       simp only [Act.put, List.setIfInBounds_toArray, List.set_cons_zero, List.set_cons_succ])
      refine wpV_end (fun W hU _ _ => ?_)
      have U1 := Lib.hid (U0.out.trans ((Upd.refl [] w1).drew.trans hU))
      have f := CS.out W hU
      clear hU
      cases bv with
      | false =>
        go_wp2_with fail
        go_ret
        rw [HR.out]
        exact ⟨by simp, U1.out⟩
      | true =>
        rcases Nat.eq_zero_or_pos nb with hznb | hznb
        ·have znb : ((nb : Int) == 0) = true := by simp [hznb]
         have ynb : (nb == 0) = true := by simp [hznb]
         clear hznb
         rcases Nat.eq_zero_or_pos ne with hzne | hzne
         ·have zne : ((ne : Int) == 0) = true := by simp [hzne]
          have yne : (ne == 0) = true := by simp [hzne]
          clear hzne
          have HR2 : Hid (rightV 10 0 reg ar an br bn nb ne ks = true) := Lib.hid (by rw [HR.out]; simp [loopB, bodyB, *])
          go_wp2_with fail
          go_ret
          rw [HR2.out]
          exact ⟨rfl, U1.out⟩
         ·have zne : ((ne : Int) == 0) = false := by
           have : ¬ (ne : Int) = 0 := by omega
           simpa using this
          have yne : (ne == 0) = false := by
           have : ¬ ne = 0 := by omega
           simpa using this
          have HR2 : Hid (rightV 10 0 reg ar an br bn nb ne ks = false) := Lib.hid (by rw [HR.out]; simp [loopB, bodyB, *])
          go_wp2_with fail
          go_ret
          rw [HR2.out]
          exact ⟨rfl, U1.out⟩
        ·have znb : ((nb : Int) == 0) = false := by
          have : ¬ (nb : Int) = 0 := by omega
          simpa using this
         have ynb : (nb == 0) = false := by
          have : ¬ nb = 0 := by omega
          simpa using this
         rcases Nat.eq_zero_or_pos ne with hzne | hzne
         ·have zne : ((ne : Int) == 0) = true := by simp [hzne]
          have yne : (ne == 0) = true := by simp [hzne]
          clear hzne
          have HR2 : Hid (rightV 10 0 reg ar an br bn nb ne ks = false) := Lib.hid (by rw [HR.out]; simp [loopB, bodyB, *])
          go_wp2_with fail
          go_ret
          rw [HR2.out]
          exact ⟨rfl, U1.out⟩
         ·have zne : ((ne : Int) == 0) = false := by
           have : ¬ (ne : Int) = 0 := by omega
           simpa using this
          have yne : (ne == 0) = false := by
           have : ¬ ne = 0 := by omega
           simpa using this
          have HR2 : Hid (rightV 10 0 reg ar an br bn nb ne ks = false) := Lib.hid (by rw [HR.out]; simp [loopB, bodyB, *])
          go_wp2_with fail
          go_ret
          rw [HR2.out]
          exact ⟨rfl, U1.out⟩
   ·have q : decide (reg ≤ 8) = false := by simp; omega
    have q2 : decide (8 < reg) = true := by simp; omega
    have HR : Hid (rightV 10 0 reg ar an br bn nb ne ks = false) := Lib.hid (rv_reg (by simp [regB, q, show pReg 10 = true from rfl]))
    go_enter Tryz.func47, Tryz.ntmps47
    go_wp2_with fail
    refine (in_ok 10 _ 7 [1, 4, 5, 6, 7, 9, 10] _ (by exact Src.newAt (by simp) 7 rfl) (by omega)).mono ?_; rintro e w1 ⟨rfl, rfl⟩
    rw [show inB 10 [1, 4, 5, 6, 7, 9, 10] = true from rfl]
    go_wp2_with fail
    go_ret
    rw [HR.out]
    exact ⟨rfl, ((Upd.refl [] w).alloc _).alloc _⟩
  ·have q : decide (1 ≤ reg) = false := by simp; omega
   have q2 : decide (reg < 1) = true := by simp; omega
   have HR : Hid (rightV 10 0 reg ar an br bn nb ne ks = false) := Lib.hid (rv_reg (by simp [regB, q, show pReg 10 = true from rfl]))
   go_enter Tryz.func47, Tryz.ntmps47
   go_wp2_with fail
   refine (in_ok 10 _ 7 [1, 4, 5, 6, 7, 9, 10] _ (by exact Src.newAt (by simp) 7 rfl) (by omega)).mono ?_; rintro e w1 ⟨rfl, rfl⟩
   rw [show inB 10 [1, 4, 5, 6, 7, 9, 10] = true from rfl]
   go_wp2_with fail
   go_ret
   rw [HR.out]
   exact ⟨rfl, ((Upd.refl [] w).alloc _).alloc _⟩
 ·have q : (coll == 0) = false := by simpa using h1
  have q2 : (coll != 0) = true := by simpa using h1
  have HR : Hid (rightV 10 coll reg ar an br bn nb ne ks = false) := Lib.hid (rv_coll q)
  go_enter Tryz.func47, Tryz.ntmps47
  go_wp2_with fail
  go_ret
  rw [HR.out]
  exact ⟨rfl, (Upd.refl [] w).alloc _⟩
set_option maxRecDepth 100000 in
set_option maxHeartbeats 4000000 in
theorem one_11 (coll : Int) (reg ar an br bn : Int) (Ab Ae : Option Addr) (nb cb ne ce : Nat) (A : Option Addr) (n c : Nat) (ks : List Int) (w : World) (hn : n ≤ 1000000) (hlb : nb ≤ 9223372036854775807) (hle : ne ≤ 9223372036854775807) (hk : Src w 1 (.slice A n c) n (ks.map (Value.int .i64))) :
 Calls Tryz.prog 47 #[.agg #[.int .i64 11, .int .i64 coll, .int .i64 reg, .int .i64 ar, .int .i64 an, .int .i64 br, .int .i64 bn, .slice Ab nb cb, .slice Ae ne ce], .slice A n c] w fun e w' => e = .returned (.bool (rightV 11 coll reg ar an br bn nb ne ks)) ∧ Upd [] w w' := by
 clear hk
 by_cases h1 : coll = 0
 ·subst h1
  have hcv : Hid (collB 0 false false ks = true) := Lib.hid rfl
  by_cases r1 : reg = 0
  ·subst r1
   have HR : Hid (rightV 11 0 0 ar an br bn nb ne ks = (argB ar an true && argB br bn true && loopB 11 ar an && bodyB true true nb ne)) := Lib.hid (rv_rest hcv.out (by simp [regB, show pReg 11 = false from rfl]) rfl)
   go_enter Tryz.func47, Tryz.ntmps47
   go_wp2_with fail
   refine (in_ok 11 _ 7 [1, 4, 5, 6, 7, 9, 10] _ (by exact Src.newAt (by simp) 7 rfl) (by omega)).mono ?_; rintro e w1 ⟨rfl, rfl⟩
   rw [show inB 11 [1, 4, 5, 6, 7, 9, 10] = false from rfl]
   go_wp2_with fail
   have B0 : Hid (Blk ((w.alloc (.cells #[.int .i64 11, .int .i64 0, .int .i64 0, .int .i64 ar, .int .i64 an, .int .i64 br, .int .i64 bn, .slice Ab nb cb, .slice Ae ne ce] 62)).alloc (.cells #[.int .i64 1, .int .i64 4, .int .i64 5, .int .i64 6, .int .i64 7, .int .i64 9, .int .i64 10] 3)) w.heap.size 62 #[.int .i64 11, .int .i64 0, .int .i64 0, .int .i64 ar, .int .i64 an, .int .i64 br, .int .i64 bn, .slice Ab nb cb, .slice Ae ne ce]) := Lib.hid ((Blk.new w _ _).alloc _)
   have U0 : Hid (Upd [] w ((w.alloc (.cells #[.int .i64 11, .int .i64 0, .int .i64 0, .int .i64 ar, .int .i64 an, .int .i64 br, .int .i64 bn, .slice Ab nb cb, .slice Ae ne ce] 62)).alloc (.cells #[.int .i64 1, .int .i64 4, .int .i64 5, .int .i64 6, .int .i64 7, .int .i64 9, .int .i64 10] 3))) := Lib.hid (((Upd.refl [] w).alloc _).alloc _)
   generalize ((w.alloc (.cells #[.int .i64 11, .int .i64 0, .int .i64 0, .int .i64 ar, .int .i64 an, .int .i64 br, .int .i64 bn, .slice Ab nb cb, .slice Ae ne ce] 62)).alloc (.cells #[.int .i64 1, .int .i64 4, .int .i64 5, .int .i64 6, .int .i64 7, .int .i64 9, .int .i64 10] 3)) = w1 at *
   have CS : Hid (∀ W, Upd [] w1.drew W → (∀ i, W.cell? ⟨w.heap.size, i, none⟩ = (#[.int .i64 11, .int .i64 0, .int .i64 0, .int .i64 ar, .int .i64 an, .int .i64 br, .int .i64 bn, .slice Ab nb cb, .slice Ae ne ce] : Array Value)[i]?)) := Lib.hid (fun W hW => (B0.out.drew.upd hW (by simp)).cell)
   obtain ⟨av, hav⟩ : ∃ y, argB ar an true = y := ⟨_, rfl⟩
   obtain ⟨bv, hbv⟩ : ∃ y, argB br bn true = y := ⟨_, rfl⟩
   have HAV := Lib.hid hav
   have HBV := Lib.hid hbv
   rw [hav, hbv] at HR
   clear hav hbv
   cases av with
   | false =>
     refine wp_invN [(3, .src 1 10 [.int .i64 1, .int .i64 2, .int .i64 3, .int .i64 4, .int .i64 6, .int .i64 7, .int .i64 9, .int .i64 10, .int .i64 11, .int .i64 12]), (4, .det (.bool true)), (5, .det (.bool false))] [] (by kernel_rfl) (by kernel_rfl) ⟨lasts_src _ _ _, lasts_det _, lasts_det _, trivial⟩ ?_
     iterate 3 (
      with_reducible apply wpV_light
      ·simp only [lightOp]
      ·intro W hU hF
       have f0 := CS.out W hU
       clear hU hF
       go_simp
       exact rfl
      simp only [Act.put, List.setIfInBounds_toArray, List.set_cons_zero, List.set_cons_succ])
     refine wpV_heavy (by simp only [lightOp]) (by rfl) (fun W hU hk hF K hK => ?_) ?_
     ·go_wp2_with fail
      refine hK.out _ _ (outV_new rfl ?_ ?_ ((Upd.refl _ _).alloc _))
      ·exact Src.newAt rfl 10 rfl
      ·intro b hb
       simp [mkI, specOf, Spec.src, Value.ownBlock] at hb
       subst hb; simp
     rintro _ ⟨A10, c10, rfl⟩
     simp only [Act.put, List.setIfInBounds_toArray, List.set_cons_zero, List.set_cons_succ]
     refine wpV_heavy (by simp only [lightOp]) (by rfl) (fun W hU hk hF K hK => ?_) ?_
     ·go_wp2_with fail
      have g := hF.out
      refine (in_ok 11 _ 10 [1, 2, 3, 4, 6, 7, 9, 10, 11, 12] _ (by exact g.1 (by kernel_rfl)) (by omega)).mono ?_; rintro e w2 ⟨rfl, rfl⟩
      go_wp2_with fail
      exact hK.out _ _ (outV_new rfl rfl (by intro b hb; cases hb) (.refl _ _))
     rintro _ rfl
     simp only [Act.put, List.setIfInBounds_toArray, List.set_cons_zero, List.set_cons_succ]
     refine wpV_heavy (by simp only [lightOp]) (by rfl) (fun W hU hk hF K hK => ?_) ?_
     ·go_wp2_with fail
      refine (arg_ok_ref ar an true _).mono ?_; rintro e w2 ⟨rfl, u2⟩
      rw [HAV.out]
      go_wp2_with fail
      exact hK.out _ _ (outV_new rfl rfl (by intro b hb; cases hb) u2)
     rintro _ rfl
     simp only [Act.put, List.setIfInBounds_toArray, List.set_cons_zero, List.set_cons_succ]
     iterate 2 (
      with_reducible apply wpV_light
      ·simp only [lightOp]
      ·intro W hU hF
       have f0 := CS.out W hU
       clear hU hF
       go_simp
       exact rfl
      simp only [Act.put, List.setIfInBounds_toArray, List.set_cons_zero, List.set_cons_succ])
     iterate 3 (
      refine wpV_skip (by rfl) (by simp only [lightOp]) ?_
      simp only [Act.put, List.setIfInBounds_toArray, List.set_cons_zero, List.set_cons_succ])
     iterate 3 (
      refine wpV_heavySkip (by simp only [lightOp]) (by rfl) (fun W hU hk => outV_new rfl trivial (by intro b hb; cases hb) (.refl _ _)) ?_
      rintro _ trivial
      simp only [Act.put, List.setIfInBounds_toArray, List.set_cons_zero, List.set_cons_succ])
     refine wpV_skip (by rfl) (by simp only [lightOp]) ?_
     simp only [Act.put, List.setIfInBounds_toArray, List.set_cons_zero, List.set_cons_succ]
     with_reducible apply wpV_light
     ·simp only [lightOp]
     ·intro W hU hF
      have f0 := CS.out W hU
      clear hU hF
      go_simp
      exact rfl
     simp only [Act.put, List.setIfInBounds_toArray, List.set_cons_zero, List.set_cons_succ]
     refine wpV_end (fun W hU _ _ => ?_)
     have U1 := Lib.hid (U0.out.trans ((Upd.refl [] w1).drew.trans hU))
     clear hU
     go_wp2_with fail
     go_ret
     rw [HR.out]
     exact ⟨by simp, U1.out⟩
   | true =>
     refine wp_invN [(3, .src 1 10 [.int .i64 1, .int .i64 2, .int .i64 3, .int .i64 4, .int .i64 6, .int .i64 7, .int .i64 9, .int .i64 10, .int .i64 11, .int .i64 12]), (4, .det (.bool true)), (5, .det (.bool true)), (11, .src 1 4 [.int .i64 2, .int .i64 7, .int .i64 10, .int .i64 11]), (12, .det (.bool true)), (13, .det (.bool bv))] [] (by kernel_rfl) (by kernel_rfl) ⟨lasts_src _ _ _, lasts_det _, lasts_det _, lasts_src _ _ _, lasts_det _, lasts_det _, trivial⟩ ?_
     iterate 3 (
      with_reducible apply wpV_light
      ·simp only [lightOp]
      ·intro W hU hF
       have f0 := CS.out W hU
       clear hU hF
       go_simp
       exact rfl
      simp only [Act.put, List.setIfInBounds_toArray, List.set_cons_zero, List.set_cons_succ])
     refine wpV_heavy (by simp only [lightOp]) (by rfl) (fun W hU hk hF K hK => ?_) ?_
     ·go_wp2_with fail
      refine hK.out _ _ (outV_new rfl ?_ ?_ ((Upd.refl _ _).alloc _))
      ·exact Src.newAt rfl 10 rfl
      ·intro b hb
       simp [mkI, specOf, Spec.src, Value.ownBlock] at hb
       subst hb; simp
     rintro _ ⟨A10, c10, rfl⟩
     simp only [Act.put, List.setIfInBounds_toArray, List.set_cons_zero, List.set_cons_succ]
     refine wpV_heavy (by simp only [lightOp]) (by rfl) (fun W hU hk hF K hK => ?_) ?_
     ·go_wp2_with fail
      have g := hF.out
      refine (in_ok 11 _ 10 [1, 2, 3, 4, 6, 7, 9, 10, 11, 12] _ (by exact g.1 (by kernel_rfl)) (by omega)).mono ?_; rintro e w2 ⟨rfl, rfl⟩
      go_wp2_with fail
      exact hK.out _ _ (outV_new rfl rfl (by intro b hb; cases hb) (.refl _ _))
     rintro _ rfl
     simp only [Act.put, List.setIfInBounds_toArray, List.set_cons_zero, List.set_cons_succ]
     refine wpV_heavy (by simp only [lightOp]) (by rfl) (fun W hU hk hF K hK => ?_) ?_
     ·go_wp2_with fail
      refine (arg_ok_ref ar an true _).mono ?_; rintro e w2 ⟨rfl, u2⟩
      rw [HAV.out]
      go_wp2_with fail
      exact hK.out _ _ (outV_new rfl rfl (by intro b hb; cases hb) u2)
     rintro _ rfl
     simp only [Act.put, List.setIfInBounds_toArray, List.set_cons_zero, List.set_cons_succ]
     iterate 5 (
      with_reducible apply wpV_light
      ·simp only [lightOp]
      ·intro W hU hF
       have f0 := CS.out W hU
       clear hU hF
       go_simp
       exact rfl
      simp only [Act.put, List.setIfInBounds_toArray, List.set_cons_zero, List.set_cons_succ])
     refine wpV_heavy (by simp only [lightOp]) (by rfl) (fun W hU hk hF K hK => ?_) ?_
     ·go_wp2_with fail
      refine hK.out _ _ (outV_new rfl ?_ ?_ ((Upd.refl _ _).alloc _))
      ·exact Src.newAt rfl 4 rfl
      ·intro b hb
       simp [mkI, specOf, Spec.src, Value.ownBlock] at hb
       subst hb; simp
     rintro _ ⟨A4, c4, rfl⟩
     simp only [Act.put, List.setIfInBounds_toArray, List.set_cons_zero, List.set_cons_succ]
     refine wpV_heavy (by simp only [lightOp]) (by rfl) (fun W hU hk hF K hK => ?_) ?_
     ·go_wp2_with fail
      have g := hF.out
      refine (in_ok 11 _ 4 [2, 7, 10, 11] _ (by exact g.2.2.2.1 (by kernel_rfl)) (by omega)).mono ?_; rintro e w2 ⟨rfl, rfl⟩
      go_wp2_with fail
      exact hK.out _ _ (outV_new rfl rfl (by intro b hb; cases hb) (.refl _ _))
     rintro _ rfl
     simp only [Act.put, List.setIfInBounds_toArray, List.set_cons_zero, List.set_cons_succ]
     refine wpV_heavy (by simp only [lightOp]) (by rfl) (fun W hU hk hF K hK => ?_) ?_
     ·go_wp2_with fail
      refine (arg_ok_ref br bn true _).mono ?_; rintro e w2 ⟨rfl, u2⟩
      rw [HBV.out]
      go_wp2_with fail
      exact hK.out _ _ (outV_new rfl rfl (by intro b hb; cases hb) u2)
     rintro _ rfl
     simp only [Act.put, List.setIfInBounds_toArray, List.set_cons_zero, List.set_cons_succ]
     iterate 2 (
      with_reducible apply wpV_light
      ·simp only [lightOp]
      ·intro W hU hF
       have f0 := CS.out W hU
       clear hU hF
       go_simp
       exact rfl
      simp only [Act.put, List.setIfInBounds_toArray, List.set_cons_zero, List.set_cons_succ])
     refine wpV_end (fun W hU _ _ => ?_)
     have U1 := Lib.hid (U0.out.trans ((Upd.refl [] w1).drew.trans hU))
     have f := CS.out W hU
     clear hU
     cases bv with
     | false =>
       go_wp2_with fail
       go_ret
       rw [HR.out]
       exact ⟨by simp, U1.out⟩
     | true =>
       rcases Nat.eq_zero_or_pos nb with hznb | hznb
       ·have znb : ((nb : Int) == 0) = true := by simp [hznb]
        have ynb : (nb == 0) = true := by simp [hznb]
        clear hznb
        rcases Nat.eq_zero_or_pos ne with hzne | hzne
        ·have zne : ((ne : Int) == 0) = true := by simp [hzne]
         have yne : (ne == 0) = true := by simp [hzne]
         clear hzne
         have HR2 : Hid (rightV 11 0 0 ar an br bn nb ne ks = true) := Lib.hid (by rw [HR.out]; simp [loopB, bodyB, *])
         go_wp2_with fail
         go_ret
         rw [HR2.out]
         exact ⟨rfl, U1.out⟩
        ·have zne : ((ne : Int) == 0) = false := by
          have : ¬ (ne : Int) = 0 := by omega
          simpa using this
         have yne : (ne == 0) = false := by
          have : ¬ ne = 0 := by omega
          simpa using this
         have HR2 : Hid (rightV 11 0 0 ar an br bn nb ne ks = true) := Lib.hid (by rw [HR.out]; simp [loopB, bodyB, *])
         go_wp2_with fail
         go_ret
         rw [HR2.out]
         exact ⟨rfl, U1.out⟩
       ·have znb : ((nb : Int) == 0) = false := by
         have : ¬ (nb : Int) = 0 := by omega
         simpa using this
        have ynb : (nb == 0) = false := by
         have : ¬ nb = 0 := by omega
         simpa using this
        rcases Nat.eq_zero_or_pos ne with hzne | hzne
        ·have zne : ((ne : Int) == 0) = true := by simp [hzne]
         have yne : (ne == 0) = true := by simp [hzne]
         clear hzne
         have HR2 : Hid (rightV 11 0 0 ar an br bn nb ne ks = true) := Lib.hid (by rw [HR.out]; simp [loopB, bodyB, *])
         go_wp2_with fail
         go_ret
         rw [HR2.out]
         exact ⟨rfl, U1.out⟩
        ·have zne : ((ne : Int) == 0) = false := by
          have : ¬ (ne : Int) = 0 := by omega
          simpa using this
         have yne : (ne == 0) = false := by
          have : ¬ ne = 0 := by omega
          simpa using this
         have HR2 : Hid (rightV 11 0 0 ar an br bn nb ne ks = true) := Lib.hid (by rw [HR.out]; simp [loopB, bodyB, *])
         go_wp2_with fail
         go_ret
         rw [HR2.out]
         exact ⟨rfl, U1.out⟩
  ·have q : (reg == 0) = false := by simpa using r1
   have q2 : (reg != 0) = true := by simpa using r1
   have HR : Hid (rightV 11 0 reg ar an br bn nb ne ks = false) := Lib.hid (rv_reg (by simp [regB, q, show pReg 11 = false from rfl]))
   go_enter Tryz.func47, Tryz.ntmps47
   go_wp2_with fail
   refine (in_ok 11 _ 7 [1, 4, 5, 6, 7, 9, 10] _ (by exact Src.newAt (by simp) 7 rfl) (by omega)).mono ?_; rintro e w1 ⟨rfl, rfl⟩
   rw [show inB 11 [1, 4, 5, 6, 7, 9, 10] = false from rfl]
   go_wp2_with fail
   go_ret
   rw [HR.out]
   exact ⟨rfl, ((Upd.refl [] w).alloc _).alloc _⟩
 ·have q : (coll == 0) = false := by simpa using h1
  have q2 : (coll != 0) = true := by simpa using h1
  have HR : Hid (rightV 11 coll reg ar an br bn nb ne ks = false) := Lib.hid (rv_coll q)
  go_enter Tryz.func47, Tryz.ntmps47
  go_wp2_with fail
  go_ret
  rw [HR.out]
  exact ⟨rfl, (Upd.refl [] w).alloc _⟩
set_option maxRecDepth 100000 in
set_option maxHeartbeats 4000000 in
theorem one_12 (coll : Int) (reg ar an br bn : Int) (Ab Ae : Option Addr) (nb cb ne ce : Nat) (A : Option Addr) (n c : Nat) (ks : List Int) (w : World) (hn : n ≤ 1000000) (hlb : nb ≤ 9223372036854775807) (hle : ne ≤ 9223372036854775807) (hk : Src w 1 (.slice A n c) n (ks.map (Value.int .i64))) :
 Calls Tryz.prog 47 #[.agg #[.int .i64 12, .int .i64 coll, .int .i64 reg, .int .i64 ar, .int .i64 an, .int .i64 br, .int .i64 bn, .slice Ab nb cb, .slice Ae ne ce], .slice A n c] w fun e w' => e = .returned (.bool (rightV 12 coll reg ar an br bn nb ne ks)) ∧ Upd [] w w' := by
 clear hk
 by_cases h1 : coll = 0
 ·subst h1
  have hcv : Hid (collB 0 false false ks = true) := Lib.hid rfl
  by_cases r1 : reg = 0
  ·subst r1
   have HR : Hid (rightV 12 0 0 ar an br bn nb ne ks = (argB ar an true && argB br bn false && loopB 12 ar an && bodyB true false nb ne)) := Lib.hid (rv_rest hcv.out (by simp [regB, show pReg 12 = false from rfl]) rfl)
   go_enter Tryz.func47, Tryz.ntmps47
   go_wp2_with fail
   refine (in_ok 12 _ 7 [1, 4, 5, 6, 7, 9, 10] _ (by exact Src.newAt (by simp) 7 rfl) (by omega)).mono ?_; rintro e w1 ⟨rfl, rfl⟩
   rw [show inB 12 [1, 4, 5, 6, 7, 9, 10] = false from rfl]
   go_wp2_with fail
   have B0 : Hid (Blk ((w.alloc (.cells #[.int .i64 12, .int .i64 0, .int .i64 0, .int .i64 ar, .int .i64 an, .int .i64 br, .int .i64 bn, .slice Ab nb cb, .slice Ae ne ce] 62)).alloc (.cells #[.int .i64 1, .int .i64 4, .int .i64 5, .int .i64 6, .int .i64 7, .int .i64 9, .int .i64 10] 3)) w.heap.size 62 #[.int .i64 12, .int .i64 0, .int .i64 0, .int .i64 ar, .int .i64 an, .int .i64 br, .int .i64 bn, .slice Ab nb cb, .slice Ae ne ce]) := Lib.hid ((Blk.new w _ _).alloc _)
   have U0 : Hid (Upd [] w ((w.alloc (.cells #[.int .i64 12, .int .i64 0, .int .i64 0, .int .i64 ar, .int .i64 an, .int .i64 br, .int .i64 bn, .slice Ab nb cb, .slice Ae ne ce] 62)).alloc (.cells #[.int .i64 1, .int .i64 4, .int .i64 5, .int .i64 6, .int .i64 7, .int .i64 9, .int .i64 10] 3))) := Lib.hid (((Upd.refl [] w).alloc _).alloc _)
   generalize ((w.alloc (.cells #[.int .i64 12, .int .i64 0, .int .i64 0, .int .i64 ar, .int .i64 an, .int .i64 br, .int .i64 bn, .slice Ab nb cb, .slice Ae ne ce] 62)).alloc (.cells #[.int .i64 1, .int .i64 4, .int .i64 5, .int .i64 6, .int .i64 7, .int .i64 9, .int .i64 10] 3)) = w1 at *
   have CS : Hid (∀ W, Upd [] w1.drew W → (∀ i, W.cell? ⟨w.heap.size, i, none⟩ = (#[.int .i64 12, .int .i64 0, .int .i64 0, .int .i64 ar, .int .i64 an, .int .i64 br, .int .i64 bn, .slice Ab nb cb, .slice Ae ne ce] : Array Value)[i]?)) := Lib.hid (fun W hW => (B0.out.drew.upd hW (by simp)).cell)
   obtain ⟨av, hav⟩ : ∃ y, argB ar an true = y := ⟨_, rfl⟩
   obtain ⟨bv, hbv⟩ : ∃ y, argB br bn false = y := ⟨_, rfl⟩
   have HAV := Lib.hid hav
   have HBV := Lib.hid hbv
   rw [hav, hbv] at HR
   clear hav hbv
   cases av with
   | false =>
     refine wp_invN [(3, .src 1 10 [.int .i64 1, .int .i64 2, .int .i64 3, .int .i64 4, .int .i64 6, .int .i64 7, .int .i64 9, .int .i64 10, .int .i64 11, .int .i64 12]), (4, .det (.bool true)), (5, .det (.bool false))] [] (by kernel_rfl) (by kernel_rfl) ⟨lasts_src _ _ _, lasts_det _, lasts_det _, trivial⟩ ?_
     iterate 3 (
      with_reducible apply wpV_light
      ·simp only [lightOp]
      ·intro W hU hF
       have f0 := CS.out W hU
       clear hU hF
       go_simp
       exact rfl
      simp only [Act.put, List.setIfInBounds_toArray, List.set_cons_zero, List.set_cons_succ])
     refine wpV_heavy (by simp only [lightOp]) (by rfl) (fun W hU hk hF K hK => ?_) ?_
     ·go_wp2_with fail
      refine hK.out _ _ (outV_new rfl ?_ ?_ ((Upd.refl _ _).alloc _))
      ·exact Src.newAt rfl 10 rfl
      ·intro b hb
       simp [mkI, specOf, Spec.src, Value.ownBlock] at hb
       subst hb; simp
     rintro _ ⟨A10, c10, rfl⟩
     simp only [Act.put, List.setIfInBounds_toArray, List.set_cons_zero, List.set_cons_succ]
     refine wpV_heavy (by simp only [lightOp]) (by rfl) (fun W hU hk hF K hK => ?_) ?_
     ·go_wp2_with fail
      have g := hF.out
      refine (in_ok 12 _ 10 [1, 2, 3, 4, 6, 7, 9, 10, 11, 12] _ (by exact g.1 (by kernel_rfl)) (by omega)).mono ?_; rintro e w2 ⟨rfl, rfl⟩
      go_wp2_with fail
      exact hK.out _ _ (outV_new rfl rfl (by intro b hb; cases hb) (.refl _ _))
     rintro _ rfl
     simp only [Act.put, List.setIfInBounds_toArray, List.set_cons_zero, List.set_cons_succ]
     refine wpV_heavy (by simp only [lightOp]) (by rfl) (fun W hU hk hF K hK => ?_) ?_
     ·go_wp2_with fail
      refine (arg_ok_ref ar an true _).mono ?_; rintro e w2 ⟨rfl, u2⟩
      rw [HAV.out]
      go_wp2_with fail
      exact hK.out _ _ (outV_new rfl rfl (by intro b hb; cases hb) u2)
     rintro _ rfl
     simp only [Act.put, List.setIfInBounds_toArray, List.set_cons_zero, List.set_cons_succ]
     iterate 2 (
      with_reducible apply wpV_light
      ·simp only [lightOp]
      ·intro W hU hF
       have f0 := CS.out W hU
       clear hU hF
       go_simp
       exact rfl
      simp only [Act.put, List.setIfInBounds_toArray, List.set_cons_zero, List.set_cons_succ])
     iterate 3 (
      refine wpV_skip (by rfl) (by simp only [lightOp]) ?_
      simp only [Act.put, List.setIfInBounds_toArray, List.set_cons_zero, List.set_cons_succ])
     iterate 3 (
      refine wpV_heavySkip (by simp only [lightOp]) (by rfl) (fun W hU hk => outV_new rfl trivial (by intro b hb; cases hb) (.refl _ _)) ?_
      rintro _ trivial
      simp only [Act.put, List.setIfInBounds_toArray, List.set_cons_zero, List.set_cons_succ])
     refine wpV_skip (by rfl) (by simp only [lightOp]) ?_
     simp only [Act.put, List.setIfInBounds_toArray, List.set_cons_zero, List.set_cons_succ]
     with_reducible apply wpV_light
     ·simp only [lightOp]
     ·intro W hU hF
      have f0 := CS.out W hU
      clear hU hF
      go_simp
      exact rfl
     simp only [Act.put, List.setIfInBounds_toArray, List.set_cons_zero, List.set_cons_succ]
     refine wpV_end (fun W hU _ _ => ?_)
     have U1 := Lib.hid (U0.out.trans ((Upd.refl [] w1).drew.trans hU))
     clear hU
     go_wp2_with fail
     go_ret
     rw [HR.out]
     exact ⟨by simp, U1.out⟩
   | true =>
     refine wp_invN [(3, .src 1 10 [.int .i64 1, .int .i64 2, .int .i64 3, .int .i64 4, .int .i64 6, .int .i64 7, .int .i64 9, .int .i64 10, .int .i64 11, .int .i64 12]), (4, .det (.bool true)), (5, .det (.bool true)), (11, .src 1 4 [.int .i64 2, .int .i64 7, .int .i64 10, .int .i64 11]), (12, .det (.bool false)), (13, .det (.bool bv))] [] (by kernel_rfl) (by kernel_rfl) ⟨lasts_src _ _ _, lasts_det _, lasts_det _, lasts_src _ _ _, lasts_det _, lasts_det _, trivial⟩ ?_
     iterate 3 (
      with_reducible apply wpV_light
      ·simp only [lightOp]
      ·intro W hU hF
       have f0 := CS.out W hU
       clear hU hF
       go_simp
       exact rfl
      simp only [Act.put, List.setIfInBounds_toArray, List.set_cons_zero, List.set_cons_succ])
     refine wpV_heavy (by simp only [lightOp]) (by rfl) (fun W hU hk hF K hK => ?_) ?_
     ·go_wp2_with fail
      refine hK.out _ _ (outV_new rfl ?_ ?_ ((Upd.refl _ _).alloc _))
      ·exact Src.newAt rfl 10 rfl
      ·intro b hb
       simp [mkI, specOf, Spec.src, Value.ownBlock] at hb
       subst hb; simp
     rintro _ ⟨A10, c10, rfl⟩
     simp only [Act.put, List.setIfInBounds_toArray, List.set_cons_zero, List.set_cons_succ]
     refine wpV_heavy (by simp only [lightOp]) (by rfl) (fun W hU hk hF K hK => ?_) ?_
     ·go_wp2_with fail
      have g := hF.out
      refine (in_ok 12 _ 10 [1, 2, 3, 4, 6, 7, 9, 10, 11, 12] _ (by exact g.1 (by kernel_rfl)) (by omega)).mono ?_; rintro e w2 ⟨rfl, rfl⟩
      go_wp2_with fail
      exact hK.out _ _ (outV_new rfl rfl (by intro b hb; cases hb) (.refl _ _))
     rintro _ rfl
     simp only [Act.put, List.setIfInBounds_toArray, List.set_cons_zero, List.set_cons_succ]
     refine wpV_heavy (by simp only [lightOp]) (by rfl) (fun W hU hk hF K hK => ?_) ?_
     ·go_wp2_with fail
      refine (arg_ok_ref ar an true _).mono ?_; rintro e w2 ⟨rfl, u2⟩
      rw [HAV.out]
      go_wp2_with fail
      exact hK.out _ _ (outV_new rfl rfl (by intro b hb; cases hb) u2)
     rintro _ rfl
     simp only [Act.put, List.setIfInBounds_toArray, List.set_cons_zero, List.set_cons_succ]
     iterate 5 (
      with_reducible apply wpV_light
      ·simp only [lightOp]
      ·intro W hU hF
       have f0 := CS.out W hU
       clear hU hF
       go_simp
       exact rfl
      simp only [Act.put, List.setIfInBounds_toArray, List.set_cons_zero, List.set_cons_succ])
     refine wpV_heavy (by simp only [lightOp]) (by rfl) (fun W hU hk hF K hK => ?_) ?_
     ·go_wp2_with fail
      refine hK.out _ _ (outV_new rfl ?_ ?_ ((Upd.refl _ _).alloc _))
      ·exact Src.newAt rfl 4 rfl
      ·intro b hb
       simp [mkI, specOf, Spec.src, Value.ownBlock] at hb
       subst hb; simp
     rintro _ ⟨A4, c4, rfl⟩
     simp only [Act.put, List.setIfInBounds_toArray, List.set_cons_zero, List.set_cons_succ]
     refine wpV_heavy (by simp only [lightOp]) (by rfl) (fun W hU hk hF K hK => ?_) ?_
     ·go_wp2_with fail
      have g := hF.out
      refine (in_ok 12 _ 4 [2, 7, 10, 11] _ (by exact g.2.2.2.1 (by kernel_rfl)) (by omega)).mono ?_; rintro e w2 ⟨rfl, rfl⟩
      go_wp2_with fail
      exact hK.out _ _ (outV_new rfl rfl (by intro b hb; cases hb) (.refl _ _))
     rintro _ rfl
     simp only [Act.put, List.setIfInBounds_toArray, List.set_cons_zero, List.set_cons_succ]
     refine wpV_heavy (by simp only [lightOp]) (by rfl) (fun W hU hk hF K hK => ?_) ?_
     ·go_wp2_with fail
      refine (arg_ok_ref br bn false _).mono ?_; rintro e w2 ⟨rfl, u2⟩
      rw [HBV.out]
      go_wp2_with fail
      exact hK.out _ _ (outV_new rfl rfl (by intro b hb; cases hb) u2)
     rintro _ rfl
     simp only [Act.put, List.setIfInBounds_toArray, List.set_cons_zero, List.set_cons_succ]
     iterate 2 (
      with_reducible apply wpV_light
      ·simp only [lightOp]
      ·intro W hU hF
       have f0 := CS.out W hU
       clear hU hF
       go_simp
       exact rfl
      simp only [Act.put, List.setIfInBounds_toArray, List.set_cons_zero, List.set_cons_succ])
     refine wpV_end (fun W hU _ _ => ?_)
     have U1 := Lib.hid (U0.out.trans ((Upd.refl [] w1).drew.trans hU))
     have f := CS.out W hU
     clear hU
     cases bv with
     | false =>
       go_wp2_with fail
       go_ret
       rw [HR.out]
       exact ⟨by simp, U1.out⟩
     | true =>
       by_cases l1 : ar = 0
       ·have m0 : (ar == 0) = true := by simp [l1]
        have m1 : (ar != 0) = false := by simp [l1]
        clear l1
        by_cases l2 : 0 ≤ an
        ·by_cases l3 : an ≤ 5
         ·have m2 : decide (an < 0) = false := by
           simp; omega
          have m3 : decide (5 < an) = false := by
           simp; omega
          rcases Nat.eq_zero_or_pos nb with hznb | hznb
          ·have znb : ((nb : Int) == 0) = true := by simp [hznb]
           have ynb : (nb == 0) = true := by simp [hznb]
           clear hznb
           rcases Nat.eq_zero_or_pos ne with hzne | hzne
           ·have zne : ((ne : Int) == 0) = true := by simp [hzne]
            have yne : (ne == 0) = true := by simp [hzne]
            clear hzne
            have HR2 : Hid (rightV 12 0 0 ar an br bn nb ne ks = true) := Lib.hid (by rw [HR.out]; simp [loopB, bodyB, *])
            go_wp2_with fail
            go_ret
            rw [HR2.out]
            exact ⟨rfl, U1.out⟩
           ·have zne : ((ne : Int) == 0) = false := by
             have : ¬ (ne : Int) = 0 := by omega
             simpa using this
            have yne : (ne == 0) = false := by
             have : ¬ ne = 0 := by omega
             simpa using this
            have HR2 : Hid (rightV 12 0 0 ar an br bn nb ne ks = false) := Lib.hid (by rw [HR.out]; simp [loopB, bodyB, *])
            go_wp2_with fail
            go_ret
            rw [HR2.out]
            exact ⟨rfl, U1.out⟩
          ·have znb : ((nb : Int) == 0) = false := by
            have : ¬ (nb : Int) = 0 := by omega
            simpa using this
           have ynb : (nb == 0) = false := by
            have : ¬ nb = 0 := by omega
            simpa using this
           rcases Nat.eq_zero_or_pos ne with hzne | hzne
           ·have zne : ((ne : Int) == 0) = true := by simp [hzne]
            have yne : (ne == 0) = true := by simp [hzne]
            clear hzne
            have HR2 : Hid (rightV 12 0 0 ar an br bn nb ne ks = true) := Lib.hid (by rw [HR.out]; simp [loopB, bodyB, *])
            go_wp2_with fail
            go_ret
            rw [HR2.out]
            exact ⟨rfl, U1.out⟩
           ·have zne : ((ne : Int) == 0) = false := by
             have : ¬ (ne : Int) = 0 := by omega
             simpa using this
            have yne : (ne == 0) = false := by
             have : ¬ ne = 0 := by omega
             simpa using this
            have HR2 : Hid (rightV 12 0 0 ar an br bn nb ne ks = false) := Lib.hid (by rw [HR.out]; simp [loopB, bodyB, *])
            go_wp2_with fail
            go_ret
            rw [HR2.out]
            exact ⟨rfl, U1.out⟩
         ·have m2 : decide (an < 0) = false := by simp; omega
          have m3 : decide (5 < an) = true := by simp; omega
          have HR2 : Hid (rightV 12 0 0 ar an br bn nb ne ks = false) := Lib.hid (by rw [HR.out]; simp [loopB, bodyB, *])
          go_wp2_with fail
          go_ret
          rw [HR2.out]
          exact ⟨rfl, U1.out⟩
        ·have m2 : decide (an < 0) = true := by simp; omega
         have HR2 : Hid (rightV 12 0 0 ar an br bn nb ne ks = false) := Lib.hid (by rw [HR.out]; simp [loopB, bodyB, *])
         go_wp2_with fail
         go_ret
         rw [HR2.out]
         exact ⟨rfl, U1.out⟩
       ·have m1 : (ar == 0) = false := by simpa using l1
        have m2 : (ar != 0) = true := by simpa using l1
        have HR2 : Hid (rightV 12 0 0 ar an br bn nb ne ks = false) := Lib.hid (by rw [HR.out]; simp [loopB, bodyB, *])
        go_wp2_with fail
        go_ret
        rw [HR2.out]
        exact ⟨rfl, U1.out⟩
  ·have q : (reg == 0) = false := by simpa using r1
   have q2 : (reg != 0) = true := by simpa using r1
   have HR : Hid (rightV 12 0 reg ar an br bn nb ne ks = false) := Lib.hid (rv_reg (by simp [regB, q, show pReg 12 = false from rfl]))
   go_enter Tryz.func47, Tryz.ntmps47
   go_wp2_with fail
   refine (in_ok 12 _ 7 [1, 4, 5, 6, 7, 9, 10] _ (by exact Src.newAt (by simp) 7 rfl) (by omega)).mono ?_; rintro e w1 ⟨rfl, rfl⟩
   rw [show inB 12 [1, 4, 5, 6, 7, 9, 10] = false from rfl]
   go_wp2_with fail
   go_ret
   rw [HR.out]
   exact ⟨rfl, ((Upd.refl [] w).alloc _).alloc _⟩
 ·have q : (coll == 0) = false := by simpa using h1
  have q2 : (coll != 0) = true := by simpa using h1
  have HR : Hid (rightV 12 coll reg ar an br bn nb ne ks = false) := Lib.hid (rv_coll q)
  go_enter Tryz.func47, Tryz.ntmps47
  go_wp2_with fail
  go_ret
  rw [HR.out]
  exact ⟨rfl, (Upd.refl [] w).alloc _⟩
end Go.Proofs.YtmjnmpifibemjaaGreatDoor.Old

/-
  prog.right: is a statement right, apart from those in it?
-/
import Derived.Test.YtblfklnnojhadaaDoorRightV
set_option linter.unusedVariables false
namespace Go.Proofs.YtblfklnnojhadaaDoor
open Go.RowKit

set_option maxRecDepth 100000 in
set_option maxHeartbeats 8000000 in
theorem right_ok (k coll reg ar an br bn : Int) (Ab Ae : Option Addr) (nb cb ne ce : Nat) (A : Option Addr) (n c : Nat) (ks : List Int) (w : World) (hk : Src w 1 (.slice A n c) n (ks.map (Value.int .i64))) (hn : n ≤ 1000000) (hlb : nb ≤ 9223372036854775807) (hle : ne ≤ 9223372036854775807) :
    Calls Tryd.prog 28 #[.agg #[.int .i64 k, .int .i64 coll, .int .i64 reg, .int .i64 ar, .int .i64 an, .int .i64 br, .int .i64 bn, .slice Ab nb cb, .slice Ae ne ce], .slice A n c] w fun e w' => e = .returned (.bool (rightV k coll reg ar an br bn nb ne ks)) ∧ Upd [] w w' := by
  obtain ⟨pc, hpc⟩ : ∃ x, pColl k = x := ⟨_, rfl⟩
  obtain ⟨po, hpo⟩ : ∃ x, pOrd k = x := ⟨_, rfl⟩
  obtain ⟨pr, hpr⟩ : ∃ x, pReg k = x := ⟨_, rfl⟩
  obtain ⟨pa, hpa⟩ : ∃ x, pA k = x := ⟨_, rfl⟩
  obtain ⟨pb, hpb⟩ : ∃ x, pB k = x := ⟨_, rfl⟩
  obtain ⟨pd, hpd⟩ : ∃ x, pBody k = x := ⟨_, rfl⟩
  obtain ⟨pe, hpe⟩ : ∃ x, pElse k = x := ⟨_, rfl⟩
  obtain ⟨is, his⟩ : ∃ x, pIs k = x := ⟨_, rfl⟩
  obtain ⟨cv, hcv⟩ : ∃ x, collB coll pc po ks = x := ⟨_, rfl⟩
  obtain ⟨av, hav⟩ : ∃ x, argB ar an pa = x := ⟨_, rfl⟩
  obtain ⟨bv, hbv⟩ : ∃ x, argB br bn pb = x := ⟨_, rfl⟩
  have HR : Hid (rightV k coll reg ar an br bn nb ne ks = (is && cv && av && bv && loopB k ar an && regB pr reg && bodyB pd pe nb ne)) := Lib.hid (by unfold rightV; rw [hpc, hpo, hpr, hpa, hpb, hpd, hpe, his, hcv, hav, hbv])
  obtain ⟨rv, hrv⟩ : ∃ x, rightV k coll reg ar an br bn nb ne ks = x := ⟨_, rfl⟩
  rw [hrv] at HR ⊢
  clear hrv
  have PA := fun w => parts_ok k w
  rw [hpc, hpo, hpr, hpa, hpb, hpd, hpe, his] at PA
  have HP := Lib.hid PA
  have HCV := Lib.hid hcv
  have HAV := Lib.hid hav
  have HBV := Lib.hid hbv
  have HK := Lib.hid hk
  clear PA hpc hpo hpr hpa hpb hpd hpe his hcv hav hbv hk
  cases is with
  | false =>
    go_enter Tryd.func28, Tryd.ntmps28
    go_wp2_with fail
    refine (HP.out _).mono ?_; rintro e w1 ⟨rfl, u1⟩
    have U1 := Lib.hid (((Upd.refl [] w).alloc _).trans u1)
    clear u1
    go_wp2_with fail
    go_ret
    exact ⟨by rw [HR.out]; simp, U1.out.alloc _⟩
  | true =>
    go_enter Tryd.func28, Tryd.ntmps28
    go_wp2_with fail
    refine (HP.out _).mono ?_; rintro e w1 ⟨rfl, u1⟩
    have U1 := Lib.hid (((Upd.refl [] w).alloc (.cells #[.int .i64 k, .int .i64 coll, .int .i64 reg, .int .i64 ar, .int .i64 an, .int .i64 br, .int .i64 bn, .slice Ab nb cb, .slice Ae ne ce] 39)).trans u1)
    have B1 := Lib.hid ((Blk.new w 39 #[.int .i64 k, .int .i64 coll, .int .i64 reg, .int .i64 ar, .int .i64 an, .int .i64 br, .int .i64 bn, .slice Ab nb cb, .slice Ae ne ce]).upd u1 (by simp))
    clear u1
    have f1 := B1.out.facts
    go_wp2_with fail
    refine (coll_ok k coll reg ar an br bn Ab Ae nb cb ne ce pc po pr pa pb pd pe A n c ks _ (HK.out.upd0 (U1.out.alloc _)) hn).mono ?_; rintro e w2 ⟨rfl, u2⟩
    rw [HCV.out]
    have U2 := Lib.hid ((U1.out.alloc (.cells #[.bool pc, .bool po, .bool pr, .bool pa, .bool pb, .bool pd, .bool pe] 66)).trans u2)
    have B2 := Lib.hid ((B1.out.alloc (.cells #[.bool pc, .bool po, .bool pr, .bool pa, .bool pb, .bool pd, .bool pe] 66)).upd u2 (by simp))
    have P2 := Lib.hid ((Blk.new w1 66 #[.bool pc, .bool po, .bool pr, .bool pa, .bool pb, .bool pd, .bool pe]).upd u2 (by simp))
    clear u2 f1
    cases cv with
    | false =>
      go_wp2_with fail
      go_ret
      exact ⟨by rw [HR.out]; simp, U2.out⟩
    | true =>
      have f2 := B2.out.facts
      have g2 := P2.out.facts
      go_wp2_with fail
      refine (arg_ok ar an pa _).mono ?_; rintro e w3 ⟨rfl, u3⟩
      rw [HAV.out]
      have U3 := Lib.hid (U2.out.trans u3)
      have B3 := Lib.hid (B2.out.upd u3 (by simp))
      have P3 := Lib.hid (P2.out.upd u3 (by simp))
      clear u3 f2 g2
      cases av with
      | false =>
        go_wp2_with fail
        go_ret
        exact ⟨by rw [HR.out]; simp, U3.out⟩
      | true =>
        have f3 := B3.out.facts
        have g3 := P3.out.facts
        go_wp2_with fail
        refine (arg_ok br bn pb _).mono ?_; rintro e w4 ⟨rfl, u4⟩
        rw [HBV.out]
        have U4 := Lib.hid (U3.out.trans u4)
        have B4 := Lib.hid (B3.out.upd u4 (by simp))
        have P4 := Lib.hid (P3.out.upd u4 (by simp))
        clear u4 f3 g3
        cases bv with
        | false =>
          go_wp2_with fail
          go_ret
          exact ⟨by rw [HR.out]; simp, U4.out⟩
        | true =>
          have f4 := B4.out.facts
          have g4 := P4.out.facts
          have hnb : nb ≤ 9223372036854775807 := hlb
          have hne : ne ≤ 9223372036854775807 := hle
          clear hlb hle
          cases pr <;> cases pd <;> cases pe
          all_goals
            go_wp2_with fail
          all_goals
            go_ret
            have HQ := U4.out
            have HE := HR.out
            clear HK HP U1 B1 U2 B2 P2 U3 B3 P3 B4 P4 HCV HAV HBV U4 HR f4 g4
            refine ⟨?_, HQ⟩
            rw [HE]
            clear HQ HE
            first
              | (simp [loopB, regB, bodyB, *]; done)
              | (simp [loopB, regB, bodyB, *]; omega)
              | (simp only [bne_iff_ne, ne_eq, bne_eq_false_iff_eq] at *; exfalso; omega)
              | (simp only [bne_iff_ne, ne_eq, bne_eq_false_iff_eq] at *; simp [loopB, regB, bodyB, *]; done)
              | (simp only [bne_iff_ne, ne_eq, bne_eq_false_iff_eq] at *; simp [loopB, regB, bodyB, *]; omega)
              | (have hr0 : reg = 0 := by
                   have : (reg != 0) = false := by assumption
                   simpa using this
                 subst hr0
                 rcases Nat.eq_zero_or_pos ne with hz | hz
                 · subst hz; simp [loopB, regB, bodyB, *]
                 · have z1 : ((ne : Int) == 0) = false := by
                     have : ¬ (ne : Int) = 0 := by omega
                     simpa using this
                   have z2 : (ne == 0) = false := by
                     have : ¬ ne = 0 := by omega
                     simpa using this
                   simp [loopB, regB, bodyB, *])
              | (rcases Nat.eq_zero_or_pos ne with hz | hz
                 · subst hz; simp [loopB, regB, bodyB, *]
                 · have z1 : ((ne : Int) == 0) = false := by
                     have : ¬ (ne : Int) = 0 := by omega
                     simpa using this
                   have z2 : (ne == 0) = false := by
                     have : ¬ ne = 0 := by omega
                     simpa using this
                   simp [loopB, regB, bodyB, *])
              | done
end Go.Proofs.YtblfklnnojhadaaDoor

/-
  order.Check, concordref12.Check.
-/
import Derived.Test.YtegpfhldbdegbaaDoorOWrong
import Derived.Test.YtegpfhldbdegbaaDoorErrV
import Derived.Deep.QuietTactic
import Derived.BigQuiet
set_option linter.unusedVariables false
namespace Go.Proofs.YtegpfhldbdegbaaDoor
open Go.RowKit

/-- What Check says: the number, the place. -/
def chkR (L : List Att) : Int × Int :=
  match (List.range L.length).find? (fun i => wrongAt L i != 0) with
  | none => (0, 0)
  | some i => (wrongAt L i, (i : Int) + 1)
theorem chk_none {L : List Att} (h : ∀ k, k < L.length → wrongAt L k = 0) : chkR L = (0, 0) := by
  unfold chkR
  have : (List.range L.length).find? (fun i => wrongAt L i != 0) = none := by
    rw [List.find?_eq_none]
    intro x hx
    simp [h x (by simpa using hx)]
  rw [this]
theorem chk_some {L : List Att} {i : Nat} (h : ∀ k, k < i → wrongAt L k = 0) (hi : i < L.length) (hw : wrongAt L i ≠ 0) : chkR L = (wrongAt L i, (i : Int) + 1) := by
  unfold chkR
  have : (List.range L.length).find? (fun i => wrongAt L i != 0) = some i := by
    rw [List.find?_range_eq_some]
    refine ⟨by simpa using hw, by simpa using hi, fun j hj => by simp [h j hj]⟩
  rw [this]
theorem wrong_range (L : List Att) (i : Nat) : wrongAt L i ≠ 0 → 1 ≤ wrongAt L i ∧ wrongAt L i ≤ 17 := by
  unfold wrongAt
  split
  · omega
  · split
    · omega
    · split <;> omega

set_option maxHeartbeats 1000000 in
theorem check_ok (A : Option Addr) (n c : Nat) (L : List Att) (w : World) (hA : Atts w A L) (hn : L.length = n) (h60 : n ≤ 100) (hc : n ≤ c) (hcm : c ≤ 9223372036854775807) :
    Calls Tryd.prog 13 #[.slice A n c] w fun e w' => ∃ v, e = .returned v ∧ ErrV w' v (chkR L).1 (chkR L).2 ∧ Upd [] w w' := by
  have HN := Lib.hid hn
  have HA := Lib.hid hA
  clear hn hA
  go_enter Tryd.func13, Tryd.ntmps13
  go_wp2_with fail
  go_loopw [7] (fun u wr => ∃ k : Nat, u = .int .i64 k ∧ k ≤ n ∧ Hid (Upd [] w wr) ∧ Hid (∀ j, j < k → wrongAt L j = 0)) (fun u _ => n - (intOf u).toNat)
  case atStart => exact ⟨0, rfl, by omega, Lib.hid (.refl _ _), Lib.hid (by intro j hj; omega)⟩
  case round =>
    obtain ⟨k, rfl, hk, HU, HD⟩ := hrel
    by_cases hkn : k < n
    · go_wp2_with fail
      refine (wrong_ok A n c L k _ (HA.out.upd HU.out) HN.out h60 hkn hc hcm).mono ?_; rintro e w1 ⟨rfl, u1⟩
      have U1 := Lib.hid (HU.out.trans u1)
      clear u1
      obtain ⟨x, hx⟩ : ∃ x, wrongAt L k = x := ⟨_, rfl⟩
      rw [hx]
      have HX := Lib.hid hx
      clear hx
      by_cases h0 : x = 0
      · subst h0
        go_wp2_with fail
        go_roundw
        case rel => exact ⟨k + 1, by go_num, by omega, U1, Lib.hid (below_succ HD.out HX.out)⟩
        case measure => simp [intOf]; omega
      · have e1 : (x != 0) = true := by simpa using h0
        have HC : Hid (chkR L = (x, (k : Int) + 1)) := Lib.hid (by rw [chk_some HD.out (by rw [HN.out]; exact hkn) (by rw [HX.out]; exact h0), HX.out])
        have HR : Hid (1 ≤ x ∧ x ≤ 17) := Lib.hid (by have := wrong_range L k (by rw [HX.out]; exact h0); rwa [HX.out] at this)
        clear h0
        go_wp2_with fail
        go_ret
        refine ⟨_, rfl, ?_, U1.out.alloc _⟩
        rw [HC.out]
        exact .fault (Blk.new _ _ _) HR.out.1 HR.out.2
    · obtain rfl : n = k := by omega
      have HC : Hid (chkR L = (0, 0)) := Lib.hid (chk_none (by rw [HN.out]; exact HD.out))
      go_wp2_with fail
      go_ret
      refine ⟨_, rfl, ?_, HU.out⟩
      rw [HC.out]
      exact .nil _

set_option maxRecDepth 100000 in
set_option maxHeartbeats 4000000 in
theorem rcheck_ok (A : Option Addr) (n c : Nat) (L : List Att) (w : World) (hA : Atts w A L) (hn : L.length = n) (h60 : n ≤ 100) :
    Calls Tryd.prog 14 #[.slice A n c] w fun e w' => e = .returned (.tuple #[.int .i64 (chkR L).1, .int .i64 (chkR L).2]) ∧ Upd [] w w' := by
  have HN := Lib.hid hn
  have HA := Lib.hid hA
  clear hn hA
  go_enter Tryd.func14, Tryd.ntmps14
  go_wp2_with fail
  go_loopw [4] (fun u wr => ∃ k : Nat, u = .int .i64 k ∧ k ≤ n ∧ Hid (Upd [] w wr) ∧ Hid (∀ j, j < k → wrongAt L j = 0)) (fun u _ => n - (intOf u).toNat)
  case atStart => exact ⟨0, rfl, by omega, Lib.hid (.refl _ _), Lib.hid (by intro j hj; omega)⟩
  case round =>
    obtain ⟨i, rfl, hi, HU, HD⟩ := hrel
    by_cases hin : i < n
    · obtain ⟨v, hv⟩ : ∃ v, L.getD i default = v := ⟨_, rfl⟩
      obtain ⟨ad, rfl, x1, x2, x3, x4, x5, x6⟩ := (HA.out.upd HU.out).six i (by rw [HN.out]; exact hin) v hv
      obtain ⟨a1, a2, a3, a4, a5, a6⟩ := v
      dsimp only at x1 x2 x3 x4 x5 x6
      have HV := Lib.hid hv
      have i0 : (0 : Int) ≤ i := by omega
      have i1 : (i : Int) < n := by omega
      clear hv x1 x2 x3 x4
      by_cases h2 : a6 < a5
      · have HX : Hid (wrongAt L i = 2) := Lib.hid (wrong_2 (by rw [HV.out]; exact h2))
        have HC : Hid (chkR L = (2, (i : Int) + 1)) := Lib.hid (by rw [chk_some HD.out (by rw [HN.out]; exact hin) (by rw [HX.out]; omega), HX.out])
        go_wp2_with fail
        go_quiet (fail)
        go_wp2_with fail
        go_ret2
        rw [HC.out]
        exact ⟨rfl, HU.out.drewN _⟩
      · have HR : Hid ((L.getD i default).be ≤ (L.getD i default).en) := Lib.hid (by rw [HV.out]; exact Int.not_lt.1 h2)
        go_wp2_with fail
        go_quiet (fail)
        go_wp2_with fail
        clear x5 x6
        have U1 : Hid (Upd [] w (wr.drewN nq)) := Lib.hid (HU.out.drewN _)
        generalize wr.drewN nq = w1 at *
        go_loopw [5] (fun u ws => ∃ k : Nat, u = .int .i64 k ∧ k ≤ i ∧ Hid (Upd [] w ws) ∧ Hid (∀ j, j < k → dupB L i j = false)) (fun u _ => i - (intOf u).toNat)
        case atStart => exact ⟨0, rfl, by omega, U1, Lib.hid (by intro j hj; omega)⟩
        case round =>
          obtain ⟨k, rfl, hk, KU, KD⟩ := hrel
          by_cases hki : k < i
          · obtain ⟨v, hv⟩ : ∃ v, L.getD k default = v := ⟨_, rfl⟩
            obtain ⟨ad', he, y1, y2, y3, y4, y5, y6⟩ := (HA.out.upd KU.out).six k (by rw [HN.out]; omega) v hv
            injection he with he
            subst he
            obtain ⟨ad', he, x1, x2, x3, x4, x5, x6⟩ := (HA.out.upd KU.out).six i (by rw [HN.out]; omega) _ HV.out
            injection he with he
            subst he
            obtain ⟨b1, b2, b3, b4, b5, b6⟩ := v
            dsimp only at y1 y2 y3 y4 y5 y6 x1 x2 x3 x4 x5 x6
            have HK := Lib.hid hv
            have k0 : (0 : Int) ≤ k := by omega
            have k1 : (k : Int) < n := by omega
            clear hv y1 y2 y5 y6 x1 x2 x5 x6
            have HDK : Hid (dupB L i k = (a4 && b4 && decide (a3 = b3))) := Lib.hid (by unfold dupB; rw [HV.out, HK.out])
            cases a4 with
            | false =>
              go_wp2_with fail
              go_quiet (fail)
              go_wp2_with fail
              go_roundw
              case rel => exact ⟨k + 1, by go_num, by omega, Lib.hid (KU.out.drewN _), Lib.hid (below_succ KD.out (by rw [HDK.out]; rfl))⟩
              case measure => simp [intOf]; omega
            | true =>
              cases b4 with
              | false =>
                go_wp2_with fail
                go_quiet (fail)
                go_wp2_with fail
                go_roundw
                case rel => exact ⟨k + 1, by go_num, by omega, Lib.hid (KU.out.drewN _), Lib.hid (below_succ KD.out (by rw [HDK.out]; rfl))⟩
                case measure => simp [intOf]; omega
              | true =>
                by_cases h3 : a3 = b3
                · subst h3
                  have HX : Hid (wrongAt L i = 7) := Lib.hid (wrong_7 HR.out hki (by rw [HDK.out]; simp))
                  have HC : Hid (chkR L = (7, (i : Int) + 1)) := Lib.hid (by rw [chk_some HD.out (by rw [HN.out]; exact hin) (by rw [HX.out]; omega), HX.out])
                  go_wp2_with fail
                  go_quiet (fail)
                  go_wp2_with fail
                  go_ret2
                  rw [HC.out]
                  exact ⟨rfl, KU.out.drewN _⟩
                · have e3 : (a3 == b3) = false := by simpa using h3
                  have H3 : Hid (dupB L i k = false) := Lib.hid (by rw [HDK.out]; simp [h3])
                  clear h3
                  go_wp2_with fail
                  go_quiet (fail)
                  go_wp2_with fail
                  go_roundw
                  case rel => exact ⟨k + 1, by go_num, by omega, Lib.hid (KU.out.drewN _), Lib.hid (below_succ KD.out H3.out)⟩
                  case measure => simp [intOf]; omega
          · obtain rfl : i = k := by omega
            clear HU U1
            go_wp2_with fail
            obtain ⟨w2, rfl⟩ : ∃ w2 : World, w2 = wr := ⟨_, rfl⟩
            go_loopw [6] (fun u ws => ∃ j : Nat, u = .int .i64 j ∧ j ≤ n ∧ Hid (Upd [] w ws) ∧ Hid (∀ k, k < j → confB L i k = false)) (fun u _ => n - (intOf u).toNat)
            case atStart => exact ⟨0, rfl, by omega, KU, Lib.hid (by intro j hj; omega)⟩
            case round =>
              obtain ⟨j, rfl, hj, JU, JC⟩ := hrel
              by_cases hjn : j < n
              · obtain ⟨v, hv⟩ : ∃ v, L.getD j default = v := ⟨_, rfl⟩
                obtain ⟨ad', he, y1, y2, y3, y4, y5, y6⟩ := (HA.out.upd JU.out).six j (by rw [HN.out]; omega) v hv
                injection he with he
                subst he
                obtain ⟨ad', he, x1, x2, x3, x4, x5, x6⟩ := (HA.out.upd JU.out).six i (by rw [HN.out]; omega) _ HV.out
                injection he with he
                subst he
                obtain ⟨b1, b2, b3, b4, b5, b6⟩ := v
                dsimp only at y1 y2 y3 y4 y5 y6 x1 x2 x3 x4 x5 x6
                have HK := Lib.hid hv
                have j0 : (0 : Int) ≤ j := by omega
                have j1 : (j : Int) < n := by omega
                clear hv y1 y2 y3 y4 y5 x1 x2 x3 x4 x6
                have HCJ : Hid (confB L i j = (decide (j ≠ i) && decide (b6 < a5) && !ahd L j i)) := Lib.hid (by unfold confB; rw [HV.out, HK.out])
                by_cases hji : j = i
                · subst hji
                  have H3 : Hid (confB L j j = false) := Lib.hid (by rw [HCJ.out]; simp)
                  go_wp2_with fail
                  go_quiet (fail)
                  go_wp2_with fail
                  go_roundw
                  case rel => exact ⟨j + 1, by go_num, by omega, Lib.hid (JU.out.drewN _), Lib.hid (below_succ JC.out H3.out)⟩
                  case measure => simp [intOf]; omega
                · have e1 : ((j : Int) != (i : Int)) = true := by
                    have : ¬ (j : Int) = i := by omega
                    simpa using this
                  have hne := Lib.hid hji
                  clear hji
                  by_cases h5 : b6 < a5
                  · have KP := Lib.hid (show ∀ W, Upd [] wr W → W.cell? ⟨(ad.add (i * 6)).block, (ad.add (i * 6)).off + 4, none⟩ = some (.int .i64 a5) ∧ W.cell? ⟨(ad.add (j * 6)).block, (ad.add (j * 6)).off + 5, none⟩ = some (.int .i64 b6) from fun W hu => by
                      obtain ⟨ad1, he, _, _, _, _, z5, _⟩ := (HA.out.upd (JU.out.trans hu)).six i (by rw [HN.out]; omega) _ HV.out
                      injection he with he
                      subst he
                      obtain ⟨ad1, he, _, _, _, _, _, z6⟩ := (HA.out.upd (JU.out.trans hu)).six j (by rw [HN.out]; omega) _ HK.out
                      injection he with he
                      subst he
                      exact ⟨z5, z6⟩)
                    have AT := Lib.hid (HA.out.upd (JU.out.trans (Upd.refl [] wr).drew))
                    go_wp2_with fail
                    cases hb : ahd L j i with
                    | true =>
                      have H3 : Hid (confB L i j = false) := Lib.hid (by rw [HCJ.out, hb]; simp)
                      have HB := Lib.hid hb
                      clear hb
                      go_region_held3 (fun W => W.cell? ⟨(ad.add (i * 6)).block, (ad.add (i * 6)).off + 4, none⟩ = some (.int .i64 a5) ∧ W.cell? ⟨(ad.add (j * 6)).block, (ad.add (j * 6)).off + 5, none⟩ = some (.int .i64 b6)) (first | exact KP.out _ ((Upd.refl [] wr).drew.trans u3) | exact KP.out _ ((Upd.refl [] wr).drew) | go_keep)
                        (first | (go_at_call 10; refine (rahead_at (some ad) n c L _ AT.out HN.out j i hjn hin).mono ?_; rintro e w3 ⟨rfl, u3⟩; rw [HB.out]))
                      go_wp2_with fail
                      go_roundw
                      case rel => exact ⟨j + 1, by go_num, by omega, Lib.hid (JU.out.drew.trans u3), Lib.hid (below_succ JC.out H3.out)⟩
                      case measure => simp [intOf]; omega
                    | false =>
                      have HX : Hid (wrongAt L i = 12) := Lib.hid (wrong_12 HR.out KD.out (by rw [HN.out]; exact hjn) (by rw [HCJ.out, hb]; simp [hne.out, h5]))
                      have HC : Hid (chkR L = (12, (i : Int) + 1)) := Lib.hid (by rw [chk_some HD.out (by rw [HN.out]; exact hin) (by rw [HX.out]; omega), HX.out])
                      have HB := Lib.hid hb
                      clear hb
                      go_region_held3 (fun W => W.cell? ⟨(ad.add (i * 6)).block, (ad.add (i * 6)).off + 4, none⟩ = some (.int .i64 a5) ∧ W.cell? ⟨(ad.add (j * 6)).block, (ad.add (j * 6)).off + 5, none⟩ = some (.int .i64 b6)) (first | exact KP.out _ ((Upd.refl [] wr).drew.trans u3) | exact KP.out _ ((Upd.refl [] wr).drew) | go_keep)
                        (first | (go_at_call 10; refine (rahead_at (some ad) n c L _ AT.out HN.out j i hjn hin).mono ?_; rintro e w3 ⟨rfl, u3⟩; rw [HB.out]))
                      go_wp2_with fail
                      go_ret2
                      rw [HC.out]
                      exact ⟨rfl, JU.out.drew.trans u3⟩
                  · have H3 : Hid (confB L i j = false) := Lib.hid (by rw [HCJ.out]; simp [h5])
                    have e5 : decide (b6 < a5) = false := by simpa using h5
                    go_wp2_with fail
                    go_quiet (fail)
                    go_wp2_with fail
                    go_roundw
                    case rel => exact ⟨j + 1, by go_num, by omega, Lib.hid (JU.out.drewN _), Lib.hid (below_succ JC.out H3.out)⟩
                    case measure => simp [intOf]; omega
              · obtain rfl : n = j := by omega
                have H3 : Hid (wrongAt L i = 0) := Lib.hid (wrong_0 HR.out KD.out (by rw [HN.out]; exact JC.out))
                go_wp2_with fail
                go_roundw
                case rel => exact ⟨i + 1, by go_num, by omega, JU, Lib.hid (below_succ HD.out H3.out)⟩
                case measure => simp [intOf]; omega
    · obtain rfl : n = i := by omega
      have HC : Hid (chkR L = (0, 0)) := Lib.hid (chk_none (by rw [HN.out]; exact HD.out))
      go_wp2_with fail
      go_ret2
      rw [HC.out]
      exact ⟨rfl, HU.out⟩
end Go.Proofs.YtegpfhldbdegbaaDoor

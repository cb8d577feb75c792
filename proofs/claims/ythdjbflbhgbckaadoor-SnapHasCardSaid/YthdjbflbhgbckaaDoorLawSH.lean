/-
  SnapHas, the walk.
-/
import Derived.Test.YthdjbflbhgbckaaDoorAlive27
import Derived.Test.YthdjbflbhgbckaaDoorRef27b
import Derived.Test.YthdjbflbhgbckaaDoorOfCases
import Derived.Test.YthdjbflbhgbckaaDoorErrV
set_option linter.unusedVariables false
namespace Go.Proofs.YthdjbflbhgbckaaDoor
open Go.RowKit Stab Snap Mrg
attribute [local go_sem] litStep_value

theorem find_none {l : PL} {k r : Int} (h : FindR l k r) (hn : Assoc.get l k = none) : r = -1 := by
  rcases h with ⟨i, v, _, _, _, hg⟩ | ⟨h, _⟩
  · rw [hn] at hg; cases hg
  · exact h
theorem find_some {l : PL} {k r v : Int} (h : FindR l k r) (hn : Assoc.get l k = some v) : ∃ i : Nat, r = i ∧ l[i]? = some (k, v) := by
  rcases h with ⟨i, v', h1, h2, _, hg⟩ | ⟨_, h⟩
  · rw [hn] at hg; cases hg; exact ⟨i, h1, h2⟩
  · rw [hn] at h; cases h
set_option maxRecDepth 100000 in
set_option maxHeartbeats 8000000 in
theorem law_shas (A : Option Addr) (n c : Nat) (l : PL) (key : Int) (w : World) (h : Rd encPr w (.slice A n c) l) (hn : l.length = n) (hg : Typed w) :
    Calls Tryd.prog 3 #[.slice A n c, .int .i64 key] w fun e w' => e = .returned (.bool true) ∧ Upd [] w w' := by
  have H := Lib.hid h
  have HN := Lib.hid hn
  have HG := Lib.hid hg
  clear h hn hg
  go_enter Tryd.func3, Tryd.ntmps3
  by_cases h6 : 60 < n
  · have d6 : decide ((60 : Int) < (n : Int)) = true := by simp; omega
    have U0 : Hid (Upd [] w w) := Lib.hid (.refl _ _)
    go_wp2_with fail
    refine (alive27 w).mono ?_; rintro e w9 ⟨rfl, u9⟩
    have U9 := Lib.hid (U0.out.trans u9)
    clear u9
    go_wp2_with fail
    go_ret
    exact ⟨rfl, U9.out⟩
  have d6 : decide ((60 : Int) < (n : Int)) = false := by simp; omega
  go_wp2_with fail
  refine (s_of A n c l w H.out HN.out (by omega)).mono ?_
  intro e w1 h1
  obtain ⟨u1, h1 | h1⟩ := of_cases (r := []) (f := 0) (a := 0) h1
  · obtain ⟨g, kk, rfl, he, ho⟩ := h1
    have U1 := Lib.hid u1
    have E1 := Lib.hid he
    clear he u1
    go_wp2_with fail
    refine (r_of A n c l w1 (H.out.upd0 U1.out) HN.out (by omega)).mono ?_
    rintro e w2 ⟨v, r, f, a, rfl, hr, _, o2, u2⟩
    obtain ⟨rfl, rfl, rfl⟩ := of_both hr ho
    obtain ⟨A7, c7, rfl, _, _⟩ := own_slice o2
    have U2 := Lib.hid (U1.out.trans u2)
    have E2 := Lib.hid (E1.out.upd u2)
    have O2 := Lib.hid o2
    clear u2 hr ho o2 U1 E1
    go_wp2_with fail
    refine (no_err E2.out).mono ?_; rintro e w' ⟨rfl, rfl⟩
    go_wp2_with fail
    refine (place_err E2.out (HG.out.upd U2.out (by simp))).mono ?_; rintro e w3 ⟨rfl, u3⟩
    have U3 := Lib.hid (U2.out.trans u3)
    have O3 := Lib.hid (O2.out.upd0 u3)
    clear u3 U2 E2 O2
    go_wp2_with fail
    refine (s_get_nil key w3).mono ?_; rintro e w' ⟨rfl, rfl⟩
    go_wp2_with fail
    refine (r_find A7 0 c7 [] key w3 O3.out.rd rfl (by omega)).mono ?_
    rintro e w' ⟨k, rfl, hf, rfl⟩
    obtain rfl := find_none hf (Assoc.get_nil _)
    clear hf
    go_wp2_with fail
    refine (s_all_nil w3).mono ?_
    rintro e w4 ⟨va, rfl, oa, u4⟩
    obtain ⟨Aa, ca, rfl, _, _⟩ := own_slice oa
    have OA := Lib.hid oa
    have O4 := Lib.hid (O3.out.upd0 u4)
    have U4 := Lib.hid (U3.out.trans u4)
    clear u4 oa O3 U3
    go_wp2_with fail
    refine (pairs_rd Aa A7 0 ca 0 c7 [] [] w4 OA.out.rd O4.out.rd rfl rfl (by omega) (by omega)).mono ?_
    rintro e w5 ⟨rfl, u5⟩
    rw [decide_eq_true rfl]
    have U5 := Lib.hid (U4.out.trans u5)
    clear u5 U4 OA O4
    go_wp2_with fail
    refine (s_len_nil w5).mono ?_; rintro e w' ⟨rfl, rfl⟩
    go_wp2_with fail
    refine (alive27 w5).mono ?_; rintro e w9 ⟨rfl, u9⟩
    have U9 := Lib.hid (U5.out.trans u9)
    clear u9
    go_wp2_with fail
    go_ret
    exact ⟨rfl, U9.out⟩
  obtain ⟨sb, r, rfl, hs, ho⟩ := h1
  have U1 := Lib.hid u1
  have S1 := Lib.hid hs
  have HR : Hid (r.length = n) := Lib.hid (by
    rcases ho with ⟨_, _, _, h1, h2⟩ | ⟨_, h, _⟩
    · exact h2.length_eq.trans HN.out
    · simp at h)
  have HO := Lib.hid ho
  clear u1 hs ho
  go_wp2_with fail
  refine (r_of A n c l w1 (H.out.upd0 U1.out) HN.out (by omega)).mono ?_
  rintro e w2 ⟨v, r2, f, a, rfl, hr, _, o2, u2⟩
  obtain ⟨rfl, rfl, rfl⟩ := of_both hr HO.out
  obtain ⟨A7, c7, rfl, _, _⟩ := own_slice o2
  have O2 : Hid (Ow encPr 39 w2 w1.heap.size (.slice A7 n c7) r2) := Lib.hid (by rw [HR.out] at o2; exact o2)
  rw [HR.out]
  have S2 := Lib.hid (S1.out.upd0 u2)
  have U2 := Lib.hid (U1.out.trans u2)
  clear u2 hr o2 S1 HO U1
  go_wp2_with fail
  refine (no_nil _).mono ?_; rintro e w' ⟨rfl, rfl⟩
  go_wp2_with fail
  refine (place_nil w2).mono ?_; rintro e w3 ⟨rfl, u3⟩
  have U3 := Lib.hid (U2.out.trans u3)
  have O3 := Lib.hid (O2.out.upd0 u3)
  have S3 := Lib.hid (S2.out.upd0 u3)
  clear u3 U2 O2 S2
  go_wp2_with fail
  refine (s_get _ sb r2 key w3 S3.out).mono ?_
  rintro e w4 ⟨rfl, u4⟩
  have U4 := Lib.hid (U3.out.trans u4)
  have O4 := Lib.hid (O3.out.upd0 u4)
  have S4 := Lib.hid (S3.out.upd0 u4)
  clear u4 U3 O3 S3
  obtain ⟨og, hog⟩ : ∃ x, Assoc.get r2 key = x := ⟨_, rfl⟩
  rw [hog]
  go_wp2_with fail
  refine (r_find A7 n c7 r2 key w4 O4.out.rd HR.out (by omega)).mono ?_
  rintro e w' ⟨k, rfl, hf, rfl⟩
  cases og with
  | none =>
    obtain rfl := find_none hf hog
    clear hf hog
    go_wp2_with fail
    refine (s_all _ sb r2 w4 S4.out).mono ?_
    rintro e w5 ⟨va, rfl, oa, u5⟩
    obtain ⟨Aa, ca, rfl, _, _⟩ := own_slice oa
    rw [HR.out] at oa ⊢
    have OA := Lib.hid oa
    have O5 := Lib.hid (O4.out.upd0 u5)
    have S5 := Lib.hid (S4.out.upd0 u5)
    have U5 := Lib.hid (U4.out.trans u5)
    clear u5 oa O4 S4 U4
    go_wp2_with fail
    refine (pairs_rd Aa _ n ca n c7 r2 r2 w5 OA.out.rd O5.out.rd HR.out HR.out (by omega) (by omega)).mono ?_
    rintro e w6 ⟨rfl, u6⟩
    rw [decide_eq_true rfl]
    have U6 := Lib.hid (U5.out.trans u6)
    have O6 := Lib.hid (O5.out.upd0 u6)
    have S6 := Lib.hid (S5.out.upd0 u6)
    clear u6 U5 O5 S5 OA
    go_wp2_with fail
    refine (s_len _ sb r2 w6 S6.out).mono ?_; rintro e w' ⟨rfl, rfl⟩
    rw [HR.out]
    go_wp2_with fail
    refine (alive27 w6).mono ?_; rintro e w9 ⟨rfl, u9⟩
    have U9 := Lib.hid (U6.out.trans u9)
    clear u9
    go_wp2_with fail
    go_ret
    exact ⟨rfl, U9.out⟩
  | some vv =>
    obtain ⟨i, rfl, hi⟩ := find_some hf hog
    have hin : i < n := by rw [← HR.out]; exact (List.getElem?_eq_some_iff.1 hi).1
    obtain ⟨g, cg, cur, e1, -⟩ := own_form O4.out (by rw [HR.out]; omega)
    injection e1 with e1 en e1'
    subst e1 e1'
    have HI := Lib.hid hi
    have q1 : (0 : Int) ≤ (i : Int) := by omega
    have q2 : (i : Int) < (n : Int) := by omega
    have q3 : decide ((i : Int) < 0) = false := by simp
    have q4 : decide ((0 : Int) ≤ (i : Int)) = true := by simp
    clear hf hog hi en
    go_wp2_with fail
    refine (s_all _ sb r2 w4 S4.out).mono ?_
    rintro e w5 ⟨va, rfl, oa, u5⟩
    obtain ⟨Aa, ca, rfl, _, _⟩ := own_slice oa
    rw [HR.out] at oa ⊢
    have OA := Lib.hid oa
    have O5 := Lib.hid (O4.out.upd0 u5)
    have S5 := Lib.hid (S4.out.upd0 u5)
    have U5 := Lib.hid (U4.out.trans u5)
    clear u5 oa O4 S4 U4
    go_wp2_with fail
    refine (pairs_rd Aa _ n ca n c7 r2 r2 w5 OA.out.rd O5.out.rd HR.out HR.out (by omega) (by omega)).mono ?_
    rintro e w6 ⟨rfl, u6⟩
    rw [decide_eq_true rfl]
    have U6 := Lib.hid (U5.out.trans u6)
    have O6 := Lib.hid (O5.out.upd0 u6)
    have S6 := Lib.hid (S5.out.upd0 u6)
    clear u6 U5 O5 S5 OA
    go_wp2_with fail
    refine (s_len _ sb r2 w6 S6.out).mono ?_; rintro e w' ⟨rfl, rfl⟩
    rw [HR.out]
    have f0 : w6.cell? ⟨g, i * 2 + 1, none⟩ = some (.int .i64 vv) := O6.out.at_ HI.out 1 _ rfl
    go_wp2_with fail
    refine (alive27 w6).mono ?_; rintro e w9 ⟨rfl, u9⟩
    have U9 := Lib.hid (U6.out.trans u9)
    clear u9
    go_wp2_with fail
    go_ret
    exact ⟨rfl, U9.out⟩
end Go.Proofs.YthdjbflbhgbckaaDoor

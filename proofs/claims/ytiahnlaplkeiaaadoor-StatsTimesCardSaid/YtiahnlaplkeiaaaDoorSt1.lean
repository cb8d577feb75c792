/-
  stats: add, Of, Join.
-/
import Derived.Test.YtiahnlaplkeiaaaDoorEnds
import Derived.Test.YtiahnlaplkeiaaaDoorAppV
set_option linter.unusedVariables false
namespace Go.Proofs.YtiahnlaplkeiaaaDoor
open Go.RowKit St
attribute [local go_sem] litStep_value

def talV (t : Tal) : Value := .agg #[.int .i64 t.dn, .int .i64 t.ab, .int .i64 t.bl, .int .i64 t.cp, .int .i64 t.fl, .int .i64 t.wo, .int .i64 t.tm, .int .i64 t.lg]
def enV (x : En) : Value := .agg #[.int .i64 x.th, .int .i64 x.ix, .int .i64 x.st, .bool x.wr, .int .i64 x.be, .int .i64 x.en, .int .i64 x.kd, .slice x.ta x.tn x.tc, .int .i64 x.er]

set_option maxRecDepth 100000 in
set_option maxHeartbeats 4000000 in
theorem add_ok (t : Tal) (x : En) (n : Nat) (w : World) (ht : Sm t n) (hn : n ≤ 1000) (hx : EB x) :
    Calls Tryd.prog 22 #[talV t, enV x] w fun e w' => e = .returned (talV (join t (one x))) ∧ Upd [] w w' := by
  unfold talV enV
  obtain ⟨th, ix, st, wr, be, en, kd, er, ta, tn, tc⟩ := x
  obtain ⟨dn, wo, ab, bl, cp, fl, tm, lg⟩ := t
  obtain ⟨⟨h1, h1'⟩, ⟨h2, h2'⟩, ⟨h3, h3'⟩, ⟨h4, h4'⟩, ⟨h5, h5'⟩, ⟨h6, h6'⟩, ⟨h7, h7'⟩, ⟨h8, h8'⟩, -⟩ := ht
  obtain ⟨e1, e2, e3, e4⟩ := hx
  simp only at h1 h1' h2 h2' h3 h3' h4 h4' h5 h5' h6 h6' h7 h7' h8 h8' e1 e2 e3 e4
  have w1 : dn ≤ 1000 := by omega
  have w2 : wo ≤ 1000 := by omega
  have w3 : ab ≤ 1000 := by omega
  have w4 : bl ≤ 1000 := by omega
  have w5 : cp ≤ 1000 := by omega
  have w6 : fl ≤ 1000 := by omega
  have w7 : tm ≤ 2000000000 := by omega
  have w8 : -2000000000 ≤ tm := by omega
  clear h1' h2' h3' h4' h5' h6' h7 h7' hn
  by_cases k1 : kd = 1
  · subst k1
    cases wr
    · go_enter Tryd.func22, Tryd.ntmps22
      go_wp2_with fail
      · refine bodyPost_ret (v := .agg #[.int .i64 (dn + 1), .int .i64 (ab), .int .i64 (bl), .int .i64 (cp), .int .i64 (fl), .int .i64 (wo), .int .i64 (tm + (en - be)), .int .i64 (en - be)]) (by simp [results, Tryd.results22, go_sem]) rfl ?_
        refine ⟨?_, ?_⟩
        · have hm : max lg (en - be) = en - be := by omega
          simp [join, one, isI, hm]
        · repeat (first | exact Upd.refl _ _ | refine Upd.setCell ?_ (.inr (by simp <;> omega)) _ | refine Upd.alloc ?_ _)
      · refine bodyPost_ret (v := .agg #[.int .i64 (dn + 1), .int .i64 (ab), .int .i64 (bl), .int .i64 (cp), .int .i64 (fl), .int .i64 (wo), .int .i64 (tm + (en - be)), .int .i64 (lg)]) (by simp [results, Tryd.results22, go_sem]) rfl ?_
        refine ⟨?_, ?_⟩
        · have hm : max lg (en - be) = lg := by omega
          simp [join, one, isI, hm]
        · repeat (first | exact Upd.refl _ _ | refine Upd.setCell ?_ (.inr (by simp <;> omega)) _ | refine Upd.alloc ?_ _)
    · go_enter Tryd.func22, Tryd.ntmps22
      go_wp2_with fail
      · refine bodyPost_ret (v := .agg #[.int .i64 (dn + 1), .int .i64 (ab), .int .i64 (bl), .int .i64 (cp), .int .i64 (fl), .int .i64 (wo + 1), .int .i64 (tm + (en - be)), .int .i64 (en - be)]) (by simp [results, Tryd.results22, go_sem]) rfl ?_
        refine ⟨?_, ?_⟩
        · have hm : max lg (en - be) = en - be := by omega
          simp [join, one, isI, hm]
        · repeat (first | exact Upd.refl _ _ | refine Upd.setCell ?_ (.inr (by simp <;> omega)) _ | refine Upd.alloc ?_ _)
      · refine bodyPost_ret (v := .agg #[.int .i64 (dn + 1), .int .i64 (ab), .int .i64 (bl), .int .i64 (cp), .int .i64 (fl), .int .i64 (wo + 1), .int .i64 (tm + (en - be)), .int .i64 (lg)]) (by simp [results, Tryd.results22, go_sem]) rfl ?_
        refine ⟨?_, ?_⟩
        · have hm : max lg (en - be) = lg := by omega
          simp [join, one, isI, hm]
        · repeat (first | exact Upd.refl _ _ | refine Upd.setCell ?_ (.inr (by simp <;> omega)) _ | refine Upd.alloc ?_ _)
  by_cases k2 : kd = 2
  · subst k2
    go_enter Tryd.func22, Tryd.ntmps22
    go_wp2_with fail
    · refine bodyPost_ret (v := .agg #[.int .i64 (dn), .int .i64 (ab + 1), .int .i64 (bl), .int .i64 (cp), .int .i64 (fl), .int .i64 (wo), .int .i64 (tm + (en - be)), .int .i64 (en - be)]) (by simp [results, Tryd.results22, go_sem]) rfl ?_
      refine ⟨?_, ?_⟩
      · have hm : max lg (en - be) = en - be := by omega
        simp [join, one, isI, hm]
      · repeat (first | exact Upd.refl _ _ | refine Upd.setCell ?_ (.inr (by simp <;> omega)) _ | refine Upd.alloc ?_ _)
    · refine bodyPost_ret (v := .agg #[.int .i64 (dn), .int .i64 (ab + 1), .int .i64 (bl), .int .i64 (cp), .int .i64 (fl), .int .i64 (wo), .int .i64 (tm + (en - be)), .int .i64 (lg)]) (by simp [results, Tryd.results22, go_sem]) rfl ?_
      refine ⟨?_, ?_⟩
      · have hm : max lg (en - be) = lg := by omega
        simp [join, one, isI, hm]
      · repeat (first | exact Upd.refl _ _ | refine Upd.setCell ?_ (.inr (by simp <;> omega)) _ | refine Upd.alloc ?_ _)
  by_cases k3 : kd = 3
  · subst k3
    go_enter Tryd.func22, Tryd.ntmps22
    go_wp2_with fail
    · refine bodyPost_ret (v := .agg #[.int .i64 (dn), .int .i64 (ab), .int .i64 (bl + 1), .int .i64 (cp), .int .i64 (fl), .int .i64 (wo), .int .i64 (tm + (en - be)), .int .i64 (en - be)]) (by simp [results, Tryd.results22, go_sem]) rfl ?_
      refine ⟨?_, ?_⟩
      · have hm : max lg (en - be) = en - be := by omega
        simp [join, one, isI, hm]
      · repeat (first | exact Upd.refl _ _ | refine Upd.setCell ?_ (.inr (by simp <;> omega)) _ | refine Upd.alloc ?_ _)
    · refine bodyPost_ret (v := .agg #[.int .i64 (dn), .int .i64 (ab), .int .i64 (bl + 1), .int .i64 (cp), .int .i64 (fl), .int .i64 (wo), .int .i64 (tm + (en - be)), .int .i64 (lg)]) (by simp [results, Tryd.results22, go_sem]) rfl ?_
      refine ⟨?_, ?_⟩
      · have hm : max lg (en - be) = lg := by omega
        simp [join, one, isI, hm]
      · repeat (first | exact Upd.refl _ _ | refine Upd.setCell ?_ (.inr (by simp <;> omega)) _ | refine Upd.alloc ?_ _)
  by_cases k4 : kd = 4
  · subst k4
    go_enter Tryd.func22, Tryd.ntmps22
    go_wp2_with fail
    · refine bodyPost_ret (v := .agg #[.int .i64 (dn), .int .i64 (ab), .int .i64 (bl), .int .i64 (cp + 1), .int .i64 (fl), .int .i64 (wo), .int .i64 (tm + (en - be)), .int .i64 (en - be)]) (by simp [results, Tryd.results22, go_sem]) rfl ?_
      refine ⟨?_, ?_⟩
      · have hm : max lg (en - be) = en - be := by omega
        simp [join, one, isI, hm]
      · repeat (first | exact Upd.refl _ _ | refine Upd.setCell ?_ (.inr (by simp <;> omega)) _ | refine Upd.alloc ?_ _)
    · refine bodyPost_ret (v := .agg #[.int .i64 (dn), .int .i64 (ab), .int .i64 (bl), .int .i64 (cp + 1), .int .i64 (fl), .int .i64 (wo), .int .i64 (tm + (en - be)), .int .i64 (lg)]) (by simp [results, Tryd.results22, go_sem]) rfl ?_
      refine ⟨?_, ?_⟩
      · have hm : max lg (en - be) = lg := by omega
        simp [join, one, isI, hm]
      · repeat (first | exact Upd.refl _ _ | refine Upd.setCell ?_ (.inr (by simp <;> omega)) _ | refine Upd.alloc ?_ _)
  have d1 : (kd == (1 : Int)) = false := by simpa using k1
  have d2 : (kd == (2 : Int)) = false := by simpa using k2
  have d3 : (kd == (3 : Int)) = false := by simpa using k3
  have d4 : (kd == (4 : Int)) = false := by simpa using k4
  clear k1 k2 k3 k4
  go_enter Tryd.func22, Tryd.ntmps22
  go_wp2_with fail
  · refine bodyPost_ret (v := .agg #[.int .i64 (dn), .int .i64 (ab), .int .i64 (bl), .int .i64 (cp), .int .i64 (fl + 1), .int .i64 (wo), .int .i64 (tm + (en - be)), .int .i64 (en - be)]) (by simp [results, Tryd.results22, go_sem]) rfl ?_
    refine ⟨?_, ?_⟩
    · have hm : max lg (en - be) = en - be := by omega
      simp [join, one, isI, hm, d1, d2, d3, d4]
    · repeat (first | exact Upd.refl _ _ | refine Upd.setCell ?_ (.inr (by simp <;> omega)) _ | refine Upd.alloc ?_ _)
  · refine bodyPost_ret (v := .agg #[.int .i64 (dn), .int .i64 (ab), .int .i64 (bl), .int .i64 (cp), .int .i64 (fl + 1), .int .i64 (wo), .int .i64 (tm + (en - be)), .int .i64 (lg)]) (by simp [results, Tryd.results22, go_sem]) rfl ?_
    refine ⟨?_, ?_⟩
    · have hm : max lg (en - be) = lg := by omega
      simp [join, one, isI, hm, d1, d2, d3, d4]
    · repeat (first | exact Upd.refl _ _ | refine Upd.setCell ?_ (.inr (by simp <;> omega)) _ | refine Upd.alloc ?_ _)
end Go.Proofs.YtiahnlaplkeiaaaDoor

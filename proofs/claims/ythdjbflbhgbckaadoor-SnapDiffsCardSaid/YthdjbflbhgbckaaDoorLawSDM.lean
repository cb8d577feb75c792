/-
  What Of tells, in two cases. SnapDiffs, the walk.
-/
import Derived.Test.YthdjbflbhgbckaaDoorSnap
import Derived.Test.YthdjbflbhgbckaaDoorRApplyM
import Derived.Test.YthdjbflbhgbckaaDoorAlive27
import Derived.Test.YthdjbflbhgbckaaDoorErrV
set_option linter.unusedVariables false
namespace Go.Proofs.YthdjbflbhgbckaaDoor
open Go.RowKit Stab Snap
/-- What Of tells of a list that is good, or not. -/
theorem of_cases {l r : PL} {f a : Int} {w w' : World} {e : Ending} (h : OfPost l w e w') : Upd [] w w' ∧ ((∃ g k, e = .returned (.tuple #[.pointer none, .iface 58 (.pointer (some ⟨g, 0, none⟩))]) ∧ ErrV w' (.iface 58 (.pointer (some ⟨g, 0, none⟩))) 7 k ∧ OfR l [] 7 k) ∨
   (∃ sb r, e = .returned (.tuple #[.pointer (some ⟨sb, 0, none⟩), .nilIface]) ∧ SnapIs w.heap.size sb w' r ∧ OfR l r 0 0)) := by
  obtain ⟨hu, ⟨g, k, h1, h2, h3⟩ | h⟩ := h
  · exact ⟨hu, .inl ⟨g, k, h1, .fault h2 (by omega) (by omega), h3⟩⟩
  · exact ⟨hu, .inr h⟩
end Go.Proofs.YthdjbflbhgbckaaDoor

namespace Go.Proofs.YthdjbflbhgbckaaDoor
open Go.RowKit Stab Snap Mrg
attribute [local go_sem] litStep_value

/-- What Of tells, in one form: a snapshot, if there is no error. -/
theorem of_any {l : PL} {w w' : World} {e : Ending} (h : OfPost l w e w') : ∃ px ev no a, e = .returned (.tuple #[.pointer px, ev]) ∧ ErrV w' ev no a ∧ Upd [] w w' ∧ (no = 0 → ∃ sb r, px = some ⟨sb, 0, none⟩ ∧ SnapIs w.heap.size sb w' r ∧ OfR l r 0 0) := by
  obtain ⟨u, h | ⟨sb, r, rfl, hs, ho⟩⟩ := of_cases (r := []) (f := 0) (a := 0) h
  · obtain ⟨g, k, rfl, he, ho⟩ := h
    exact ⟨_, _, 7, k, rfl, he, u, fun e => by cases e⟩
  · exact ⟨_, _, 0, 0, rfl, .inl ⟨rfl, rfl, rfl⟩, u, fun _ => ⟨sb, r, rfl, hs, ho⟩⟩
theorem run_fail {r q : PL} {ts : List Tn} {k : Nat} {t : Tn} (h : runTn r (ts.take k) = some q) (ht : ts[k]? = some t) (hs : stepTn q t = none) : runTn r ts = none := by
  obtain ⟨h1, h2⟩ := List.getElem?_eq_some_iff.1 ht
  have e : ts = ts.take k ++ t :: ts.drop (k + 1) := by rw [← h2, ← List.drop_eq_getElem_cons h1, List.take_append_drop]
  rw [e, runTn_append, h]
  show (stepTn q t).bind _ = none
  rw [hs]
  rfl
theorem fail_lt {r q q' : PL} {ts : List Tn} {k k' : Nat} {t : Tn} (h : runTn r (ts.take k) = some q) (ht : ts[k]? = some t) (hs : stepTn q t = none) (h' : runTn r (ts.take k') = some q') : ¬ k < k' := fun hlt => by
  have e1 : (ts.take k').take k = ts.take k := by rw [List.take_take, Nat.min_eq_left (by omega)]
  have e2 : (ts.take k')[k]? = some t := by rw [List.getElem?_take, if_pos hlt, ht]
  have := run_fail (ts := ts.take k') (by rw [e1]; exact h) e2 hs
  rw [h'] at this
  cases this
theorem fail_one {r q q' : PL} {ts : List Tn} {k k' : Nat} {t t' : Tn} (h : runTn r (ts.take k) = some q) (ht : ts[k]? = some t) (hs : stepTn q t = none) (h' : runTn r (ts.take k') = some q') (ht' : ts[k']? = some t') (hs' : stepTn q' t' = none) : k = k' := by
  have := fail_lt h ht hs h'
  have := fail_lt h' ht' hs' h
  omega
set_option maxRecDepth 100000 in
set_option maxHeartbeats 8000000 in
theorem law_sdiffs (A : Option Addr) (n c : Nat) (l : PL) (A' : Option Addr) (n' c' : Nat) (l' : PL) (At : Option Addr) (m ct : Nat) (ts : List Tn) (w : World) (h : Rd encPr w (.slice A n c) l) (hn : l.length = n) (h' : Rd encPr w (.slice A' n' c') l') (hn' : l'.length = n') (ht : Rd encTn w (.slice At m ct) ts) (hm : ts.length = m) (hg : Typed w) :
    Calls Tryd.prog 4 #[.slice A n c, .slice A' n' c', .slice At m ct] w fun e w' => e = .returned (.bool true) ∧ Upd [] w w' := by
  have H := Lib.hid h
  have HN := Lib.hid hn
  have H' := Lib.hid h'
  have HN' := Lib.hid hn'
  have HT := Lib.hid ht
  have HM := Lib.hid hm
  have HG := Lib.hid hg
  clear h hn h' hn' ht hm hg
  go_enter Tryd.func4, Tryd.ntmps4
  have U0 : Hid (Upd [] w w) := Lib.hid (.refl _ _)
  by_cases h6 : 60 < n
  · have d6 : decide ((60 : Int) < (n : Int)) = true := by simp; omega
    go_wp2_with fail
    refine (alive27 w).mono ?_; rintro e w9 ⟨rfl, u9⟩
    have U9 := Lib.hid (U0.out.trans u9)
    clear u9
    go_wp2_with fail
    go_ret
    exact ⟨rfl, U9.out⟩
  have d6 : decide ((60 : Int) < (n : Int)) = false := by simp; omega
  by_cases h8 : 60 < n'
  · have d8 : decide ((60 : Int) < (n' : Int)) = true := by simp; omega
    go_wp2_with fail
    refine (alive27 w).mono ?_; rintro e w9 ⟨rfl, u9⟩
    have U9 := Lib.hid (U0.out.trans u9)
    clear u9
    go_wp2_with fail
    go_ret
    exact ⟨rfl, U9.out⟩
  have d8 : decide ((60 : Int) < (n' : Int)) = false := by simp; omega
  by_cases h9 : 60 < m
  · have d9 : decide ((60 : Int) < (m : Int)) = true := by simp; omega
    go_wp2_with fail
    refine (alive27 w).mono ?_; rintro e w9 ⟨rfl, u9⟩
    have U9 := Lib.hid (U0.out.trans u9)
    clear u9
    go_wp2_with fail
    go_ret
    exact ⟨rfl, U9.out⟩
  have d9 : decide ((60 : Int) < (m : Int)) = false := by simp; omega
  clear U0
  go_wp2_with fail
  refine (s_of A n c l w H.out HN.out (by omega)).mono ?_
  intro e w1 h1
  obtain ⟨pa, va, na, ta, rfl, ea, u1, ga⟩ := of_any h1
  have U1 := Lib.hid u1
  have EA := Lib.hid ea
  have GA := Lib.hid ga
  clear h1 ea u1 ga
  go_wp2_with fail
  refine (s_of A' n' c' l' w1 (H'.out.upd0 U1.out) HN'.out (by omega)).mono ?_
  intro e w2 h1
  obtain ⟨pb, vb, nb, tb, rfl, eb, u2, gb⟩ := of_any h1
  have U2 := Lib.hid (U1.out.trans u2)
  have EA2 := Lib.hid (EA.out.upd u2)
  have EB2 := Lib.hid eb
  have GA2 : Hid (na = 0 → ∃ sb r, pa = some ⟨sb, 0, none⟩ ∧ SnapIs w.heap.size sb w2 r ∧ OfR l r 0 0) := Lib.hid (fun e => by obtain ⟨sb, r, h1, h2, h3⟩ := GA.out e; exact ⟨sb, r, h1, h2.upd0 u2, h3⟩)
  have GB2 : Hid (nb = 0 → ∃ sb r, pb = some ⟨sb, 0, none⟩ ∧ SnapIs w.heap.size sb w2 r ∧ OfR l' r 0 0) := Lib.hid (fun e => by obtain ⟨sb, r, h1, h2, h3⟩ := gb e; exact ⟨sb, r, h1, h2.base U1.out.size, h3⟩)
  clear h1 eb u2 gb GA U1 EA
  go_wp2_with fail
  refine (r_of A n c l w2 (H.out.upd0 U2.out) HN.out (by omega)).mono ?_
  rintro e w3 ⟨vx, x, fx, ax, rfl, hx, _, ox, u3⟩
  obtain ⟨Ax, cx, rfl, _, _⟩ := own_slice ox
  have HX := Lib.hid hx
  have OX := Lib.hid ox
  have U3 := Lib.hid (U2.out.trans u3)
  have U23 := Lib.hid u3
  clear hx ox u3 U2
  go_wp2_with fail
  refine (r_of A' n' c' l' w3 (H'.out.upd0 U3.out) HN'.out (by omega)).mono ?_
  rintro e w4 ⟨vy, y, fy, ay, rfl, hy, _, oy, u4⟩
  obtain ⟨Ay, cy, rfl, _, _⟩ := own_slice oy
  have HY := Lib.hid hy
  have OY := Lib.hid oy
  have OX4 := Lib.hid (OX.out.upd0 u4)
  have U4 := Lib.hid (U3.out.trans u4)
  have U24 := Lib.hid (U23.out.trans u4)
  have BX : Hid (w2.heap.size ≤ w4.heap.size) := Lib.hid U24.out.size
  clear hy oy u4 U3 U23 OX
  go_wp2_with fail
  refine (no_err (EA2.out.upd U24.out)).mono ?_; rintro e w' ⟨rfl, rfl⟩
  by_cases ha0 : na = 0
  case neg =>
    have dn : (na == 0) = false := by simpa using ha0
    go_wp2_with fail
    refine (alive27 w4).mono ?_; rintro e w9 ⟨rfl, u9⟩
    have U9 := Lib.hid (U4.out.trans u9)
    clear u9
    go_wp2_with fail
    go_ret
    exact ⟨rfl, U9.out⟩
  subst ha0
  go_wp2_with fail
  refine (no_err (EB2.out.upd U24.out)).mono ?_; rintro e w' ⟨rfl, rfl⟩
  by_cases hb0 : nb = 0
  case neg =>
    have dn : (nb == 0) = false := by simpa using hb0
    go_wp2_with fail
    refine (alive27 w4).mono ?_; rintro e w9 ⟨rfl, u9⟩
    have U9 := Lib.hid (U4.out.trans u9)
    clear u9
    go_wp2_with fail
    go_ret
    exact ⟨rfl, U9.out⟩
  subst hb0
  obtain ⟨sa, x', rfl, sx, hx'⟩ := GA2.out (by trivial)
  obtain ⟨sb, y', rfl, sy, hy'⟩ := GB2.out (by trivial)
  obtain ⟨rfl, rfl, rfl⟩ := of_both HX.out hx'
  obtain ⟨rfl, rfl, rfl⟩ := of_both HY.out hy'
  have SX := Lib.hid (sx.upd0 U24.out)
  have SY := Lib.hid (sy.upd0 U24.out)
  have LX : Hid (x.length = n) := Lib.hid (by
    rcases hx' with ⟨_, _, _, h1, h2⟩ | ⟨_, h, _⟩
    · exact h2.length_eq.trans HN.out
    · simp at h)
  have LY : Hid (y.length = n') := Lib.hid (by
    rcases hy' with ⟨_, _, _, h1, h2⟩ | ⟨_, h, _⟩
    · exact h2.length_eq.trans HN'.out
    · simp at h)
  have OXX : Hid (Ow encPr 39 w4 w2.heap.size (.slice Ax n cx) x) := Lib.hid (by have := OX4.out; rw [LX.out] at this; exact this)
  have OYY : Hid (Ow encPr 39 w4 w3.heap.size (.slice Ay n' cy) y) := Lib.hid (by have := OY.out; rw [LY.out] at this; exact this)
  rw [LX.out, LY.out]
  clear sx sy hx' hy' GA2 GB2 EA2 EB2 HX HY OX4 OY U24
  go_wp2_with fail
  refine (s_apply _ sa x At m ct ts w4 SX.out (HT.out.upd0 U4.out) HM.out (by rw [LX.out]; omega) (by omega)).mono ?_
  intro e w5 h5
  have U5 := Lib.hid (U4.out.trans h5.1)
  have SX5 := Lib.hid (SX.out.upd0 h5.1)
  have SY5 := Lib.hid (SY.out.upd0 h5.1)
  have OX5 := Lib.hid (OXX.out.upd0 h5.1)
  have OY5 := Lib.hid (OYY.out.upd0 h5.1)
  have BX5 : Hid (w2.heap.size ≤ w5.heap.size) := Lib.hid (Nat.le_trans BX.out h5.1.size)
  clear SX SY OXX OYY U4 BX
  obtain ⟨u5, h5 | h5⟩ := h5
  · obtain ⟨su, ru, rfl, su5, hru⟩ := h5
    have SU5 := Lib.hid su5
    have HRU := Lib.hid hru
    clear su5 u5 hru
    go_wp2_with fail
    refine (r_apply w2.heap.size Ax n cx x At m ct ts w5 OX5.out LX.out (HT.out.upd0 U5.out) HM.out (by omega) (by omega) SX5.out.srt BX5.out).mono ?_
    rintro e w6 ⟨u6, vz, z, fz, az, rfl, oz, hz⟩
    obtain ⟨rfl, rfl, hz1, hz2⟩ : fz = 0 ∧ az = 0 ∧ ru = z ∧ z.length ≤ x.length + ts.length := by
      rcases hz with ⟨h1, h2, h3, h4⟩ | ⟨_, _, k, q, t, _, h1, h2, h3⟩
      · rw [HRU.out] at h3
        injection h3 with h3
        exact ⟨h1, h2, h3, h4⟩
      · have := run_fail h1 h2 h3
        rw [HRU.out] at this
        cases this
    subst hz1
    obtain ⟨nz, hnz⟩ : ∃ nz, ru.length = nz := ⟨_, rfl⟩
    have HNZ := Lib.hid hnz
    have hnz1 : nz ≤ 200 := by have := LX.out; have := HM.out; omega
    obtain ⟨Az, cz, rfl, _, _⟩ := own_slice oz
    rw [hnz] at oz ⊢
    have OZ := Lib.hid oz
    have U6 := Lib.hid (U5.out.trans u6)
    have SX6 := Lib.hid (SX5.out.upd0 u6)
    have SY6 := Lib.hid (SY5.out.upd0 u6)
    have SU6 := Lib.hid (SU5.out.upd0 u6)
    have OX6 := Lib.hid (OX5.out.upd0 u6)
    have OY6 := Lib.hid (OY5.out.upd0 u6)
    clear hz hz2 hnz oz u6 U5 SX5 SY5 SU5 OX5 OY5
    go_wp2_with fail
    refine (no_nil _).mono ?_; rintro e w' ⟨rfl, rfl⟩
    go_wp2_with fail
    refine (place_nil w6).mono ?_; rintro e p1 ⟨rfl, q1⟩
    have OZ1 := Lib.hid (OZ.out.upd0 q1)
    have SU61 := Lib.hid (SU6.out.upd0 q1)
    have Q1 := Lib.hid q1
    clear q1 OZ SU6
    go_wp2_with fail
    refine (s_all _ su ru p1 SU61.out).mono ?_
    rintro e p2 ⟨vu, rfl, ou, q2⟩
    obtain ⟨Au, cu, rfl, _, _⟩ := own_slice ou
    rw [HNZ.out] at ou ⊢
    have OU := Lib.hid ou
    have OZ2 := Lib.hid (OZ1.out.upd0 q2)
    have Q2 := Lib.hid (Q1.out.trans q2)
    clear ou q2 OZ1 SU61 Q1
    go_wp2_with fail
    refine (pairs_rd Au Az nz cu nz cz ru ru p2 OU.out.rd OZ2.out.rd HNZ.out HNZ.out (by omega) (by omega)).mono ?_
    rintro e p3 ⟨rfl, q3⟩
    rw [decide_eq_true rfl]
    have Q3 := Lib.hid (Q2.out.trans q3)
    have U7 := Lib.hid (U6.out.trans Q3.out)
    have SX7 := Lib.hid (SX6.out.upd0 Q3.out)
    have SY7 := Lib.hid (SY6.out.upd0 Q3.out)
    have OX7 := Lib.hid (OX6.out.upd0 Q3.out)
    have OY7 := Lib.hid (OY6.out.upd0 Q3.out)
    clear q3 Q2 Q3 U6 SX6 SY6 OX6 OY6 OU OZ2
    -- what is other, the way back, and all
    go_wp2_with fail
    refine (s_diff (spV (some sa)) (spV (some sb)) x y p3 (.of SX7.out) (.of SY7.out)).mono ?_
    rintro e r1 ⟨vd, rfl, od, q1⟩
    obtain ⟨d, hd⟩ : ∃ d, (diffL x y).length = d := ⟨_, rfl⟩
    have HD := Lib.hid hd
    have hd1 : d ≤ 120 := by have := diff_len x y; rw [hd, LX.out, LY.out] at this; omega
    obtain ⟨Ad, cd, rfl, _, _⟩ := own_slice od
    rw [hd] at od ⊢
    have OD := Lib.hid od
    have SXa := Lib.hid (SX7.out.upd0 q1)
    have OXa := Lib.hid (OX7.out.upd0 q1)
    have OYa := Lib.hid (OY7.out.upd0 q1)
    have Ua := Lib.hid (U7.out.trans q1)
    have SRT : Hid (Assoc.Srt x ∧ Assoc.Srt y) := Lib.hid ⟨SX7.out.srt, SY7.out.srt⟩
    clear od q1 SX7 SY7 OX7 OY7 U7 hd
    go_wp2_with fail
    refine (r_diff Ax n cx x Ay n' cy y r1 OXa.out.rd LX.out OYa.out.rd LY.out (by omega) (by omega) SRT.out.1 SRT.out.2).mono ?_
    rintro e r2 ⟨ve, rfl, oe, q2⟩
    obtain ⟨Ae, ce, rfl, _, _⟩ := own_slice oe
    rw [HD.out] at oe ⊢
    have OE := Lib.hid oe
    have ODb := Lib.hid (OD.out.upd0 q2)
    have SXb := Lib.hid (SXa.out.upd0 q2)
    have OXb := Lib.hid (OXa.out.upd0 q2)
    have Ub := Lib.hid (Ua.out.trans q2)
    clear oe q2 SXa OXa OYa Ua OD
    go_wp2_with fail
    refine (turns_rd Ad Ae d cd d ce _ _ r2 ODb.out.rd OE.out.rd HD.out HD.out (by omega) (by omega)).mono ?_
    rintro e r3 ⟨rfl, q3⟩
    rw [decide_eq_true rfl]
    have SXc := Lib.hid (SXb.out.upd0 q3)
    have OXc := Lib.hid (OXb.out.upd0 q3)
    have Uc := Lib.hid (Ub.out.trans q3)
    clear q3 SXb OXb Ub ODb OE
    have HAt : Hid (∀ a, At = some a → ts ≠ [] → a.block < r3.heap.size) := Lib.hid (fun a ha hne => by
      cases hts : ts with
      | nil => exact absurd hts hne
      | cons t0 tl =>
        obtain ⟨ad, e, hlt, _⟩ := (HT.out.upd0 Uc.out).at_ (k := 0) (a := t0) (by rw [hts]; rfl)
        rw [ha] at e
        injection e with e
        subst e
        exact hlt)
    go_wp2_with fail
    refine (invert_ok At m ct ts r3 HM.out (by omega) (HT.out.upd0 Uc.out) HAt.out).mono ?_
    rintro e r4 ⟨vi, rfl, oi, q4⟩
    have LI : Hid ((invL ts).length = m) := Lib.hid (by unfold invL; rw [List.length_reverse, List.length_map, HM.out])
    obtain ⟨Ai, ci, rfl, _, _⟩ := own_slice oi
    rw [LI.out] at oi ⊢
    have OI := Lib.hid oi
    have SXd := Lib.hid (SXc.out.upd0 q4)
    have OXd := Lib.hid (OXc.out.upd0 q4)
    have Ud := Lib.hid (Uc.out.trans q4)
    clear oi q4 SXc OXc Uc HAt
    go_wp2_with fail
    refine (r_invert At m ct ts r4 (HT.out.upd0 Ud.out) HM.out (by omega)).mono ?_
    rintro e r5 ⟨vj, rfl, oj, q5⟩
    obtain ⟨Aj, cj, rfl, _, _⟩ := own_slice oj
    rw [LI.out] at oj ⊢
    have OJ := Lib.hid oj
    have OIe := Lib.hid (OI.out.upd0 q5)
    have SXe := Lib.hid (SXd.out.upd0 q5)
    have OXe := Lib.hid (OXd.out.upd0 q5)
    have Ue := Lib.hid (Ud.out.trans q5)
    clear oj q5 SXd OXd Ud OI
    go_wp2_with fail
    refine (turns_rd Ai Aj m ci m cj _ _ r5 OIe.out.rd OJ.out.rd LI.out LI.out (by omega) (by omega)).mono ?_
    rintro e r6 ⟨rfl, q6⟩
    rw [decide_eq_true rfl]
    have SXf := Lib.hid (SXe.out.upd0 q6)
    have OXf := Lib.hid (OXe.out.upd0 q6)
    have Uf := Lib.hid (Ue.out.trans q6)
    clear q6 SXe OXe Ue OIe OJ
    go_wp2_with fail
    refine (s_all _ sa x r6 SXf.out).mono ?_
    rintro e r7 ⟨vk, rfl, ok, q7⟩
    obtain ⟨Ak, ck, rfl, _, _⟩ := own_slice ok
    rw [LX.out] at ok ⊢
    have OK := Lib.hid ok
    have OXg := Lib.hid (OXf.out.upd0 q7)
    have Ug := Lib.hid (Uf.out.trans q7)
    clear ok q7 SXf OXf Uf
    go_wp2_with fail
    refine (pairs_rd Ak Ax n ck n cx x x r7 OK.out.rd OXg.out.rd LX.out LX.out (by omega) (by omega)).mono ?_
    rintro e r8 ⟨rfl, q8⟩
    rw [decide_eq_true rfl]
    have Uh := Lib.hid (Ug.out.trans q8)
    clear q8 OXg OK Ug
    go_wp2_with fail
    refine (alive27 r8).mono ?_; rintro e w9 ⟨rfl, u9⟩
    have U9 := Lib.hid (Uh.out.trans u9)
    clear u9
    go_wp2_with fail
    go_ret
    exact ⟨rfl, U9.out⟩
  · obtain ⟨gf, k, rfl, bf, q, t, f1, f2, f3⟩ := h5
    have E5 : Hid (ErrV w5 (.iface 58 (.pointer (some ⟨gf, 0, none⟩))) 12 ((k + 1 : Nat) : Int)) := Lib.hid (.fault bf (by omega) (by omega))
    have F := Lib.hid (And.intro f1 (And.intro f2 f3))
    clear u5 bf f1 f2 f3
    go_wp2_with fail
    refine (r_apply w2.heap.size Ax n cx x At m ct ts w5 OX5.out LX.out (HT.out.upd0 U5.out) HM.out (by omega) (by omega) SX5.out.srt BX5.out).mono ?_
    rintro e w6 ⟨u6, vz, z, fz, az, rfl, oz, hz⟩
    obtain ⟨rfl, rfl⟩ : fz = 12 ∧ az = ((k + 1 : Nat) : Int) := by
      rcases hz with ⟨_, _, h3, _⟩ | ⟨h0, _, k', q', t', h1, h2, h3, h4⟩
      · have := run_fail F.out.1 F.out.2.1 F.out.2.2
        rw [h3] at this
        cases this
      · obtain rfl := fail_one F.out.1 F.out.2.1 F.out.2.2 h2 h3 h4
        exact ⟨h0, h1⟩
    obtain ⟨Az, cz, rfl, _, _⟩ := own_slice oz
    have U6 := Lib.hid (U5.out.trans u6)
    have E6 := Lib.hid (E5.out.upd u6)
    have SX6 := Lib.hid (SX5.out.upd0 u6)
    have SY6 := Lib.hid (SY5.out.upd0 u6)
    have OX6 := Lib.hid (OX5.out.upd0 u6)
    have OY6 := Lib.hid (OY5.out.upd0 u6)
    obtain ⟨k1, hk1⟩ : ∃ k1 : Int, ((k + 1 : Nat) : Int) = k1 := ⟨_, rfl⟩
    rw [hk1] at E6 ⊢
    clear hz oz u6 U5 SX5 SY5 OX5 OY5 E5 hk1
    go_wp2_with fail
    refine (no_err E6.out).mono ?_; rintro e w' ⟨rfl, rfl⟩
    go_wp2_with fail
    refine (place_err E6.out (HG.out.upd U6.out (by simp))).mono ?_; rintro e p1 ⟨rfl, q1⟩
    have U7 := Lib.hid (U6.out.trans q1)
    have SX7 := Lib.hid (SX6.out.upd0 q1)
    have SY7 := Lib.hid (SY6.out.upd0 q1)
    have OX7 := Lib.hid (OX6.out.upd0 q1)
    have OY7 := Lib.hid (OY6.out.upd0 q1)
    clear q1 U6 SX6 SY6 OX6 OY6 E6
    -- what is other, the way back, and all
    go_wp2_with fail
    refine (s_diff (spV (some sa)) (spV (some sb)) x y p1 (.of SX7.out) (.of SY7.out)).mono ?_
    rintro e r1 ⟨vd, rfl, od, q1⟩
    obtain ⟨d, hd⟩ : ∃ d, (diffL x y).length = d := ⟨_, rfl⟩
    have HD := Lib.hid hd
    have hd1 : d ≤ 120 := by have := diff_len x y; rw [hd, LX.out, LY.out] at this; omega
    obtain ⟨Ad, cd, rfl, _, _⟩ := own_slice od
    rw [hd] at od ⊢
    have OD := Lib.hid od
    have SXa := Lib.hid (SX7.out.upd0 q1)
    have OXa := Lib.hid (OX7.out.upd0 q1)
    have OYa := Lib.hid (OY7.out.upd0 q1)
    have Ua := Lib.hid (U7.out.trans q1)
    have SRT : Hid (Assoc.Srt x ∧ Assoc.Srt y) := Lib.hid ⟨SX7.out.srt, SY7.out.srt⟩
    clear od q1 SX7 SY7 OX7 OY7 U7 hd
    go_wp2_with fail
    refine (r_diff Ax n cx x Ay n' cy y r1 OXa.out.rd LX.out OYa.out.rd LY.out (by omega) (by omega) SRT.out.1 SRT.out.2).mono ?_
    rintro e r2 ⟨ve, rfl, oe, q2⟩
    obtain ⟨Ae, ce, rfl, _, _⟩ := own_slice oe
    rw [HD.out] at oe ⊢
    have OE := Lib.hid oe
    have ODb := Lib.hid (OD.out.upd0 q2)
    have SXb := Lib.hid (SXa.out.upd0 q2)
    have OXb := Lib.hid (OXa.out.upd0 q2)
    have Ub := Lib.hid (Ua.out.trans q2)
    clear oe q2 SXa OXa OYa Ua OD
    go_wp2_with fail
    refine (turns_rd Ad Ae d cd d ce _ _ r2 ODb.out.rd OE.out.rd HD.out HD.out (by omega) (by omega)).mono ?_
    rintro e r3 ⟨rfl, q3⟩
    rw [decide_eq_true rfl]
    have SXc := Lib.hid (SXb.out.upd0 q3)
    have OXc := Lib.hid (OXb.out.upd0 q3)
    have Uc := Lib.hid (Ub.out.trans q3)
    clear q3 SXb OXb Ub ODb OE
    have HAt : Hid (∀ a, At = some a → ts ≠ [] → a.block < r3.heap.size) := Lib.hid (fun a ha hne => by
      cases hts : ts with
      | nil => exact absurd hts hne
      | cons t0 tl =>
        obtain ⟨ad, e, hlt, _⟩ := (HT.out.upd0 Uc.out).at_ (k := 0) (a := t0) (by rw [hts]; rfl)
        rw [ha] at e
        injection e with e
        subst e
        exact hlt)
    go_wp2_with fail
    refine (invert_ok At m ct ts r3 HM.out (by omega) (HT.out.upd0 Uc.out) HAt.out).mono ?_
    rintro e r4 ⟨vi, rfl, oi, q4⟩
    have LI : Hid ((invL ts).length = m) := Lib.hid (by unfold invL; rw [List.length_reverse, List.length_map, HM.out])
    obtain ⟨Ai, ci, rfl, _, _⟩ := own_slice oi
    rw [LI.out] at oi ⊢
    have OI := Lib.hid oi
    have SXd := Lib.hid (SXc.out.upd0 q4)
    have OXd := Lib.hid (OXc.out.upd0 q4)
    have Ud := Lib.hid (Uc.out.trans q4)
    clear oi q4 SXc OXc Uc HAt
    go_wp2_with fail
    refine (r_invert At m ct ts r4 (HT.out.upd0 Ud.out) HM.out (by omega)).mono ?_
    rintro e r5 ⟨vj, rfl, oj, q5⟩
    obtain ⟨Aj, cj, rfl, _, _⟩ := own_slice oj
    rw [LI.out] at oj ⊢
    have OJ := Lib.hid oj
    have OIe := Lib.hid (OI.out.upd0 q5)
    have SXe := Lib.hid (SXd.out.upd0 q5)
    have OXe := Lib.hid (OXd.out.upd0 q5)
    have Ue := Lib.hid (Ud.out.trans q5)
    clear oj q5 SXd OXd Ud OI
    go_wp2_with fail
    refine (turns_rd Ai Aj m ci m cj _ _ r5 OIe.out.rd OJ.out.rd LI.out LI.out (by omega) (by omega)).mono ?_
    rintro e r6 ⟨rfl, q6⟩
    rw [decide_eq_true rfl]
    have SXf := Lib.hid (SXe.out.upd0 q6)
    have OXf := Lib.hid (OXe.out.upd0 q6)
    have Uf := Lib.hid (Ue.out.trans q6)
    clear q6 SXe OXe Ue OIe OJ
    go_wp2_with fail
    refine (s_all _ sa x r6 SXf.out).mono ?_
    rintro e r7 ⟨vk, rfl, ok, q7⟩
    obtain ⟨Ak, ck, rfl, _, _⟩ := own_slice ok
    rw [LX.out] at ok ⊢
    have OK := Lib.hid ok
    have OXg := Lib.hid (OXf.out.upd0 q7)
    have Ug := Lib.hid (Uf.out.trans q7)
    clear ok q7 SXf OXf Uf
    go_wp2_with fail
    refine (pairs_rd Ak Ax n ck n cx x x r7 OK.out.rd OXg.out.rd LX.out LX.out (by omega) (by omega)).mono ?_
    rintro e r8 ⟨rfl, q8⟩
    rw [decide_eq_true rfl]
    have Uh := Lib.hid (Ug.out.trans q8)
    clear q8 OXg OK Ug
    go_wp2_with fail
    refine (alive27 r8).mono ?_; rintro e w9 ⟨rfl, u9⟩
    have U9 := Lib.hid (Uh.out.trans u9)
    clear u9
    go_wp2_with fail
    go_ret
    exact ⟨rfl, U9.out⟩
end Go.Proofs.YthdjbflbhgbckaaDoor

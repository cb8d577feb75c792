/-
  SnapBack, the walk.
-/
import Derived.Test.YthdjbflbhgbckaaLawSMs
import Derived.Test.YthdjbflbhgbckaaApply
import Derived.Test.YthdjbflbhgbckaaInvert
set_option linter.unusedVariables false
namespace Go.Proofs.Ythdjbflbhgbckaa
open Go.RowKit Stab Snap Mrg
attribute [local go_sem] litStep_value

/-- What Of tells, in one form: a snapshot, if there is no error. -/
theorem of_any {l : PL} {w w' : World} {e : Ending} (h : OfPost l w e w') : ∃ px ev no a, e = .returned (.tuple #[.pointer px, ev]) ∧ ErrV w' ev no a ∧ Upd [] w w' ∧ (no = 0 → ∃ sb r, px = some ⟨sb, 0, none⟩ ∧ SnapIs w.heap.size sb w' r ∧ OfR l r 0 0) := by
  obtain ⟨u, h | ⟨sb, r, rfl, hs, ho⟩⟩ := of_cases (r := []) (f := 0) (a := 0) h
  · obtain ⟨g, k, rfl, he, ho⟩ := h
    exact ⟨_, _, 7, k, rfl, he, u, fun e => by cases e⟩
  · exact ⟨_, _, 0, 0, rfl, .inl ⟨rfl, rfl, rfl⟩, u, fun _ => ⟨sb, r, rfl, hs, ho⟩⟩
theorem run_fail {r q : PL} {ts : List Tn} {k : Nat} {t : Tn} (h : runTn r (ts.take k) = some q) (ht : ts[k]? = some t) (hs : stepTn q t = none) : runTn r ts = none := by
  obtain ⟨h1, h2⟩ := List.getElem?_eq_some_iff.1 ht
  have e : ts = ts.take k ++ t :: ts.drop (k + 1) := by rw [← h2, ← List.drop_eq_getElem_cons h1, List.take_append_drop]
  rw [e, runTn_append, h]
  show (stepTn q t).bind _ = none
  rw [hs]
  rfl
theorem inv_back (ts : List Tn) : invL ts = (ts.map backT).reverse := rfl
theorem apply_some {r r' : PL} {ts : List Tn} {w w' : World} {e : Ending} (h : ApplyPost r ts w e w') (hr : runTn r ts = some r') : Upd [] w w' ∧ ∃ sb, e = .returned (.tuple #[.pointer (some ⟨sb, 0, none⟩), .nilIface]) ∧ SnapIs w.heap.size sb w' r' := by
  obtain ⟨hu, ⟨sb, q, h1, h2, h3⟩ | ⟨g, k, _, _, q, t, h1, h2, h3⟩⟩ := h
  · rw [hr] at h3
    injection h3 with h3
    subst h3
    exact ⟨hu, sb, h1, h2⟩
  · rw [run_fail h1 h2 h3] at hr
    cases hr
set_option maxRecDepth 100000 in
set_option maxHeartbeats 8000000 in
theorem law_sback (A : Option Addr) (n c : Nat) (l : PL) (A' : Option Addr) (n' c' : Nat) (l' : PL) (w : World) (h : Rd encPr w (.slice A n c) l) (hn : l.length = n) (h' : Rd encPr w (.slice A' n' c') l') (hn' : l'.length = n') :
    Calls Try.prog 7 #[.slice A n c, .slice A' n' c'] w fun e w' => e = .returned (.bool true) ∧ Upd [] w w' := by
  have H := Lib.hid h
  have HN := Lib.hid hn
  have H' := Lib.hid h'
  have HN' := Lib.hid hn'
  clear h hn h' hn'
  go_enter Try.func7, Try.ntmps7
  by_cases h6 : 60 < n
  · have d6 : decide ((60 : Int) < (n : Int)) = true := by simp; omega
    have U0 : Hid (Upd [] w w) := Lib.hid (.refl _ _)
    go_wp2_with fail
    refine (alive27 w).mono ?_; rintro e w9 ⟨rfl, u9⟩
    have U9 := Lib.hid (U0.out.trans u9)
    clear u9
    go_wp2_with fail
    go_ret
    exact ⟨rfl, U9.out⟩
  have d6 : decide ((60 : Int) < (n : Int)) = false := by simp; omega
  by_cases h8 : 60 < n'
  · have d8 : decide ((60 : Int) < (n' : Int)) = true := by simp; omega
    have U0 : Hid (Upd [] w w) := Lib.hid (.refl _ _)
    go_wp2_with fail
    refine (alive27 w).mono ?_; rintro e w9 ⟨rfl, u9⟩
    have U9 := Lib.hid (U0.out.trans u9)
    clear u9
    go_wp2_with fail
    go_ret
    exact ⟨rfl, U9.out⟩
  have d8 : decide ((60 : Int) < (n' : Int)) = false := by simp; omega
  go_wp2_with fail
  refine (s_of A n c l w H.out HN.out (by omega)).mono ?_
  intro e w1 h1
  obtain ⟨pa, va, na, ta, rfl, ea, u1, ga⟩ := of_any h1
  have U1 := Lib.hid u1
  have EA := Lib.hid ea
  have GA := Lib.hid ga
  clear h1 ea u1 ga
  go_wp2_with fail
  refine (s_of A' n' c' l' w1 (H'.out.upd0 U1.out) HN'.out (by omega)).mono ?_
  intro e w2 h1
  obtain ⟨pb, vb, nb, tb, rfl, eb, u2, gb⟩ := of_any h1
  have U2 := Lib.hid (U1.out.trans u2)
  have EA2 := Lib.hid (EA.out.upd u2)
  have EB2 := Lib.hid eb
  have GA2 : Hid (na = 0 → ∃ sb r, pa = some ⟨sb, 0, none⟩ ∧ SnapIs w.heap.size sb w2 r ∧ OfR l r 0 0) := Lib.hid (fun e => by obtain ⟨sb, r, h1, h2, h3⟩ := GA.out e; exact ⟨sb, r, h1, h2.upd0 u2, h3⟩)
  have GB2 : Hid (nb = 0 → ∃ sb r, pb = some ⟨sb, 0, none⟩ ∧ SnapIs w.heap.size sb w2 r ∧ OfR l' r 0 0) := Lib.hid (fun e => by obtain ⟨sb, r, h1, h2, h3⟩ := gb e; exact ⟨sb, r, h1, h2.base U1.out.size, h3⟩)
  clear h1 eb u2 gb GA U1 EA
  go_wp2_with fail
  refine (no_err EA2.out).mono ?_; rintro e w' ⟨rfl, rfl⟩
  by_cases ha0 : na = 0
  case neg =>
    have dn : (na == 0) = false := by simpa using ha0
    go_wp2_with fail
    refine (alive27 w2).mono ?_; rintro e w9 ⟨rfl, u9⟩
    have U9 := Lib.hid (U2.out.trans u9)
    clear u9
    go_wp2_with fail
    go_ret
    exact ⟨rfl, U9.out⟩
  subst ha0
  go_wp2_with fail
  refine (no_err EB2.out).mono ?_; rintro e w' ⟨rfl, rfl⟩
  by_cases hb0 : nb = 0
  case neg =>
    have dn : (nb == 0) = false := by simpa using hb0
    go_wp2_with fail
    refine (alive27 w2).mono ?_; rintro e w9 ⟨rfl, u9⟩
    have U9 := Lib.hid (U2.out.trans u9)
    clear u9
    go_wp2_with fail
    go_ret
    exact ⟨rfl, U9.out⟩
  subst hb0
  obtain ⟨sa, x, rfl, sx, hx'⟩ := GA2.out (by trivial)
  obtain ⟨sb, y, rfl, sy, hy'⟩ := GB2.out (by trivial)
  have SX := Lib.hid sx
  have SY := Lib.hid sy
  have LX : Hid (x.length = n) := Lib.hid (by
    rcases hx' with ⟨_, _, _, h1, h2⟩ | ⟨_, h, _⟩
    · exact h2.length_eq.trans HN.out
    · simp at h)
  have LY : Hid (y.length = n') := Lib.hid (by
    rcases hy' with ⟨_, _, _, h1, h2⟩ | ⟨_, h, _⟩
    · exact h2.length_eq.trans HN'.out
    · simp at h)
  clear sx sy hx' hy' GA2 GB2 EA2 EB2
  go_wp2_with fail
  refine (s_diff (spV (some sa)) (spV (some sb)) x y w2 (.of SX.out) (.of SY.out)).mono ?_
  rintro e w3 ⟨vd, rfl, od, u3⟩
  obtain ⟨m, hm⟩ : ∃ m, (diffL x y).length = m := ⟨_, rfl⟩
  have HM := Lib.hid hm
  have hm1 : m ≤ 120 := by have := diff_len x y; rw [hm, LX.out, LY.out] at this; omega
  obtain ⟨Ad, cd, rfl, _, _⟩ := own_slice od
  rw [hm] at od ⊢
  have OD := Lib.hid od
  have HAd : Hid (∀ a, Ad = some a → a.block < w3.heap.size) := Lib.hid (fun a ha => by
    rcases od.2 with ⟨e, _⟩ | ⟨g, cap, cur, e, _, hb, _⟩
    · injection e with e; rw [ha] at e; cases e
    · injection e with e; rw [ha] at e; injection e with e; subst e; exact Blk.lt hb)
  have SX3 := Lib.hid (SX.out.upd0 u3)
  have SY3 := Lib.hid (SY.out.upd0 u3)
  have U3 := Lib.hid (U2.out.trans u3)
  clear od u3 hm SX SY U2
  go_wp2_with fail
  refine (s_apply _ sa x Ad m cd (diffL x y) w3 SX3.out OD.out.rd HM.out (by rw [LX.out]; omega) (by omega)).mono ?_
  intro e w4 h4
  obtain ⟨u4, su, rfl, s4⟩ := apply_some h4 (run_diff [] x y SX3.out.srt SY3.out.srt)
  have SU4 : Hid (SnapIs w3.heap.size su w4 y) := Lib.hid s4
  have SX4 := Lib.hid (SX3.out.upd0 u4)
  have SY4 := Lib.hid (SY3.out.upd0 u4)
  have OD4 := Lib.hid (OD.out.upd0 u4)
  have HAd4 : Hid (∀ a, Ad = some a → a.block < w4.heap.size) := Lib.hid (fun a ha => Nat.lt_of_lt_of_le (HAd.out a ha) u4.size)
  have U4 := Lib.hid (U3.out.trans u4)
  clear h4 s4 u4 SX3 SY3 OD HAd U3
  go_wp2_with fail
  refine (invert_ok Ad m cd (diffL x y) w4 HM.out (by omega) OD4.out.rd HAd4.out).mono ?_
  rintro e w5 ⟨vi, rfl, oi, u5⟩
  have LI : Hid ((invL (diffL x y)).length = m) := Lib.hid (by unfold invL; rw [List.length_reverse, List.length_map, HM.out])
  obtain ⟨Ai, ci, rfl, _, _⟩ := own_slice oi
  rw [LI.out] at oi ⊢
  have OI5 := Lib.hid oi
  have SX5 := Lib.hid (SX4.out.upd0 u5)
  have SY5 := Lib.hid (SY4.out.upd0 u5)
  have SU5 := Lib.hid (SU4.out.upd0 u5)
  have U5 := Lib.hid (U4.out.trans u5)
  clear oi u5 SX4 SY4 SU4 U4 OD4 HAd4
  go_wp2_with fail
  refine (s_apply _ sb y Ai m ci (invL (diffL x y)) w5 SY5.out OI5.out.rd LI.out (by rw [LY.out]; omega) (by omega)).mono ?_
  intro e w6 h6'
  obtain ⟨u6, sv, rfl, s6⟩ := apply_some h6' (by rw [inv_back]; exact run_back SX5.out.srt (run_diff [] x y SX5.out.srt SY5.out.srt))
  have SV6 : Hid (SnapIs w5.heap.size sv w6 x) := Lib.hid s6
  have SX6 := Lib.hid (SX5.out.upd0 u6)
  have SY6 := Lib.hid (SY5.out.upd0 u6)
  have SU6 := Lib.hid (SU5.out.upd0 u6)
  have U6 := Lib.hid (U5.out.trans u6)
  clear h6' s6 u6 SX5 SY5 SU5 U5 OI5
  go_wp2_with fail
  refine (no_nil _).mono ?_; rintro e w' ⟨rfl, rfl⟩
  go_wp2_with fail
  refine (no_nil _).mono ?_; rintro e w' ⟨rfl, rfl⟩
  go_wp2_with fail
  refine (s_all _ su y w6 SU6.out).mono ?_
  rintro e w7 ⟨va, rfl, oa, u7⟩
  obtain ⟨AOa, cOa, rfl, _, _⟩ := own_slice oa
  rw [LY.out] at oa ⊢
  have Oa7 := Lib.hid oa
  clear oa
  have SX7 := Lib.hid (SX6.out.upd0 u7)
  have SY7 := Lib.hid (SY6.out.upd0 u7)
  have SU7 := Lib.hid (SU6.out.upd0 u7)
  have SV7 := Lib.hid (SV6.out.upd0 u7)
  have U7 := Lib.hid (U6.out.trans u7)
  clear u7 SX6 SY6 SU6 SV6 U6
  go_wp2_with fail
  refine (s_all _ sb y w7 SY7.out).mono ?_
  rintro e w8 ⟨va, rfl, oa, u8⟩
  obtain ⟨AOb, cOb, rfl, _, _⟩ := own_slice oa
  rw [LY.out] at oa ⊢
  have Ob8 := Lib.hid oa
  clear oa
  have SX8 := Lib.hid (SX7.out.upd0 u8)
  have SY8 := Lib.hid (SY7.out.upd0 u8)
  have SU8 := Lib.hid (SU7.out.upd0 u8)
  have SV8 := Lib.hid (SV7.out.upd0 u8)
  have Oa8 := Lib.hid (Oa7.out.upd0 u8)
  have U8 := Lib.hid (U7.out.trans u8)
  clear u8 SX7 SY7 SU7 SV7 Oa7 U7
  go_wp2_with fail
  refine (pairs_rd AOa AOb n' cOa n' cOb y y w8 Oa8.out.rd Ob8.out.rd LY.out LY.out (by omega) (by omega)).mono ?_
  rintro e w9 ⟨rfl, u9⟩
  rw [decide_eq_true rfl]
  have SX9 := Lib.hid (SX8.out.upd0 u9)
  have SY9 := Lib.hid (SY8.out.upd0 u9)
  have SU9 := Lib.hid (SU8.out.upd0 u9)
  have SV9 := Lib.hid (SV8.out.upd0 u9)
  have U9 := Lib.hid (U8.out.trans u9)
  clear u9 SX8 SY8 SU8 SV8 U8
  clear Oa8 Ob8
  go_wp2_with fail
  refine (s_all _ sv x w9 SV9.out).mono ?_
  rintro e w10 ⟨va, rfl, oa, u10⟩
  obtain ⟨AOc, cOc, rfl, _, _⟩ := own_slice oa
  rw [LX.out] at oa ⊢
  have Oc10 := Lib.hid oa
  clear oa
  have SX10 := Lib.hid (SX9.out.upd0 u10)
  have SY10 := Lib.hid (SY9.out.upd0 u10)
  have SU10 := Lib.hid (SU9.out.upd0 u10)
  have SV10 := Lib.hid (SV9.out.upd0 u10)
  have U10 := Lib.hid (U9.out.trans u10)
  clear u10 SX9 SY9 SU9 SV9 U9
  go_wp2_with fail
  refine (s_all _ sa x w10 SX10.out).mono ?_
  rintro e w11 ⟨va, rfl, oa, u11⟩
  obtain ⟨AOd, cOd, rfl, _, _⟩ := own_slice oa
  rw [LX.out] at oa ⊢
  have Od11 := Lib.hid oa
  clear oa
  have SX11 := Lib.hid (SX10.out.upd0 u11)
  have SY11 := Lib.hid (SY10.out.upd0 u11)
  have SU11 := Lib.hid (SU10.out.upd0 u11)
  have SV11 := Lib.hid (SV10.out.upd0 u11)
  have Oc11 := Lib.hid (Oc10.out.upd0 u11)
  have U11 := Lib.hid (U10.out.trans u11)
  clear u11 SX10 SY10 SU10 SV10 Oc10 U10
  go_wp2_with fail
  refine (pairs_rd AOc AOd n cOc n cOd x x w11 Oc11.out.rd Od11.out.rd LX.out LX.out (by omega) (by omega)).mono ?_
  rintro e w12 ⟨rfl, u12⟩
  rw [decide_eq_true rfl]
  have SX12 := Lib.hid (SX11.out.upd0 u12)
  have SY12 := Lib.hid (SY11.out.upd0 u12)
  have SU12 := Lib.hid (SU11.out.upd0 u12)
  have SV12 := Lib.hid (SV11.out.upd0 u12)
  have U12 := Lib.hid (U11.out.trans u12)
  clear u12 SX11 SY11 SU11 SV11 U11
  clear Oc11 Od11
  go_wp2_with fail
  refine (s_all _ sa x w12 SX12.out).mono ?_
  rintro e w13 ⟨va, rfl, oa, u13⟩
  obtain ⟨AOe, cOe, rfl, _, _⟩ := own_slice oa
  rw [LX.out] at oa ⊢
  have Oe13 := Lib.hid oa
  clear oa
  have SX13 := Lib.hid (SX12.out.upd0 u13)
  have SY13 := Lib.hid (SY12.out.upd0 u13)
  have SU13 := Lib.hid (SU12.out.upd0 u13)
  have SV13 := Lib.hid (SV12.out.upd0 u13)
  have U13 := Lib.hid (U12.out.trans u13)
  clear u13 SX12 SY12 SU12 SV12 U12
  go_wp2_with fail
  refine (s_all _ sb y w13 SY13.out).mono ?_
  rintro e w14 ⟨va, rfl, oa, u14⟩
  obtain ⟨AOf, cOf, rfl, _, _⟩ := own_slice oa
  rw [LY.out] at oa ⊢
  have Of14 := Lib.hid oa
  clear oa
  have SX14 := Lib.hid (SX13.out.upd0 u14)
  have SY14 := Lib.hid (SY13.out.upd0 u14)
  have SU14 := Lib.hid (SU13.out.upd0 u14)
  have SV14 := Lib.hid (SV13.out.upd0 u14)
  have Oe14 := Lib.hid (Oe13.out.upd0 u14)
  have U14 := Lib.hid (U13.out.trans u14)
  clear u14 SX13 SY13 SU13 SV13 Oe13 U13
  go_wp2_with fail
  refine (pairs_rd AOe AOf n cOe n' cOf x y w14 Oe14.out.rd Of14.out.rd LX.out LY.out (by omega) (by omega)).mono ?_
  rintro e w15 ⟨rfl, u15⟩
  have SX15 := Lib.hid (SX14.out.upd0 u15)
  have SY15 := Lib.hid (SY14.out.upd0 u15)
  have SU15 := Lib.hid (SU14.out.upd0 u15)
  have SV15 := Lib.hid (SV14.out.upd0 u15)
  have U15 := Lib.hid (U14.out.trans u15)
  clear u15 SX14 SY14 SU14 SV14 U14
  clear Oe14 Of14
  have BQ : Hid (((m : Int) == 0) = decide (x = y)) := Lib.hid (by
    have hd := diff_none SX15.out.srt SY15.out.srt
    rw [HM.out] at hd
    by_cases hxy : x = y
    · rw [decide_eq_true hxy, hd.2 hxy]; rfl
    · rw [decide_eq_false hxy]
      have : m ≠ 0 := fun e => hxy (hd.1 e)
      simpa using this)
  obtain ⟨bq, hbq⟩ : ∃ bq, decide (x = y) = bq := ⟨_, rfl⟩
  have bm : ((m : Int) == 0) = bq := by rw [BQ.out, hbq]
  rw [hbq]
  clear hbq
  cases bq
  case true =>
    go_wp2_with fail
    refine (s_diff (spV (some su)) (spV (some sb)) y y w15 (.of SU15.out) (.of SY15.out)).mono ?_
    rintro e w16 ⟨ve, rfl, oe, u16⟩
    rw [diff_same] at oe
    obtain ⟨Ag, cg, rfl, _, _⟩ := own_slice oe
    have U16 := Lib.hid (U15.out.trans u16)
    clear oe u16
    go_wp2_with fail
    refine (alive27 w16).mono ?_; rintro e w9 ⟨rfl, u9⟩
    have U9 := Lib.hid (U16.out.trans u9)
    clear u9
    go_wp2_with fail
    go_ret
    exact ⟨rfl, U9.out⟩
  case false =>
    go_wp2_with fail
    refine (s_diff (spV (some su)) (spV (some sb)) y y w15 (.of SU15.out) (.of SY15.out)).mono ?_
    rintro e w16 ⟨ve, rfl, oe, u16⟩
    rw [diff_same] at oe
    obtain ⟨Ag, cg, rfl, _, _⟩ := own_slice oe
    have U16 := Lib.hid (U15.out.trans u16)
    clear oe u16
    go_wp2_with fail
    refine (alive27 w16).mono ?_; rintro e w9 ⟨rfl, u9⟩
    have U9 := Lib.hid (U16.out.trans u9)
    clear u9
    go_wp2_with fail
    go_ret
    exact ⟨rfl, U9.out⟩
end Go.Proofs.Ythdjbflbhgbckaa

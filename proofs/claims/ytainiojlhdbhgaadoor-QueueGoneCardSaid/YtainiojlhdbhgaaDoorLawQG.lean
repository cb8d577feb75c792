/-
  QueueGone, the walk.
-/
import Derived.Test.YtainiojlhdbhgaaDoorTwoQ
import Derived.Deep.RegionHeld3
set_option linter.unusedVariables false
namespace Go.Proofs.YtainiojlhdbhgaaDoor
open Go.RowKit HeapPlain
attribute [local go_sem] litStep_value

def PushedT (ts : List Tm) (x : Tm) (us : List Tm) : Prop := if pushE ts x = 0 then us.Perm (x :: ts) else us = ts
theorem gone_push {ts us ts' us' : List Tm} {x : Tm} (h : us.Perm ts) (h1 : PushedT ts x ts') (h2 : PushedT us x us') : us'.Perm ts' := by
  unfold PushedT at h1 h2
  rw [pushE_perm h] at h2
  by_cases e : pushE ts x = 0
  · rw [if_pos e] at h1 h2
    exact h2.trans ((h.cons x).trans h1.symm)
  · rw [if_neg e] at h1 h2
    subst h1 h2
    exact h
theorem gone_has {ts ts' : List Tm} {x : Tm} {id : Int} (h1 : PushedT ts x ts') (hx : x.id ≠ id) (hh : hasT ts id = false) : hasT ts' id = false := by
  unfold PushedT at h1
  by_cases e : pushE ts x = 0
  · rw [if_pos e] at h1
    rw [hasT_perm h1, hasT_not]
    intro y hy
    rcases List.mem_cons.1 hy with rfl | hy
    · exact hx
    · exact hasT_not.1 hh y hy
  · rw [if_neg e] at h1
    subst h1
    exact hh
theorem gone_len {ts ts' : List Tm} {x : Tm} (h1 : PushedT ts x ts') : ts'.length ≤ ts.length + 1 := by
  unfold PushedT at h1
  by_cases e : pushE ts x = 0
  · rw [if_pos e] at h1
    rw [h1.length_eq]
    simp
  · rw [if_neg e] at h1
    subst h1
    omega
theorem has_new {us us2 : List Tm} {t : Tm} (h2 : us2.Perm (t :: us)) : hasT us2 t.id = true := by
  rw [hasT_perm h2, hasT_mem]
  exact ⟨t, by simp, rfl⟩
theorem at_new {us us2 : List Tm} {t : Tm} (hn : (idsT us2).Nodup) (h2 : us2.Perm (t :: us)) : us2[atT us2 t.id]? = some t := by
  have h1 := atT_at (has_new h2)
  have e : us2.getD (atT us2 t.id) default = t := by
    refine ids_uniq hn ?_ (h2.mem_iff.2 (by simp)) h1.2
    rw [List.getD_eq_getElem?_getD, List.getElem?_eq_getElem h1.1]
    exact List.getElem_mem _
  rw [List.getD_eq_getElem?_getD, List.getElem?_eq_getElem h1.1] at e
  rw [List.getElem?_eq_getElem h1.1]
  exact congrArg some e
theorem cancel_gone {us us2 us3 : List Tm} {t : Tm} (hn : (idsT us2).Nodup) (h2 : us2.Perm (t :: us)) (h3 : (us2.getD (atT us2 t.id) default :: us3).Perm us2) : us3.Perm us := by
  rw [List.getD_eq_getElem?_getD, at_new hn h2] at h3
  exact (h3.trans h2).cons_inv
theorem move_gone {us us4 us5 : List Tm} {t : Tm} {wn : Int} (hn : (idsT us4).Nodup) (h4 : us4.Perm (t :: us)) (h5 : us5.Perm (us4.set (atT us4 t.id) ⟨wn, t.id⟩)) : us5.Perm (⟨wn, t.id⟩ :: us) := by
  have h1 := at_new hn h4
  exact (h5.trans (set_perm h1)).trans ((((erase_perm h1).trans h4).cons_inv).cons _)
section
variable {qa pa ma qb pb mb qc pc mc x : Nat} {w0 w w' : World} {ts us zs ts' : List Tm}
/-- A block that is none of the three's. -/
structure Free3 (pa ma pb mb pc mc : Nat) (w : World) (x : Nat) : Prop where
  a : ¬ ownT pa ma w x
  b : ¬ ownT pb mb w x
  c : ¬ ownT pc mc w x
  lt : x < w.heap.size
theorem free_fr {p m : Nat} (h : ¬ ownT p m w x) (hx : x < w.heap.size) (f : FrT p m w w') : ¬ ownT p m w' x := fun ho => (f.2 x ho).elim h (fun h' => by omega)
theorem free_keep {B p m p' m' : Nat} (q : QSt B qa p m w ts) (far : Far p m p' m' w) (h : ¬ ownT p m w x) (f : FrT p' m' w w') : ¬ ownT p m w' x := fun ho => h (((q.tim.keep f.1 (fun k hk ho => far k hk ho)).2 x).1 ho)
theorem Free3.new (h : Tri qa pa ma qb pb mb qc pc mc w0 w ts us zs) (o : Obj) : Free3 pa ma pb mb pc mc (w.alloc o) w.heap.size := by
  have u : UpdP (fun _ => False) w (w.alloc o) := .of_upd ((Upd.refl [] w).alloc o) (by simp)
  refine ⟨fun ho => ?_, fun ho => ?_, fun ho => ?_, by simp⟩
  · have := (h.a.tim.own_lt (((h.a.tim.keep u (fun _ _ h => h)).2 _).1 ho)).2; omega
  · have := (h.b.tim.own_lt (((h.b.tim.keep u (fun _ _ h => h)).2 _).1 ho)).2; omega
  · have := (h.c.tim.own_lt (((h.c.tim.keep u (fun _ _ h => h)).2 _).1 ho)).2; omega
theorem Free3.stepA (f3 : Free3 pa ma pb mb pc mc w x) (h : Tri qa pa ma qb pb mb qc pc mc w0 w ts us zs) (f : FrT pa ma w w') : Free3 pa ma pb mb pc mc w' x :=
  ⟨free_fr f3.a f3.lt f, free_keep h.b h.ab.symm f3.b f, free_keep h.c h.ac.symm f3.c f, Nat.lt_of_lt_of_le f3.lt f.1.size⟩
theorem Free3.stepB (f3 : Free3 pa ma pb mb pc mc w x) (h : Tri qa pa ma qb pb mb qc pc mc w0 w ts us zs) (f : FrT pb mb w w') : Free3 pa ma pb mb pc mc w' x :=
  ⟨free_keep h.a h.ab f3.a f, free_fr f3.b f3.lt f, free_keep h.c h.bc.symm f3.c f, Nat.lt_of_lt_of_le f3.lt f.1.size⟩
end
def GoneSt (qa pa ma qb pb mb qc pc mc : Nat) (w0 w : World) (ti : Int) (k : Nat) : Prop := ∃ ts us zs, Tri qa pa ma qb pb mb qc pc mc w0 w ts us zs ∧ us.Perm ts ∧ zs.Perm ts ∧ hasT ts ti = false ∧ ts.length ≤ k

set_option maxRecDepth 100000 in
set_option maxHeartbeats 8000000 in
theorem law_qgone (A : Option Addr) (n c : Nat) (L : List Tm) (tw ti wn : Int) (w : World) (hA : Rd encT w (.slice A n c) L) (hn : L.length = n) (hnc : n ≤ c) (hcm : c ≤ maxLen) (hg : Typed w) :
    Calls Tryd.prog 7 #[.slice A n c, .agg #[.int .i64 tw, .int .i64 ti], .int .i64 wn] w fun e w' => e = .returned (.bool true) ∧ Upd [] w w' := by
  have HG := Lib.hid hg
  have HA := Lib.hid hA
  have HN := Lib.hid hn
  unfold maxLen at hcm
  clear hg hA hn
  go_enter Tryd.func7, Tryd.ntmps7
  have U0 : Hid (Upd [] w (w.alloc (.cells #[.int .i64 tw, .int .i64 ti] 29))) := Lib.hid ((Upd.refl [] w).alloc _)
  have Y0 : Hid (Blk (w.alloc (.cells #[.int .i64 tw, .int .i64 ti] 29)) w.heap.size 29 #[.int .i64 tw, .int .i64 ti]) := Lib.hid (Blk.new w _ _)
  by_cases h60 : 60 < n
  · have d : decide ((60 : Int) < (n : Int)) = true := by simp; omega
    go_wp2_with fail
    refine (alive_ok _ (HG.out.upd U0.out (by simp))).mono ?_; rintro e w2 ⟨rfl, u2⟩
    go_wp2_with fail
    go_ret
    exact ⟨rfl, U0.out.trans u2⟩
  have d : decide ((60 : Int) < (n : Int)) = false := by simp; omega
  go_wp2_with fail
  generalize (w.alloc (.cells #[.int .i64 tw, .int .i64 ti] 29)) = w1 at *
  refine (q_new w1 w1.heap.size (Nat.le_refl _)).mono ?_; rintro e w2 ⟨qa, pa, ma, rfl, q2, u2, _, _, _⟩
  have Q2 := Lib.hid q2
  have U2 := Lib.hid u2
  clear q2 u2
  go_wp2_with fail
  refine (q_new w2 w2.heap.size (Nat.le_refl _)).mono ?_; rintro e w3 ⟨qb, pb, mb, rfl, q3, u3, _, _, _⟩
  have Q3 := Lib.hid q3
  have U3 := Lib.hid u3
  clear q3 u3
  go_wp2_with fail
  refine (q_new w3 w3.heap.size (Nat.le_refl _)).mono ?_; rintro e w4 ⟨qc, pc, mc, rfl, q4, u4, _, _, _⟩
  have T4 : Hid (Tri qa pa ma qb pb mb qc pc mc w1 w4 [] [] []) := Lib.hid (by
    have a3 := (Q2.out.upd0 U3.out).1
    exact ⟨(a3.upd0 u4).1, ((Q3.out.base U2.out.size).upd0 u4).1, q4.base (Nat.le_trans U2.out.size U3.out.size), far_upd0 a3 Q3.out (far_new Q2.out Q3.out U3.out) u4, far_new a3 q4 u4, far_new Q3.out q4 u4, (U2.out.trans U3.out).trans u4⟩)
  clear q4 u4 Q2 Q3 U2 U3
  go_wp2_with fail
  go_loopw [36] (fun v wr => ∃ k : Nat, v = .int .i64 k ∧ k ≤ n ∧ Hid (GoneSt qa pa ma qb pb mb qc pc mc w1 wr ti k)) (fun v _ => n - (intOf v).toNat)
  case atStart => exact ⟨0, rfl, by omega, Lib.hid ⟨[], [], [], T4.out, .refl _, .refl _, rfl, by simp⟩⟩
  case round =>
    obtain ⟨k, rfl, hk, HK⟩ := hrel
    obtain ⟨ts, us, zs, t, pu, pz, hh, hl⟩ := HK.out
    have T := Lib.hid t
    have PU := Lib.hid pu
    have PZ := Lib.hid pz
    have HH := Lib.hid hh
    have TL := Lib.hid hl
    clear HK t pu pz hh hl
    rename World => wi
    have YW : Hid (Blk wi w.heap.size 29 #[.int .i64 tw, .int .i64 ti]) := Lib.hid (Y0.out.upd T.out.u (by simp))
    by_cases hkn : k < n
    · obtain ⟨⟨xw, xi⟩, hx⟩ : ∃ x, L[k]? = some x := ⟨_, List.getElem?_eq_getElem (by rw [HN.out]; exact hkn)⟩
      obtain ⟨ad, rfl, hlt, hcells⟩ := (HA.out.upd0 (U0.out.trans T.out.u)).at_ hx
      have e0 : wi.cell? (ad.add (k * 2)) = some (.int .i64 xw) := hcells 0 _ rfl
      have e1 : wi.cell? ⟨(ad.add (k * 2)).block, (ad.add (k * 2)).off + 1, none⟩ = some (.int .i64 xi) := by have := hcells 1 _ rfl; rwa [show k * encT.s + 1 = k * 2 + (0 + 1) from rfl, add_more] at this
      have q1 : (0 : Int) ≤ (k : Int) := by omega
      have q2 : (k : Int) < (n : Int) := by omega
      clear hx hcells
      have y1 : (wi.alloc (.cells #[.int .i64 xw, .int .i64 xi] 29)).cell? ⟨w.heap.size, 1, none⟩ = some (.int .i64 ti) := (YW.out.alloc _).cell 1
      have UA : Hid (Upd [] wi (wi.alloc (.cells #[.int .i64 xw, .int .i64 xi] 29))) := Lib.hid ((Upd.refl [] wi).alloc _)
      have YA : Hid (Blk (wi.alloc (.cells #[.int .i64 xw, .int .i64 xi] 29)) wi.heap.size 29 #[.int .i64 xw, .int .i64 xi]) := Lib.hid (Blk.new wi _ _)
      have FA : Hid (Free3 pa ma pb mb pc mc (wi.alloc (.cells #[.int .i64 xw, .int .i64 xi] 29)) wi.heap.size) := Lib.hid (Free3.new T.out _)
      by_cases hxi : xi = ti
      · subst hxi
        have dd : (xi == xi) = true := by simp
        go_wp2_with fail
        generalize (wi.alloc (.cells #[.int .i64 xw, .int .i64 xi] 29)) = w5 at *
        have U5 := Lib.hid ((U0.out.trans T.out.u).trans UA.out)
        refine (alive_ok _ (HG.out.upd U5.out (by simp))).mono ?_; rintro e w6 ⟨rfl, u6⟩
        have U6 := Lib.hid (U5.out.trans u6)
        clear u6
        go_wp2_with fail
        go_ret
        exact ⟨rfl, U6.out⟩
      · have dd : (xi == ti) = false := by simpa using hxi
        have NX := Lib.hid hxi
        clear hxi
        go_wp2_with fail
        generalize (wi.alloc (.cells #[.int .i64 xw, .int .i64 xi] 29)) = w5 at *
        have T5 := Lib.hid (T.out.upd0 UA.out)
        refine (q_push w1.heap.size qa pa ma ts ⟨xw, xi⟩ w5 T5.out.a (by have := TL.out; omega) T5.out.u.size).mono ?_
        rintro e w6 ⟨va, ts6, rfl, ea, q6, p6, f6⟩
        have P6 : Hid (PushedT ts ⟨xw, xi⟩ ts6) := Lib.hid p6
        have T6 := Lib.hid (T5.out.stepA q6 f6)
        have F6 := Lib.hid (FA.out.stepA T5.out f6)
        have Y6 := Lib.hid (YA.out.updP f6.1 FA.out.a)
        clear ea q6 p6 f6 e0 e1 y1
        have g0 : w6.cell? ⟨wi.heap.size, 0, none⟩ = some (.int .i64 xw) := Y6.out.cell 0
        have g1 : w6.cell? ⟨wi.heap.size, 1, none⟩ = some (.int .i64 xi) := Y6.out.cell 1
        go_wp2_with fail
        refine (q_push w1.heap.size qb pb mb us ⟨xw, xi⟩ w6 T6.out.b (by have := TL.out; have := PU.out.length_eq; omega) T6.out.u.size).mono ?_
        rintro e w7 ⟨vb, us7, rfl, eb, q7, p7, f7⟩
        have P7 : Hid (PushedT us ⟨xw, xi⟩ us7) := Lib.hid p7
        have T7 := Lib.hid (T6.out.stepB q7 f7)
        have Y7 := Lib.hid (Y6.out.updP f7.1 F6.out.b)
        clear eb q7 p7 f7 g0 g1
        have g0 : w7.cell? ⟨wi.heap.size, 0, none⟩ = some (.int .i64 xw) := Y7.out.cell 0
        have g1 : w7.cell? ⟨wi.heap.size, 1, none⟩ = some (.int .i64 xi) := Y7.out.cell 1
        go_wp2_with fail
        refine (q_push w1.heap.size qc pc mc zs ⟨xw, xi⟩ w7 T7.out.c (by have := TL.out; have := PZ.out.length_eq; omega) T7.out.u.size).mono ?_
        rintro e w8 ⟨vc, zs8, rfl, ec, q8, p8, f8⟩
        have P8 : Hid (PushedT zs ⟨xw, xi⟩ zs8) := Lib.hid p8
        have T8 := Lib.hid (T7.out.stepC q8 f8)
        clear ec q8 p8 f8 g0 g1
        go_wp2_with fail
        go_roundw
        case rel => exact ⟨k + 1, by go_num, by omega, Lib.hid ⟨_, _, _, T8.out, gone_push PU.out P6.out P7.out, gone_push PZ.out P6.out P8.out, gone_has P6.out NX.out HH.out, by have := gone_len P6.out; have := TL.out; omega⟩⟩
        case measure => simp [intOf]; omega
    · have hkn2 : k = n := by omega
      subst hkn2
      have h6 : k ≤ 60 := by omega
      have HUH : Hid (hasT us ti = false) := Lib.hid (by rw [hasT_perm PU.out]; exact HH.out)
      have HZH : Hid (hasT zs ti = false) := Lib.hid (by rw [hasT_perm PZ.out]; exact HH.out)
      have UL : Hid (us.length ≤ 60) := Lib.hid (by have := TL.out; have := PU.out.length_eq; omega)
      have ZL : Hid (zs.length ≤ 60) := Lib.hid (by have := TL.out; have := PZ.out.length_eq; omega)
      have PE1 : Hid (pushE us ⟨tw, ti⟩ = 0) := Lib.hid (pushE_new HUH.out (by have := UL.out; omega))
      clear hk hkn
      go_wp2_with fail
      have TD := Lib.hid (T.out.upd0 (Upd.refl [] wi).drew)
      have CB : Hid (∀ W, Upd [] w1 W → W.cell? ⟨w.heap.size, 0, none⟩ = some (.int .i64 tw) ∧ W.cell? ⟨w.heap.size, 1, none⟩ = some (.int .i64 ti)) := Lib.hid (fun W hW => ⟨(Y0.out.upd hW (by simp)).cell 0, (Y0.out.upd hW (by simp)).cell 1⟩)
      obtain ⟨y1, y2⟩ := CB.out wi.drew TD.out.u
      go_region_held3 (fun W => W.cell? ⟨w.heap.size, 0, none⟩ = some (.int .i64 tw) ∧ W.cell? ⟨w.heap.size, 1, none⟩ = some (.int .i64 ti)) (first | exact ⟨x1, x2⟩ | exact ⟨z1, z2⟩ | exact ⟨y1, y2⟩) (first | (go_at_call 11; refine (q_push w1.heap.size qb pb mb us ⟨tw, ti⟩ _ TD.out.b (by have := UL.out; omega) TD.out.u.size).mono ?_; rintro e w2 ⟨va, us2, rfl, ea, q2, p2, f2⟩; rw [PE1.out] at ea p2; obtain rfl := ea.nils; rw [if_pos rfl] at p2; have T2 := Lib.hid (TD.out.stepB q2 f2); have P2 := Lib.hid p2; clear ea q2 p2 f2; obtain ⟨z1, z2⟩ := CB.out w2 T2.out.u) | (go_at_call 12; refine (q_cancel w1.heap.size qb pb mb us2 ti _ T2.out.b).mono ?_; rintro e w3 ⟨vb, us3, rfl, eb, q3, p3, f3⟩; rw [show hasT us2 ti = true from has_new P2.out] at eb p3; rw [if_pos rfl] at eb p3; obtain rfl := eb.nils; have T3 := Lib.hid (T2.out.stepB q3 f3); have P3 : Hid (us3.Perm us) := Lib.hid (cancel_gone (t := ⟨tw, ti⟩) T2.out.b.tim.nd P2.out p3); clear eb q3 p3 f3; obtain ⟨x1, x2⟩ := CB.out w3 T3.out.u))
      try clear hHeld
      clear y1 y2 z1 z2 x1 x2 T2 P2 TD
      have SE1 : Hid (sortL ts = sortL us3) := Lib.hid (sortL_eq T3.out.a.tim.nd (PU.out.symm.trans P3.out.symm))
      go_wp2_with fail
      refine (no_nil _).mono ?_; rintro e w' ⟨rfl, rfl⟩
      go_wp2_with fail
      refine (no_nil _).mono ?_; rintro e w' ⟨rfl, rfl⟩
      go_wp2_with fail
      refine (q_all w1.heap.size qa pa ma ts w3 T3.out.a).mono ?_; rintro e wa ⟨va, rfl, oa, ua⟩
      have OA : Hid (wa.ownsRow w3.heap.size 29 2 va (sortL ts).length (flatT (sortL ts))) := Lib.hid (by rw [(sortL_perm ts).length_eq]; exact oa)
      have TA := Lib.hid (T3.out.upd0 ua)
      clear oa ua
      go_wp2_with fail
      refine (q_all w1.heap.size qb pb mb us3 wa TA.out.b).mono ?_; rintro e wb ⟨vb, rfl, ob, ub⟩
      have OB : Hid (wb.ownsRow wa.heap.size 29 2 vb (sortL us3).length (flatT (sortL us3))) := Lib.hid (by rw [(sortL_perm us3).length_eq]; exact ob)
      have OA4 := Lib.hid (own_upd0 OA.out ub)
      have TB := Lib.hid (TA.out.upd0 ub)
      clear ob ub
      go_wp2_with fail
      refine (same_ok _ _ (sortL ts) (sortL us3) va vb wb OA4.out OB.out (by rw [(sortL_perm ts).length_eq]; have := T3.out.a.tim.small; omega) (by rw [(sortL_perm us3).length_eq]; have := T3.out.b.tim.small; omega)).mono ?_
      rintro e wc ⟨rfl, uc⟩
      rw [decide_eq_true SE1.out]
      have TC := Lib.hid (TB.out.upd0 uc)
      clear uc
      go_wp2_with fail
      have PE3 : Hid (pushE us3 ⟨tw, ti⟩ = 0) := Lib.hid (by rw [pushE_perm P3.out]; exact PE1.out)
      have PE4 : Hid (pushE zs ⟨wn, ti⟩ = 0) := Lib.hid (pushE_new HZH.out (by have := ZL.out; omega))
      have UL3 : Hid (us3.length ≤ 60) := Lib.hid (by rw [P3.out.length_eq]; exact UL.out)
      have TD := Lib.hid (TC.out.upd0 (Upd.refl [] wc).drew)
      obtain ⟨y1, y2⟩ := CB.out wc.drew TD.out.u
      clear OA OB OA4 TA TB
      go_region_held3 (fun W => W.cell? ⟨w.heap.size, 0, none⟩ = some (.int .i64 tw) ∧ W.cell? ⟨w.heap.size, 1, none⟩ = some (.int .i64 ti)) (first | exact ⟨v1, v2⟩ | exact ⟨x1, x2⟩ | exact ⟨z1, z2⟩ | exact ⟨y1, y2⟩) (first | (go_at_call 11; refine (q_push w1.heap.size qc pc mc zs ⟨wn, ti⟩ _ T6.out.c (by have := ZL.out; omega) T6.out.u.size).mono ?_; rintro e w7 ⟨vc7, zs7, rfl, ec, q7, p7, f7⟩; rw [PE4.out] at ec p7; obtain rfl := ec.nils; rw [if_pos rfl] at p7; have T7 := Lib.hid (T6.out.stepC q7 f7); have P7 := Lib.hid p7; clear ec q7 p7 f7; obtain ⟨v1, v2⟩ := CB.out w7 T7.out.u) | (go_at_call 11; refine (q_push w1.heap.size qb pb mb us3 ⟨tw, ti⟩ _ TD.out.b (by have := UL3.out; omega) TD.out.u.size).mono ?_; rintro e w5 ⟨va5, us5, rfl, ea, q5, p5, f5⟩; rw [PE3.out] at ea p5; obtain rfl := ea.nils; rw [if_pos rfl] at p5; have T5 := Lib.hid (TD.out.stepB q5 f5); have P5 := Lib.hid p5; clear ea q5 p5 f5; obtain ⟨z1, z2⟩ := CB.out w5 T5.out.u) | (go_at_call 21; refine (q_move w1.heap.size qb pb mb us5 ti wn _ T5.out.b).mono ?_; rintro e w6 ⟨vb6, us6, rfl, eb, q6, p6, f6⟩; rw [show hasT us5 ti = true from has_new P5.out] at eb p6; rw [if_pos rfl] at eb p6; obtain rfl := eb.nils; have T6 := Lib.hid (T5.out.stepB q6 f6); have P6 : Hid (us6.Perm (⟨wn, ti⟩ :: us3)) := Lib.hid (move_gone (t := ⟨tw, ti⟩) T5.out.b.tim.nd P5.out p6); clear eb q6 p6 f6; obtain ⟨x1, x2⟩ := CB.out w6 T6.out.u))
      try clear hHeld
      clear y1 y2 z1 z2 x1 x2 v1 v2
      have SE2 : Hid (sortL us6 = sortL zs7) := Lib.hid (sortL_eq T7.out.b.tim.nd (P6.out.trans (((P3.out.trans (PU.out.trans PZ.out.symm)).cons _).trans P7.out.symm)))
      clear T3 TC TD T5 T6
      go_wp2_with fail
      refine (no_nil _).mono ?_; rintro e w' ⟨rfl, rfl⟩
      go_wp2_with fail
      refine (no_nil _).mono ?_; rintro e w' ⟨rfl, rfl⟩
      go_wp2_with fail
      refine (no_nil _).mono ?_; rintro e w' ⟨rfl, rfl⟩
      go_wp2_with fail
      refine (q_all w1.heap.size qb pb mb us6 w7 T7.out.b).mono ?_; rintro e wa ⟨va, rfl, oa, ua⟩
      have OA : Hid (wa.ownsRow w7.heap.size 29 2 va (sortL us6).length (flatT (sortL us6))) := Lib.hid (by rw [(sortL_perm us6).length_eq]; exact oa)
      have TA := Lib.hid (T7.out.upd0 ua)
      clear oa ua
      go_wp2_with fail
      refine (q_all w1.heap.size qc pc mc zs7 wa TA.out.c).mono ?_; rintro e wb ⟨vb, rfl, ob, ub⟩
      have OB : Hid (wb.ownsRow wa.heap.size 29 2 vb (sortL zs7).length (flatT (sortL zs7))) := Lib.hid (by rw [(sortL_perm zs7).length_eq]; exact ob)
      have OA4 := Lib.hid (own_upd0 OA.out ub)
      have TB := Lib.hid (TA.out.upd0 ub)
      clear ob ub
      go_wp2_with fail
      refine (same_ok _ _ (sortL us6) (sortL zs7) va vb wb OA4.out OB.out (by rw [(sortL_perm us6).length_eq]; have := T7.out.b.tim.small; omega) (by rw [(sortL_perm zs7).length_eq]; have := T7.out.c.tim.small; omega)).mono ?_
      rintro e wc ⟨rfl, uc⟩
      rw [decide_eq_true SE2.out]
      have TC := Lib.hid (TB.out.upd0 uc)
      clear uc
      go_wp2_with fail
      have U9 := Lib.hid (U0.out.trans TC.out.u)
      refine (alive_ok _ (HG.out.upd U9.out (by simp))).mono ?_; rintro e w8 ⟨rfl, u8⟩
      have U8 := Lib.hid (U9.out.trans u8)
      clear u8
      go_wp2_with fail
      go_ret
      exact ⟨rfl, U8.out⟩
end Go.Proofs.YtainiojlhdbhgaaDoor

/-
  QueuePlays, the walk.
-/
import Derived.Test.YtainiojlhdbhgaaDoorQDo2
import Derived.Test.YtainiojlhdbhgaaDoorArg
set_option linter.unusedVariables false
namespace Go.Proofs.YtainiojlhdbhgaaDoor
open Go.RowKit HeapPlain
attribute [local go_sem] litStep_value

theorem tim_len0 (B p mb : Nat) (ts : List Tm) (w : World) (hs : TimSt B p mb w ts) : Calls Tryd.prog 24 #[.pointer (some ⟨p, 0, none⟩)] w fun e w' => e = .returned (.int .i64 ts.length) ∧ w = w' := by
  obtain ⟨v, hb, ho⟩ := hs.obj
  obtain ⟨A, c, rfl, _, _⟩ := own_slice ho
  have c0 : w.cell? ⟨p, 0, none⟩ = some (.slice A ts.length c) := hb.cell 0
  have hsm := hs.small
  clear hs hb ho
  go_enter Tryd.func24, Tryd.ntmps24
  go_wp2_with fail
  go_ret
  exact ⟨rfl, rfl⟩
theorem q_len0 (B qb p mb : Nat) (ts : List Tm) (w : World) (h : QSt B qb p mb w ts) : Calls Tryd.prog 14 #[.pointer (some ⟨qb, 0, none⟩)] w fun e w' => e = .returned (.int .i64 ts.length) ∧ w = w' := by
  have H := Lib.hid h
  have c0 : w.cell? ⟨qb, 0, none⟩ = some (.pointer (some ⟨p, 0, none⟩)) := h.box.cell 0
  clear h
  go_enter Tryd.func14, Tryd.ntmps14
  go_wp2_with fail
  refine (q_made B qb p mb ts w H.out).mono ?_; rintro e w1 ⟨rfl, rfl⟩
  go_wp2_with fail
  refine (tim_len0 B p mb ts w H.out.tim).mono ?_; rintro e w1 ⟨rfl, rfl⟩
  go_wp2_with fail
  go_ret
  exact ⟨rfl, rfl⟩
/-- The heap's first one is the list's. -/
theorem first_eq {ts S : List Tm} (hh : Hp ltT ts.length ts) (hp : ts.Perm S) (hs : SrtT S) (h0 : ts.length ≠ 0) : S[0]? = some (ts.getD 0 default) := by
  have hl := hp.length_eq
  have h1 : ts.getD 0 default ∈ ts := by
    rw [List.getD_eq_getElem?_getD, List.getElem?_eq_getElem (by omega)]
    exact List.getElem_mem _
  cases S with
  | nil => rw [List.length_nil] at hl; omega
  | cons s S =>
    have hs0 : s ∈ ts := hp.mem_iff.2 (by simp)
    obtain ⟨k, hk, he⟩ := List.getElem_of_mem hs0
    have h2 := hh.least ltT_ord ltT_irr k hk
    rw [List.getD_eq_getElem?_getD (i := k), List.getElem?_eq_getElem hk, he] at h2
    have h2' : ltT s (ts.getD 0 default) = false := h2
    rcases List.mem_cons.1 (hp.mem_iff.1 h1) with h3 | h3
    · rw [h3]; rfl
    · have := (List.pairwise_cons.1 hs).1 _ h3
      rw [this] at h2'
      cases h2'
def encA : Enc (Int × Int × Int) := encI3 .i64 .i64 .i64
def PlaysInv (B qb p mb rb : Nat) (w w0 wr : World) : Prop := ∃ ts S, Both B qb p mb rb wr ts S ∧ Upd [] w wr ∧ Upd [] w0 wr

set_option maxRecDepth 100000 in
set_option maxHeartbeats 8000000 in
theorem law_qplays (A : Option Addr) (n c : Nat) (L : List (Int × Int × Int)) (w : World) (hA : Rd encA w (.slice A n c) L) (hn : L.length = n) (hnc : n ≤ c) (hcm : c ≤ maxLen) (hg : Typed w) :
    Calls Tryd.prog 6 #[.slice A n c] w fun e w' => e = .returned (.bool true) ∧ Upd [] w w' := by
  have HG := Lib.hid hg
  have HA := Lib.hid hA
  have HN := Lib.hid hn
  unfold maxLen at hcm
  clear hg hA hn
  go_enter Tryd.func6, Tryd.ntmps6
  go_wp2_with fail
  refine (q_new w w.heap.size (Nat.le_refl _)).mono ?_; rintro e w1 ⟨qb, p, mb, rfl, q1, u1, _, _, _⟩
  have Q1 := Lib.hid q1
  have U1 := Lib.hid u1
  clear q1 u1
  go_wp2_with fail
  refine (alive_ok _ (HG.out.upd U1.out (by simp))).mono ?_; rintro e w2 ⟨rfl, u2⟩
  have U2 := Lib.hid (U1.out.trans u2)
  have Q2 := Lib.hid (Q1.out.upd0 u2).1
  clear u2 Q1 U1
  by_cases h60 : 60 < n
  · have d : decide ((60 : Int) < (n : Int)) = true := by simp; omega
    go_wp2_with fail
    go_ret
    exact ⟨rfl, U2.out⟩
  · have d : decide ((60 : Int) < (n : Int)) = false := by simp; omega
    go_wp2_with fail
    have U3 : Hid (Upd [] w2 (w2.alloc (.cells #[.slice none 0 0] 47))) := Lib.hid ((Upd.refl [] w2).alloc _)
    have B3 : Hid (Both w.heap.size qb p mb w2.heap.size (w2.alloc (.cells #[.slice none 0 0] 47)) [] []) := Lib.hid (by
      refine ⟨(Q2.out.upd0 U3.out).1, ⟨_, Blk.new _ _ _, own_nil _ _ _ _, by intro b hb; simp [Value.ownBlock] at hb⟩, .refl _, .nil, by simp⟩)
    have hrb : Hid (w.heap.size ≤ w2.heap.size) := Lib.hid U2.out.size
    generalize (w2.alloc (.cells #[.slice none 0 0] 47)) = w3 at *
    obtain ⟨rb, hrb2⟩ : ∃ rb, w2.heap.size = rb := ⟨_, rfl⟩
    rw [hrb2] at hrb B3 ⊢
    clear hrb2
    have U4 := Lib.hid (U2.out.trans U3.out)
    clear Q2 U2 U3
    go_loopw [23] (fun v wr => ∃ k : Nat, v = .int .i64 k ∧ k ≤ n ∧ Hid (PlaysInv w.heap.size qb p mb rb w w wr)) (fun v _ => n - (intOf v).toNat)
    case atStart => exact ⟨0, rfl, by omega, Lib.hid ⟨_, _, B3.out, U4.out, U4.out⟩⟩
    case round =>
      obtain ⟨k, rfl, hk, HK⟩ := hrel
      obtain ⟨ts, S, hb, hu, _⟩ := HK.out
      have BB := Lib.hid hb
      have UU := Lib.hid hu
      clear HK hb hu
      by_cases hkn : k < n
      · obtain ⟨⟨ak, aw, ai⟩, hx⟩ : ∃ x, L[k]? = some x := ⟨_, List.getElem?_eq_getElem (by rw [HN.out]; exact hkn)⟩
        obtain ⟨ad, rfl, hlt, hcells⟩ := (HA.out.upd0 UU.out).at_ hx
        have e0 : wr.cell? (ad.add (k * 3)) = some (.int .i64 ak) := hcells 0 _ rfl
        have e1 : wr.cell? ⟨(ad.add (k * 3)).block, (ad.add (k * 3)).off + 1, none⟩ = some (.int .i64 aw) := by have := hcells 1 _ rfl; rwa [show k * encA.s + 1 = k * 3 + (0 + 1) from rfl, add_more] at this
        have e2 : wr.cell? ⟨(ad.add (k * 3)).block, (ad.add (k * 3)).off + 2, none⟩ = some (.int .i64 ai) := by have := hcells 2 _ rfl; rwa [show k * encA.s + 2 = k * 3 + (1 + 1) from rfl, add_more] at this
        have q1 : (0 : Int) ≤ (k : Int) := by omega
        have q2 : (k : Int) < (n : Int) := by omega
        clear hx hcells
        go_wp2_with fail
        have UA : Hid (Upd [] wr (wr.alloc (.cells #[.int .i64 ak, .int .i64 aw, .int .i64 ai] 49))) := Lib.hid ((Upd.refl [] wr).alloc _)
        generalize (wr.alloc (.cells #[.int .i64 ak, .int .i64 aw, .int .i64 ai] 49)) = w5 at *
        refine (do_ok w.heap.size qb p mb rb ts S ak aw ai w w5 (BB.out.upd0 UA.out) (UU.out.trans UA.out) HG.out (Nat.le_refl _) hrb.out (UU.out.trans UA.out).size).mono ?_
        rintro e w6 ⟨rfl, ts6, S6, b6, u6⟩
        have B6 := Lib.hid b6
        have U6 := Lib.hid u6
        clear b6 u6 e0 e1 e2 UA BB UU
        go_wp2_with fail
        refine (q_next w.heap.size qb p mb ts6 w6 B6.out.q).mono ?_
        rintro e w7 ⟨rfl, q7, f7⟩
        have B7 := Lib.hid (B6.out.same q7 f7 (.refl _ _))
        have U7 := Lib.hid (FrT.base B6.out.q.tim (Nat.le_refl _) U6.out f7)
        clear q7 f7 B6 U6
        obtain ⟨m, hm⟩ : ∃ m, ts6.length = m := ⟨_, rfl⟩
        have HM := Lib.hid hm
        have HMS : Hid (S6.length = m) := Lib.hid (by rw [← B7.out.perm.length_eq, hm])
        have hm200 : m ≤ 200 := by rw [← hm]; exact B7.out.tlen
        have HSS : Hid (sortL ts6 = S6) := Lib.hid (sorted_uniq ltT_tot ((sortL_perm ts6).trans B7.out.perm) (sortL_srt B7.out.q.tim.nd) B7.out.srt)
        rw [hm]
        clear hm
        unfold vT
        obtain ⟨rv, hbR, hoR, _⟩ := B7.out.r
        obtain ⟨AR, cR, rfl, hncR, hcmR⟩ := own_slice hoR
        rw [HMS.out] at hbR hoR hncR
        have HBR := Lib.hid hbR
        have HOR := Lib.hid hoR
        clear hbR hoR
        by_cases hm0 : m = 0
        · subst hm0
          simp only [if_true, ne_eq, not_true_eq_false, decide_false]
          go_wp2_with fail
          have UB : Hid (Upd [] w7 (w7.alloc (.cells #[.int .i64 0, .int .i64 0] 29))) := Lib.hid ((Upd.refl [] w7).alloc _)
          have YB : Hid (Blk (w7.alloc (.cells #[.int .i64 0, .int .i64 0] 29)) w7.heap.size 29 #[.int .i64 0, .int .i64 0]) := Lib.hid (Blk.new w7 _ _)
          generalize (w7.alloc (.cells #[.int .i64 0, .int .i64 0] 29)) = w8 at *
          have BX := Lib.hid (B7.out.upd0 UB.out)
          have UX := Lib.hid (U7.out.trans UB.out)
          have OX := Lib.hid (own_upd0 HOR.out UB.out)
          have RX := Lib.hid (HBR.out.upd UB.out (by simp))
          have CS : Hid (∀ W, Upd [] w8.drew W → W.cell? ⟨rb, 0, none⟩ = some (.slice AR 0 cR) ∧ W.cell? ⟨w7.heap.size, 0, none⟩ = some (.int .i64 0) ∧ W.cell? ⟨w7.heap.size, 1, none⟩ = some (.int .i64 0)) := Lib.hid (fun W hW => by
            have hu : Upd [] w8 W := (Upd.refl [] w8).drew.trans hW
            exact ⟨(RX.out.upd hu (by simp)).cell 0, (YB.out.upd hu (by simp)).cell 0, (YB.out.upd hu (by simp)).cell 1⟩)
          go_wp2_with fail
          refine wp_invN [(26, .det (.agg #[.int .i64 0, .int .i64 0])), (32, .det (.int .i64 (0 : Nat))), (42, .own 0 29 2 0 (flatT S6)), (47, .det (.bool true))] [] (by kernel_rfl) (by kernel_rfl) (by kernel_rfl) ⟨lasts_det _, lasts_det _, lasts_own _ _ _ _ _ (by simp [maxLen]), lasts_det _, trivial⟩ ?_
          with_reducible apply wpV_light
          · simp only [lightOp]
          · intro W hU hF
            have f0 := CS.out W hU
            clear hU hF
            go_simp
            exact rfl
          simp only [Act.put, List.setIfInBounds_toArray, List.set_cons_zero, List.set_cons_succ]
          with_reducible apply wpV_light
          · simp only [lightOp]
          · intro W hU hF
            have f0 := CS.out W hU
            clear hU hF
            go_simp
            exact rfl
          simp only [Act.put, List.setIfInBounds_toArray, List.set_cons_zero, List.set_cons_succ]
          with_reducible apply wpV_light
          · simp only [lightOp]
          · intro W hU hF
            have f0 := CS.out W hU
            clear hU hF
            go_simp
            exact rfl
          simp only [Act.put, List.setIfInBounds_toArray, List.set_cons_zero, List.set_cons_succ]
          with_reducible apply wpV_light
          · simp only [lightOp]
          · intro W hU hF
            have f0 := CS.out W hU
            clear hU hF
            go_simp
            exact rfl
          simp only [Act.put, List.setIfInBounds_toArray, List.set_cons_zero, List.set_cons_succ]
          with_reducible apply wpV_light
          · simp only [lightOp]
          · intro W hU hF
            have f0 := CS.out W hU
            clear hU hF
            go_simp
            exact rfl
          simp only [Act.put, List.setIfInBounds_toArray, List.set_cons_zero, List.set_cons_succ]
          with_reducible apply wpV_light
          · simp only [lightOp]
          · intro W hU hF
            have f0 := CS.out W hU
            clear hU hF
            go_simp
            exact rfl
          simp only [Act.put, List.setIfInBounds_toArray, List.set_cons_zero, List.set_cons_succ]
          with_reducible apply wpV_light
          · simp only [lightOp]
          · intro W hU hF
            have f0 := CS.out W hU
            clear hU hF
            go_simp
            exact rfl
          simp only [Act.put, List.setIfInBounds_toArray, List.set_cons_zero, List.set_cons_succ]
          with_reducible apply wpV_light
          · simp only [lightOp]
          · intro W hU hF
            have f0 := CS.out W hU
            clear hU hF
            go_simp
            exact rfl
          simp only [Act.put, List.setIfInBounds_toArray, List.set_cons_zero, List.set_cons_succ]
          with_reducible apply wpV_light
          · simp only [lightOp]
          · intro W hU hF
            have f0 := CS.out W hU
            clear hU hF
            go_simp
            exact rfl
          simp only [Act.put, List.setIfInBounds_toArray, List.set_cons_zero, List.set_cons_succ]
          with_reducible apply wpV_light
          · simp only [lightOp]
          · intro W hU hF
            have f0 := CS.out W hU
            clear hU hF
            go_simp
            exact rfl
          simp only [Act.put, List.setIfInBounds_toArray, List.set_cons_zero, List.set_cons_succ]
          with_reducible apply wpV_light
          · simp only [lightOp]
          · intro W hU hF
            have f0 := CS.out W hU
            clear hU hF
            go_simp
            exact rfl
          simp only [Act.put, List.setIfInBounds_toArray, List.set_cons_zero, List.set_cons_succ]
          refine wpV_skip (by rfl) (by simp only [lightOp]) ?_
          simp only [Act.put, List.setIfInBounds_toArray, List.set_cons_zero, List.set_cons_succ]
          refine wpV_skip (by rfl) (by simp only [lightOp]) ?_
          simp only [Act.put, List.setIfInBounds_toArray, List.set_cons_zero, List.set_cons_succ]
          refine wpV_skip (by rfl) (by simp only [lightOp]) ?_
          simp only [Act.put, List.setIfInBounds_toArray, List.set_cons_zero, List.set_cons_succ]
          refine wpV_skip (by rfl) (by simp only [lightOp]) ?_
          simp only [Act.put, List.setIfInBounds_toArray, List.set_cons_zero, List.set_cons_succ]
          refine wpV_skip (by rfl) (by simp only [lightOp]) ?_
          simp only [Act.put, List.setIfInBounds_toArray, List.set_cons_zero, List.set_cons_succ]
          refine wpV_skip (by rfl) (by simp only [lightOp]) ?_
          simp only [Act.put, List.setIfInBounds_toArray, List.set_cons_zero, List.set_cons_succ]
          refine wpV_skip (by rfl) (by simp only [lightOp]) ?_
          simp only [Act.put, List.setIfInBounds_toArray, List.set_cons_zero, List.set_cons_succ]
          refine wpV_skip (by rfl) (by simp only [lightOp]) ?_
          simp only [Act.put, List.setIfInBounds_toArray, List.set_cons_zero, List.set_cons_succ]
          with_reducible apply wpV_light
          · simp only [lightOp]
          · intro W hU hF
            have f0 := CS.out W hU
            clear hU hF
            go_simp
            exact rfl
          simp only [Act.put, List.setIfInBounds_toArray, List.set_cons_zero, List.set_cons_succ]
          with_reducible apply wpV_light
          · simp only [lightOp]
          · intro W hU hF
            have f0 := CS.out W hU
            clear hU hF
            go_simp
            exact rfl
          simp only [Act.put, List.setIfInBounds_toArray, List.set_cons_zero, List.set_cons_succ]
          with_reducible apply wpV_light
          · simp only [lightOp]
          · intro W hU hF
            have f0 := CS.out W hU
            clear hU hF
            go_simp
            exact rfl
          simp only [Act.put, List.setIfInBounds_toArray, List.set_cons_zero, List.set_cons_succ]
          with_reducible apply wpV_light
          · simp only [lightOp]
          · intro W hU hF
            have f0 := CS.out W hU
            clear hU hF
            go_simp
            exact rfl
          simp only [Act.put, List.setIfInBounds_toArray, List.set_cons_zero, List.set_cons_succ]
          with_reducible apply wpV_light
          · simp only [lightOp]
          · intro W hU hF
            have f0 := CS.out W hU
            clear hU hF
            go_simp
            exact rfl
          simp only [Act.put, List.setIfInBounds_toArray, List.set_cons_zero, List.set_cons_succ]
          with_reducible apply wpV_light
          · simp only [lightOp]
          · intro W hU hF
            have f0 := CS.out W hU
            clear hU hF
            go_simp
            exact rfl
          simp only [Act.put, List.setIfInBounds_toArray, List.set_cons_zero, List.set_cons_succ]
          with_reducible apply wpV_light
          · simp only [lightOp]
          · intro W hU hF
            have f0 := CS.out W hU
            clear hU hF
            go_simp
            exact rfl
          simp only [Act.put, List.setIfInBounds_toArray, List.set_cons_zero, List.set_cons_succ]
          refine wpV_heavy (by simp only [lightOp]) (by rfl) (fun W hU hk hF K hK => ?_) ?_
          · go_wp2_with fail
            exact hK.out _ _ (outV_new rfl rfl (by intro b hb; cases hb) (.refl _ _))
          rintro _ rfl
          simp only [Act.put, List.setIfInBounds_toArray, List.set_cons_zero, List.set_cons_succ]
          with_reducible apply wpV_light
          · simp only [lightOp]
          · intro W hU hF
            have f0 := CS.out W hU
            clear hU hF
            go_simp
            exact rfl
          simp only [Act.put, List.setIfInBounds_toArray, List.set_cons_zero, List.set_cons_succ]
          with_reducible apply wpV_light
          · simp only [lightOp]
          · intro W hU hF
            have f0 := CS.out W hU
            clear hU hF
            go_simp
            exact rfl
          simp only [Act.put, List.setIfInBounds_toArray, List.set_cons_zero, List.set_cons_succ]
          with_reducible apply wpV_light
          · simp only [lightOp]
          · intro W hU hF
            have f0 := CS.out W hU
            clear hU hF
            go_simp
            exact rfl
          simp only [Act.put, List.setIfInBounds_toArray, List.set_cons_zero, List.set_cons_succ]
          with_reducible apply wpV_light
          · simp only [lightOp]
          · intro W hU hF
            have f0 := CS.out W hU
            clear hU hF
            go_simp
            exact rfl
          simp only [Act.put, List.setIfInBounds_toArray, List.set_cons_zero, List.set_cons_succ]
          with_reducible apply wpV_light
          · simp only [lightOp]
          · intro W hU hF
            have f0 := CS.out W hU
            clear hU hF
            go_simp
            exact rfl
          simp only [Act.put, List.setIfInBounds_toArray, List.set_cons_zero, List.set_cons_succ]
          refine wpV_heavy (by simp only [lightOp]) (by rfl) (fun W hU hk hF K hK => ?_) ?_
          · go_wp2_with fail
            refine (q_len0 w.heap.size qb p mb ts6 _ (BX.out.upd0 ((Upd.refl [] _).drew.trans hU)).q).mono ?_; rintro e w2 ⟨rfl, rfl⟩
            rw [HM.out]
            go_wp2_with fail
            exact hK.out _ _ (outV_new rfl rfl (by intro b hb; cases hb) (.refl _ _))
          rintro _ rfl
          simp only [Act.put, List.setIfInBounds_toArray, List.set_cons_zero, List.set_cons_succ]
          with_reducible apply wpV_light
          · simp only [lightOp]
          · intro W hU hF
            have f0 := CS.out W hU
            clear hU hF
            go_simp
            exact rfl
          simp only [Act.put, List.setIfInBounds_toArray, List.set_cons_zero, List.set_cons_succ]
          with_reducible apply wpV_light
          · simp only [lightOp]
          · intro W hU hF
            have f0 := CS.out W hU
            clear hU hF
            go_simp
            exact rfl
          simp only [Act.put, List.setIfInBounds_toArray, List.set_cons_zero, List.set_cons_succ]
          with_reducible apply wpV_light
          · simp only [lightOp]
          · intro W hU hF
            have f0 := CS.out W hU
            clear hU hF
            go_simp
            exact rfl
          simp only [Act.put, List.setIfInBounds_toArray, List.set_cons_zero, List.set_cons_succ]
          with_reducible apply wpV_light
          · simp only [lightOp]
          · intro W hU hF
            have f0 := CS.out W hU
            clear hU hF
            go_simp
            exact rfl
          simp only [Act.put, List.setIfInBounds_toArray, List.set_cons_zero, List.set_cons_succ]
          with_reducible apply wpV_light
          · simp only [lightOp]
          · intro W hU hF
            have f0 := CS.out W hU
            clear hU hF
            go_simp
            exact rfl
          simp only [Act.put, List.setIfInBounds_toArray, List.set_cons_zero, List.set_cons_succ]
          with_reducible apply wpV_light
          · simp only [lightOp]
          · intro W hU hF
            have f0 := CS.out W hU
            clear hU hF
            go_simp
            exact rfl
          simp only [Act.put, List.setIfInBounds_toArray, List.set_cons_zero, List.set_cons_succ]
          with_reducible apply wpV_light
          · simp only [lightOp]
          · intro W hU hF
            have f0 := CS.out W hU
            clear hU hF
            go_simp
            exact rfl
          simp only [Act.put, List.setIfInBounds_toArray, List.set_cons_zero, List.set_cons_succ]
          with_reducible apply wpV_light
          · simp only [lightOp]
          · intro W hU hF
            have f0 := CS.out W hU
            clear hU hF
            go_simp
            exact rfl
          simp only [Act.put, List.setIfInBounds_toArray, List.set_cons_zero, List.set_cons_succ]
          with_reducible apply wpV_light
          · simp only [lightOp]
          · intro W hU hF
            have f0 := CS.out W hU
            clear hU hF
            go_simp
            exact rfl
          simp only [Act.put, List.setIfInBounds_toArray, List.set_cons_zero, List.set_cons_succ]
          refine wpV_heavy (by simp only [lightOp]) (by rfl) (fun W hU hk hF K hK => ?_) ?_
          · go_wp2_with fail
            refine (q_all w.heap.size qb p mb ts6 _ (BX.out.upd0 ((Upd.refl [] _).drew.trans hU)).q).mono ?_; rintro e w2 ⟨va, rfl, oa, ua⟩
            go_wp2_with fail
            refine hK.out _ _ (outV_new rfl ?_ (by intro b hb; exact own_lt oa (by simpa [mkI, specOf, Spec.own] using hb)) ua)
            have oo := own_base oa (Nat.zero_le _)
            rw [HM.out, HSS.out] at oo
            exact oo
          rintro _ ⟨AV, cV, rfl, _, _⟩
          simp only [Act.put, List.setIfInBounds_toArray, List.set_cons_zero, List.set_cons_succ]
          with_reducible apply wpV_light
          · simp only [lightOp]
          · intro W hU hF
            have f0 := CS.out W hU
            clear hU hF
            go_simp
            exact rfl
          simp only [Act.put, List.setIfInBounds_toArray, List.set_cons_zero, List.set_cons_succ]
          with_reducible apply wpV_light
          · simp only [lightOp]
          · intro W hU hF
            have f0 := CS.out W hU
            clear hU hF
            go_simp
            exact rfl
          simp only [Act.put, List.setIfInBounds_toArray, List.set_cons_zero, List.set_cons_succ]
          with_reducible apply wpV_light
          · simp only [lightOp]
          · intro W hU hF
            have f0 := CS.out W hU
            clear hU hF
            go_simp
            exact rfl
          simp only [Act.put, List.setIfInBounds_toArray, List.set_cons_zero, List.set_cons_succ]
          with_reducible apply wpV_light
          · simp only [lightOp]
          · intro W hU hF
            have f0 := CS.out W hU
            clear hU hF
            go_simp
            exact rfl
          simp only [Act.put, List.setIfInBounds_toArray, List.set_cons_zero, List.set_cons_succ]
          refine wpV_heavy (by simp only [lightOp]) (by rfl) (fun W hU hk hF K hK => ?_) ?_
          · go_wp2_with fail
            have oa := hF.out.2.2.1 (by kernel_rfl)
            refine (same_ok 0 0 S6 S6 (.slice AV 0 cV) (.slice AR 0 cR) _ (by rw [HMS.out]; exact oa) (by rw [HMS.out]; exact own_upd0 OX.out ((Upd.refl [] _).drew.trans hU)) (by rw [HMS.out]; omega) (by rw [HMS.out]; omega)).mono ?_; rintro e w2 ⟨rfl, u2⟩
            rw [decide_eq_true rfl]
            go_wp2_with fail
            exact hK.out _ _ (outV_new rfl rfl (by intro b hb; cases hb) u2)
          rintro _ rfl
          simp only [Act.put, List.setIfInBounds_toArray, List.set_cons_zero, List.set_cons_succ]
          with_reducible apply wpV_light
          · simp only [lightOp]
          · intro W hU hF
            have f0 := CS.out W hU
            clear hU hF
            go_simp
            exact rfl
          simp only [Act.put, List.setIfInBounds_toArray, List.set_cons_zero, List.set_cons_succ]
          with_reducible apply wpV_light
          · simp only [lightOp]
          · intro W hU hF
            have f0 := CS.out W hU
            clear hU hF
            go_simp
            exact rfl
          simp only [Act.put, List.setIfInBounds_toArray, List.set_cons_zero, List.set_cons_succ]
          refine wpV_end (fun W hU _ _ => ?_)
          have U8 : Hid (Upd [] w W) := Lib.hid (UX.out.trans ((Upd.refl [] _).drew.trans hU))
          have B8 := Lib.hid (BX.out.upd0 ((Upd.refl [] _).drew.trans hU))
          clear hU
          refine wpT_end ?_
          go_wp2_with fail
          go_roundw
          case rel => exact ⟨k + 1, by go_num, by omega, Lib.hid ⟨_, _, B8.out, U8.out, U8.out⟩⟩
          case measure => simp [intOf]; omega
        · obtain ⟨⟨xw, xi⟩, hx⟩ : ∃ x, ts6.getD 0 default = x := ⟨_, rfl⟩
          have hf := first_eq B7.out.q.hp B7.out.perm B7.out.srt (by rw [HM.out]; exact hm0)
          rw [hx] at hf
          rw [if_neg hm0, hx]
          obtain ⟨gR, cgR, curR, e1, _⟩ := own_form HOR.out (by omega)
          injection e1 with e1 _ e1'
          subst e1 e1'
          have hd : decide (m ≠ 0) = true := by simpa using hm0
          rw [hd]
          have g0 : (0 : Int) < (m : Int) := by omega
          have g0n : 0 < m := by omega
          have HF := Lib.hid hf
          clear hx hf hd
          simp only
          go_wp2_with fail
          have UB : Hid (Upd [] w7 (w7.alloc (.cells #[.int .i64 xw, .int .i64 xi] 29))) := Lib.hid ((Upd.refl [] w7).alloc _)
          have YB : Hid (Blk (w7.alloc (.cells #[.int .i64 xw, .int .i64 xi] 29)) w7.heap.size 29 #[.int .i64 xw, .int .i64 xi]) := Lib.hid (Blk.new w7 _ _)
          generalize (w7.alloc (.cells #[.int .i64 xw, .int .i64 xi] 29)) = w8 at *
          have BX := Lib.hid (B7.out.upd0 UB.out)
          have UX := Lib.hid (U7.out.trans UB.out)
          have OX := Lib.hid (own_upd0 HOR.out UB.out)
          have RX := Lib.hid (HBR.out.upd UB.out (by simp))
          have CS : Hid (∀ W, Upd [] w8.drew W → W.cell? ⟨rb, 0, none⟩ = some (.slice (some ⟨gR, 0, none⟩) m cR) ∧ W.cell? ⟨w7.heap.size, 0, none⟩ = some (.int .i64 xw) ∧ W.cell? ⟨w7.heap.size, 1, none⟩ = some (.int .i64 xi) ∧ W.cell? ⟨gR, 0, none⟩ = some (.int .i64 xw) ∧ W.cell? ⟨gR, 1, none⟩ = some (.int .i64 xi)) := Lib.hid (fun W hW => by
            have hu : Upd [] w8 W := (Upd.refl [] w8).drew.trans hW
            have ho := own_upd0 OX.out hu
            exact ⟨(RX.out.upd hu (by simp)).cell 0, (YB.out.upd hu (by simp)).cell 0, (YB.out.upd hu (by simp)).cell 1, own_cell ho _ _ (flatT_get S6 0 _ HF.out).1, own_cell ho _ _ (flatT_get S6 0 _ HF.out).2⟩)
          go_wp2_with fail
          refine wp_invN [(32, .det (.int .i64 m)), (42, .own 0 29 2 m (flatT S6)), (47, .det (.bool true))] [] (by kernel_rfl) (by kernel_rfl) (by kernel_rfl) ⟨lasts_det _, lasts_own _ _ _ _ _ (by simp only [maxLen]; omega), lasts_det _, trivial⟩ ?_
          with_reducible apply wpV_light
          · simp only [lightOp]
          · intro W hU hF
            have f0 := CS.out W hU
            clear hU hF
            go_simp
            exact rfl
          simp only [Act.put, List.setIfInBounds_toArray, List.set_cons_zero, List.set_cons_succ]
          with_reducible apply wpV_light
          · simp only [lightOp]
          · intro W hU hF
            have f0 := CS.out W hU
            clear hU hF
            go_simp
            exact rfl
          simp only [Act.put, List.setIfInBounds_toArray, List.set_cons_zero, List.set_cons_succ]
          with_reducible apply wpV_light
          · simp only [lightOp]
          · intro W hU hF
            have f0 := CS.out W hU
            clear hU hF
            go_simp
            exact rfl
          simp only [Act.put, List.setIfInBounds_toArray, List.set_cons_zero, List.set_cons_succ]
          with_reducible apply wpV_light
          · simp only [lightOp]
          · intro W hU hF
            have f0 := CS.out W hU
            clear hU hF
            go_simp
            exact rfl
          simp only [Act.put, List.setIfInBounds_toArray, List.set_cons_zero, List.set_cons_succ]
          with_reducible apply wpV_light
          · simp only [lightOp]
          · intro W hU hF
            have f0 := CS.out W hU
            clear hU hF
            go_simp
            exact rfl
          simp only [Act.put, List.setIfInBounds_toArray, List.set_cons_zero, List.set_cons_succ]
          with_reducible apply wpV_light
          · simp only [lightOp]
          · intro W hU hF
            have f0 := CS.out W hU
            clear hU hF
            go_simp
            exact rfl
          simp only [Act.put, List.setIfInBounds_toArray, List.set_cons_zero, List.set_cons_succ]
          with_reducible apply wpV_light
          · simp only [lightOp]
          · intro W hU hF
            have f0 := CS.out W hU
            clear hU hF
            go_simp
            exact rfl
          simp only [Act.put, List.setIfInBounds_toArray, List.set_cons_zero, List.set_cons_succ]
          with_reducible apply wpV_light
          · simp only [lightOp]
          · intro W hU hF
            have f0 := CS.out W hU
            clear hU hF
            go_simp
            exact rfl
          simp only [Act.put, List.setIfInBounds_toArray, List.set_cons_zero, List.set_cons_succ]
          with_reducible apply wpV_light
          · simp only [lightOp]
          · intro W hU hF
            have f0 := CS.out W hU
            clear hU hF
            go_simp
            exact rfl
          simp only [Act.put, List.setIfInBounds_toArray, List.set_cons_zero, List.set_cons_succ]
          with_reducible apply wpV_light
          · simp only [lightOp]
          · intro W hU hF
            have f0 := CS.out W hU
            clear hU hF
            go_simp
            exact rfl
          simp only [Act.put, List.setIfInBounds_toArray, List.set_cons_zero, List.set_cons_succ]
          with_reducible apply wpV_light
          · simp only [lightOp]
          · intro W hU hF
            have f0 := CS.out W hU
            clear hU hF
            go_simp
            exact rfl
          simp only [Act.put, List.setIfInBounds_toArray, List.set_cons_zero, List.set_cons_succ]
          with_reducible apply wpV_light
          · simp only [lightOp]
          · intro W hU hF
            have f0 := CS.out W hU
            clear hU hF
            go_simp
            exact rfl
          simp only [Act.put, List.setIfInBounds_toArray, List.set_cons_zero, List.set_cons_succ]
          with_reducible apply wpV_light
          · simp only [lightOp]
          · intro W hU hF
            have f0 := CS.out W hU
            clear hU hF
            go_simp
            exact rfl
          simp only [Act.put, List.setIfInBounds_toArray, List.set_cons_zero, List.set_cons_succ]
          with_reducible apply wpV_light
          · simp only [lightOp]
          · intro W hU hF
            have f0 := CS.out W hU
            clear hU hF
            go_simp
            exact rfl
          simp only [Act.put, List.setIfInBounds_toArray, List.set_cons_zero, List.set_cons_succ]
          with_reducible apply wpV_light
          · simp only [lightOp]
          · intro W hU hF
            have f0 := CS.out W hU
            clear hU hF
            go_simp
            exact rfl
          simp only [Act.put, List.setIfInBounds_toArray, List.set_cons_zero, List.set_cons_succ]
          with_reducible apply wpV_light
          · simp only [lightOp]
          · intro W hU hF
            have f0 := CS.out W hU
            clear hU hF
            go_simp
            exact rfl
          simp only [Act.put, List.setIfInBounds_toArray, List.set_cons_zero, List.set_cons_succ]
          with_reducible apply wpV_light
          · simp only [lightOp]
          · intro W hU hF
            have f0 := CS.out W hU
            clear hU hF
            go_simp
            exact rfl
          simp only [Act.put, List.setIfInBounds_toArray, List.set_cons_zero, List.set_cons_succ]
          with_reducible apply wpV_light
          · simp only [lightOp]
          · intro W hU hF
            have f0 := CS.out W hU
            clear hU hF
            go_simp
            exact rfl
          simp only [Act.put, List.setIfInBounds_toArray, List.set_cons_zero, List.set_cons_succ]
          with_reducible apply wpV_light
          · simp only [lightOp]
          · intro W hU hF
            have f0 := CS.out W hU
            clear hU hF
            go_simp
            exact rfl
          simp only [Act.put, List.setIfInBounds_toArray, List.set_cons_zero, List.set_cons_succ]
          with_reducible apply wpV_light
          · simp only [lightOp]
          · intro W hU hF
            have f0 := CS.out W hU
            clear hU hF
            go_simp
            exact rfl
          simp only [Act.put, List.setIfInBounds_toArray, List.set_cons_zero, List.set_cons_succ]
          with_reducible apply wpV_light
          · simp only [lightOp]
          · intro W hU hF
            have f0 := CS.out W hU
            clear hU hF
            go_simp
            exact rfl
          simp only [Act.put, List.setIfInBounds_toArray, List.set_cons_zero, List.set_cons_succ]
          with_reducible apply wpV_light
          · simp only [lightOp]
          · intro W hU hF
            have f0 := CS.out W hU
            clear hU hF
            go_simp
            exact rfl
          simp only [Act.put, List.setIfInBounds_toArray, List.set_cons_zero, List.set_cons_succ]
          with_reducible apply wpV_light
          · simp only [lightOp]
          · intro W hU hF
            have f0 := CS.out W hU
            clear hU hF
            go_simp
            exact rfl
          simp only [Act.put, List.setIfInBounds_toArray, List.set_cons_zero, List.set_cons_succ]
          with_reducible apply wpV_light
          · simp only [lightOp]
          · intro W hU hF
            have f0 := CS.out W hU
            clear hU hF
            go_simp
            exact rfl
          simp only [Act.put, List.setIfInBounds_toArray, List.set_cons_zero, List.set_cons_succ]
          with_reducible apply wpV_light
          · simp only [lightOp]
          · intro W hU hF
            have f0 := CS.out W hU
            clear hU hF
            go_simp
            exact rfl
          simp only [Act.put, List.setIfInBounds_toArray, List.set_cons_zero, List.set_cons_succ]
          refine wpV_skip (by rfl) (by simp only [lightOp]) ?_
          simp only [Act.put, List.setIfInBounds_toArray, List.set_cons_zero, List.set_cons_succ]
          refine wpV_heavySkip (by simp only [lightOp]) (by rfl) (fun W hU hk => outV_new rfl trivial (by intro b hb; cases hb) (.refl _ _)) ?_
          rintro _ trivial
          simp only [Act.put, List.setIfInBounds_toArray, List.set_cons_zero, List.set_cons_succ]
          refine wpV_skip (by rfl) (by simp only [lightOp]) ?_
          simp only [Act.put, List.setIfInBounds_toArray, List.set_cons_zero, List.set_cons_succ]
          with_reducible apply wpV_light
          · simp only [lightOp]
          · intro W hU hF
            have f0 := CS.out W hU
            clear hU hF
            go_simp
            exact rfl
          simp only [Act.put, List.setIfInBounds_toArray, List.set_cons_zero, List.set_cons_succ]
          with_reducible apply wpV_light
          · simp only [lightOp]
          · intro W hU hF
            have f0 := CS.out W hU
            clear hU hF
            go_simp
            exact rfl
          simp only [Act.put, List.setIfInBounds_toArray, List.set_cons_zero, List.set_cons_succ]
          with_reducible apply wpV_light
          · simp only [lightOp]
          · intro W hU hF
            have f0 := CS.out W hU
            clear hU hF
            go_simp
            exact rfl
          simp only [Act.put, List.setIfInBounds_toArray, List.set_cons_zero, List.set_cons_succ]
          with_reducible apply wpV_light
          · simp only [lightOp]
          · intro W hU hF
            have f0 := CS.out W hU
            clear hU hF
            go_simp
            exact rfl
          simp only [Act.put, List.setIfInBounds_toArray, List.set_cons_zero, List.set_cons_succ]
          refine wpV_heavy (by simp only [lightOp]) (by rfl) (fun W hU hk hF K hK => ?_) ?_
          · go_wp2_with fail
            refine (q_len0 w.heap.size qb p mb ts6 _ (BX.out.upd0 ((Upd.refl [] _).drew.trans hU)).q).mono ?_; rintro e w2 ⟨rfl, rfl⟩
            rw [HM.out]
            go_wp2_with fail
            exact hK.out _ _ (outV_new rfl rfl (by intro b hb; cases hb) (.refl _ _))
          rintro _ rfl
          simp only [Act.put, List.setIfInBounds_toArray, List.set_cons_zero, List.set_cons_succ]
          with_reducible apply wpV_light
          · simp only [lightOp]
          · intro W hU hF
            have f0 := CS.out W hU
            clear hU hF
            go_simp
            exact rfl
          simp only [Act.put, List.setIfInBounds_toArray, List.set_cons_zero, List.set_cons_succ]
          with_reducible apply wpV_light
          · simp only [lightOp]
          · intro W hU hF
            have f0 := CS.out W hU
            clear hU hF
            go_simp
            exact rfl
          simp only [Act.put, List.setIfInBounds_toArray, List.set_cons_zero, List.set_cons_succ]
          with_reducible apply wpV_light
          · simp only [lightOp]
          · intro W hU hF
            have f0 := CS.out W hU
            clear hU hF
            go_simp
            exact rfl
          simp only [Act.put, List.setIfInBounds_toArray, List.set_cons_zero, List.set_cons_succ]
          with_reducible apply wpV_light
          · simp only [lightOp]
          · intro W hU hF
            have f0 := CS.out W hU
            clear hU hF
            go_simp
            exact rfl
          simp only [Act.put, List.setIfInBounds_toArray, List.set_cons_zero, List.set_cons_succ]
          with_reducible apply wpV_light
          · simp only [lightOp]
          · intro W hU hF
            have f0 := CS.out W hU
            clear hU hF
            go_simp
            exact rfl
          simp only [Act.put, List.setIfInBounds_toArray, List.set_cons_zero, List.set_cons_succ]
          with_reducible apply wpV_light
          · simp only [lightOp]
          · intro W hU hF
            have f0 := CS.out W hU
            clear hU hF
            go_simp
            exact rfl
          simp only [Act.put, List.setIfInBounds_toArray, List.set_cons_zero, List.set_cons_succ]
          with_reducible apply wpV_light
          · simp only [lightOp]
          · intro W hU hF
            have f0 := CS.out W hU
            clear hU hF
            go_simp
            exact rfl
          simp only [Act.put, List.setIfInBounds_toArray, List.set_cons_zero, List.set_cons_succ]
          with_reducible apply wpV_light
          · simp only [lightOp]
          · intro W hU hF
            have f0 := CS.out W hU
            clear hU hF
            go_simp
            exact rfl
          simp only [Act.put, List.setIfInBounds_toArray, List.set_cons_zero, List.set_cons_succ]
          with_reducible apply wpV_light
          · simp only [lightOp]
          · intro W hU hF
            have f0 := CS.out W hU
            clear hU hF
            go_simp
            exact rfl
          simp only [Act.put, List.setIfInBounds_toArray, List.set_cons_zero, List.set_cons_succ]
          refine wpV_heavy (by simp only [lightOp]) (by rfl) (fun W hU hk hF K hK => ?_) ?_
          · go_wp2_with fail
            refine (q_all w.heap.size qb p mb ts6 _ (BX.out.upd0 ((Upd.refl [] _).drew.trans hU)).q).mono ?_; rintro e w2 ⟨va, rfl, oa, ua⟩
            go_wp2_with fail
            refine hK.out _ _ (outV_new rfl ?_ (by intro b hb; exact own_lt oa (by simpa [mkI, specOf, Spec.own] using hb)) ua)
            have oo := own_base oa (Nat.zero_le _)
            rw [HM.out, HSS.out] at oo
            exact oo
          rintro _ ⟨AV, cV, rfl, _, _⟩
          simp only [Act.put, List.setIfInBounds_toArray, List.set_cons_zero, List.set_cons_succ]
          with_reducible apply wpV_light
          · simp only [lightOp]
          · intro W hU hF
            have f0 := CS.out W hU
            clear hU hF
            go_simp
            exact rfl
          simp only [Act.put, List.setIfInBounds_toArray, List.set_cons_zero, List.set_cons_succ]
          with_reducible apply wpV_light
          · simp only [lightOp]
          · intro W hU hF
            have f0 := CS.out W hU
            clear hU hF
            go_simp
            exact rfl
          simp only [Act.put, List.setIfInBounds_toArray, List.set_cons_zero, List.set_cons_succ]
          with_reducible apply wpV_light
          · simp only [lightOp]
          · intro W hU hF
            have f0 := CS.out W hU
            clear hU hF
            go_simp
            exact rfl
          simp only [Act.put, List.setIfInBounds_toArray, List.set_cons_zero, List.set_cons_succ]
          with_reducible apply wpV_light
          · simp only [lightOp]
          · intro W hU hF
            have f0 := CS.out W hU
            clear hU hF
            go_simp
            exact rfl
          simp only [Act.put, List.setIfInBounds_toArray, List.set_cons_zero, List.set_cons_succ]
          refine wpV_heavy (by simp only [lightOp]) (by rfl) (fun W hU hk hF K hK => ?_) ?_
          · go_wp2_with fail
            have oa := hF.out.2.2.1 (by kernel_rfl)
            refine (same_ok 0 0 S6 S6 (.slice AV m cV) (.slice (some (⟨gR, 0, none⟩ : Addr)) m cR) _ (by rw [HMS.out]; exact oa) (by rw [HMS.out]; exact own_upd0 OX.out ((Upd.refl [] _).drew.trans hU)) (by rw [HMS.out]; omega) (by rw [HMS.out]; omega)).mono ?_; rintro e w2 ⟨rfl, u2⟩
            rw [decide_eq_true rfl]
            go_wp2_with fail
            exact hK.out _ _ (outV_new rfl rfl (by intro b hb; cases hb) u2)
          rintro _ rfl
          simp only [Act.put, List.setIfInBounds_toArray, List.set_cons_zero, List.set_cons_succ]
          with_reducible apply wpV_light
          · simp only [lightOp]
          · intro W hU hF
            have f0 := CS.out W hU
            clear hU hF
            go_simp
            exact rfl
          simp only [Act.put, List.setIfInBounds_toArray, List.set_cons_zero, List.set_cons_succ]
          with_reducible apply wpV_light
          · simp only [lightOp]
          · intro W hU hF
            have f0 := CS.out W hU
            clear hU hF
            go_simp
            exact rfl
          simp only [Act.put, List.setIfInBounds_toArray, List.set_cons_zero, List.set_cons_succ]
          refine wpV_end (fun W hU _ _ => ?_)
          have U8 : Hid (Upd [] w W) := Lib.hid (UX.out.trans ((Upd.refl [] _).drew.trans hU))
          have B8 := Lib.hid (BX.out.upd0 ((Upd.refl [] _).drew.trans hU))
          clear hU
          refine wpT_end ?_
          go_wp2_with fail
          go_roundw
          case rel => exact ⟨k + 1, by go_num, by omega, Lib.hid ⟨_, _, B8.out, U8.out, U8.out⟩⟩
          case measure => simp [intOf]; omega
      · go_wp2_with fail
        go_ret
        exact ⟨rfl, UU.out⟩
end Go.Proofs.YtainiojlhdbhgaaDoor

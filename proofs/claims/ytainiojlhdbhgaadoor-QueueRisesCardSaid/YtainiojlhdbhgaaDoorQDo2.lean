/-
  concordlaw04.do: a call of the queue and of the document's list: the walk.
-/
import Derived.Test.YtainiojlhdbhgaaDoorQDo
set_option linter.unusedVariables false
namespace Go.Proofs.YtainiojlhdbhgaaDoor
open Go.RowKit HeapPlain
attribute [local go_sem] litStep_value

def DoPost (B qb p mb rb : Nat) (w0 : World) (e : Ending) (w' : World) : Prop := e = .returned (.bool true) ∧ ∃ us S, Both B qb p mb rb w' us S ∧ Upd [] w0 w'
theorem FrT.base {B p mb : Nat} {w0 w w1 : World} {ts : List Tm} (h : TimSt B p mb w ts) (hB : w0.heap.size ≤ B) (hu : Upd [] w0 w) (hf : FrT p mb w w1) : Upd [] w0 w1 := hf.1.to_upd hu (fun x hx => Nat.le_trans hB (h.own_lt hx).1)
theorem ErrV.updR {w w' : World} {v : Value} {n a : Int} {rb : Nat} {cs : Array Value} (h : ErrV w v n a) (hb : Blk w rb 47 cs) (hu : Upd [rb] w w') : ErrV w' v n a := by
  rcases h with h | h | ⟨g, h1, h2, h3, h4⟩
  · exact .inl h
  · exact .inr (.inl h)
  · exact .inr (.inr ⟨g, h1, h2.upd hu (by simp; exact Blk.ne_ h2 hb (by decide)), h3, h4⟩)
theorem pushE_cases (S : List Tm) (x : Tm) : (pushE S x = 0 ∧ hasT S x.id = false) ∨ (pushE S x = 7 ∧ hasT S x.id = true) ∨ (pushE S x = 8 ∧ hasT S x.id = false) := by
  unfold pushE
  cases hasT S x.id with
  | true => simp
  | false =>
    simp
    omega

set_option maxRecDepth 100000 in
set_option maxHeartbeats 8000000 in
theorem do_push0 (B qb p mb rb : Nat) (ts S : List Tm) (k wn id : Int) (w0 w : World) (h : Both B qb p mb rb w ts S) (hu0 : Upd [] w0 w) (hg : Typed w0) (hB : w0.heap.size ≤ B) (hrb : w0.heap.size ≤ rb) (hBw : B ≤ w.heap.size) (d0 : (k == 0) = true) :
    Calls Tryd.prog 20 #[.pointer (some ⟨qb, 0, none⟩), .pointer (some ⟨rb, 0, none⟩), .agg #[.int .i64 k, .int .i64 wn, .int .i64 id]] w fun e w' => DoPost B qb p mb rb w0 e w' := by
  have H := Lib.hid h
  have HG := Lib.hid hg
  have HU0 := Lib.hid hu0
  have HB := Lib.hid hB
  have HRB := Lib.hid hrb
  have HBW := Lib.hid hBw
  clear h hg hu0 hB hrb hBw
  go_enter Tryd.func20, Tryd.ntmps20
  go_wp2_with fail
  have UA : Hid (Upd [] w (w.alloc (.cells #[.int .i64 k, .int .i64 wn, .int .i64 id] 49))) := Lib.hid ((Upd.refl [] w).alloc _)
  have YA : Hid (Blk (w.alloc (.cells #[.int .i64 k, .int .i64 wn, .int .i64 id] 49)) w.heap.size 49 #[.int .i64 k, .int .i64 wn, .int .i64 id]) := Lib.hid (Blk.new w _ _)
  generalize (w.alloc (.cells #[.int .i64 k, .int .i64 wn, .int .i64 id] 49)) = w1 at *
  have H1 := Lib.hid (H.out.upd0 UA.out)
  have HU1 := Lib.hid (HU0.out.trans UA.out)
  have HBW1 : Hid (B ≤ w1.heap.size) := Lib.hid (Nat.le_trans HBW.out UA.out.size)
  have NRB : Hid (w.heap.size ≠ rb) := Lib.hid (by
    obtain ⟨v, hb, _⟩ := H.out.r
    have := hb.lt
    omega)
  have y1 : w1.cell? ⟨w.heap.size, 1, none⟩ = some (.int .i64 wn) := YA.out.cell 1
  have y2 : w1.cell? ⟨w.heap.size, 2, none⟩ = some (.int .i64 id) := YA.out.cell 2
  have HD := Lib.hid (H1.out.upd0 (Upd.refl [] w1).drew)
  have YD := Lib.hid YA.out.drew
  go_region_held3 (fun W => W.cell? ⟨w.heap.size, 1, none⟩ = some (.int .i64 wn) ∧ W.cell? ⟨w.heap.size, 2, none⟩ = some (.int .i64 id)) (first | exact ⟨x1, x2⟩ | exact ⟨z1, z2⟩ | exact ⟨y1, y2⟩) (first | (go_at_call 11; refine (q_push B qb p mb ts ⟨wn, id⟩ _ HD.out.q HD.out.tlen HBW1.out).mono ?_; rintro e w2 ⟨va, us, rfl, ea, q2, p2, f2⟩; have YQ : Hid (Blk w2 w.heap.size 49 #[.int .i64 k, .int .i64 wn, .int .i64 id]) := Lib.hid (YD.out.updP f2.1 (HD.out.q.off YD.out (by decide) (by decide))); have Q2 := Lib.hid q2; have P2 := Lib.hid p2; have F2 := Lib.hid f2; have EA := Lib.hid ea; clear q2 p2 f2 ea; obtain ⟨z1, z2⟩ : w2.cell? ⟨w.heap.size, 1, none⟩ = some (.int .i64 wn) ∧ w2.cell? ⟨w.heap.size, 2, none⟩ = some (.int .i64 id) := ⟨YQ.out.cell 1, YQ.out.cell 2⟩; have RM : Hid (RSt 0 rb w2 S) := Lib.hid (by obtain ⟨v, h1, h2, _⟩ := HD.out.mid F2.out; exact ⟨v, h1, h2⟩)) | (go_at_call 33; refine (rpush_ok 0 rb S ⟨wn, id⟩ _ RM.out H1.out.len).mono ?_; rintro e w3 ⟨rfl, r3, u3⟩; have YQ3 : Hid (Blk w3 w.heap.size 49 #[.int .i64 k, .int .i64 wn, .int .i64 id]) := Lib.hid (YQ.out.upd u3 (by simp; exact NRB.out)); have R3 := Lib.hid r3; have U3 := Lib.hid u3; clear r3 u3; obtain ⟨x1, x2⟩ : w3.cell? ⟨w.heap.size, 1, none⟩ = some (.int .i64 wn) ∧ w3.cell? ⟨w.heap.size, 2, none⟩ = some (.int .i64 id) := ⟨YQ3.out.cell 1, YQ3.out.cell 2⟩))
  have EV0 : Hid (ErrV w3 va (pushE S ⟨wn, id⟩) (if hasT S id then id else 0)) := Lib.hid (by
    have := EA.out
    rw [pushE_perm HD.out.perm, hasT_perm HD.out.perm] at this
    obtain ⟨v, hb, _⟩ := RM.out
    exact this.updR hb U3.out)
  have BW0 := Lib.hid (HD.out.push Q2.out F2.out P2.out R3.out U3.out)
  have UW : Hid (Upd [] w0 w3) := Lib.hid ((FrT.base HD.out.q.tim HB.out HU1.out.drew F2.out).trans' U3.out (by intro x hx; simp at hx; subst hx; exact .inr HRB.out))
  have YW := YQ3
  try clear hHeld
  clear y1 y2 z1 z2 x1 x2 EA R3 U3 RM YQ YQ3 P2 Q2 F2 HD YD UA YA H1 HU1 HBW1 NRB
  generalize w3 = W at *
  obtain ⟨us', S', BW'⟩ := BW0.out
  have BW := Lib.hid BW'
  clear BW' BW0
  rcases pushE_cases S ⟨wn, id⟩ with ⟨e1, e2⟩ | ⟨e1, e2⟩ | ⟨e1, e2⟩
  · have EV : Hid (ErrV W va 0 0) := Lib.hid (by have := EV0.out; rw [e1, show hasT S id = false from e2] at this; exact this)
    rw [e1]
    clear e1 e2 EV0
    have CB : Hid (∀ W', Upd [] W.drew W' → W'.cell? ⟨w.heap.size, 2, none⟩ = some (.int .i64 id)) := Lib.hid (fun W' hW => (YW.out.upd ((Upd.refl [] W).drew.trans hW) (by simp)).cell 2)
    try clear y1 y2
    go_wp2_with fail
    refine wp_invN [(1, .det (.int .i64 0))] [] (by kernel_rfl) (by kernel_rfl) (by kernel_rfl) ⟨lasts_det _, trivial⟩ ?_
    with_reducible apply wpV_light
    · simp only [lightOp]
    · intro W hU hF
      have f0 := CB.out W hU
      clear hU hF
      go_simp
      exact rfl
    simp only [Act.put, List.setIfInBounds_toArray, List.set_cons_zero, List.set_cons_succ]
    refine wpV_heavy (by simp only [lightOp]) (by rfl) (fun W hU hk hF K hK => ?_) ?_
    · go_wp2_with fail
      refine (no_err (EV.out.upd ((Upd.refl [] _).drew.trans hU))).mono ?_; rintro e w2 ⟨rfl, rfl⟩
      go_wp2_with fail
      exact hK.out _ _ (outV_new rfl rfl (by intro b hb; cases hb) (.refl _ _))
    rintro _ rfl
    simp only [Act.put, List.setIfInBounds_toArray, List.set_cons_zero, List.set_cons_succ]
    with_reducible apply wpV_light
    · simp only [lightOp]
    · intro W hU hF
      have f0 := CB.out W hU
      clear hU hF
      go_simp
      exact rfl
    simp only [Act.put, List.setIfInBounds_toArray, List.set_cons_zero, List.set_cons_succ]
    with_reducible apply wpV_light
    · simp only [lightOp]
    · intro W hU hF
      have f0 := CB.out W hU
      clear hU hF
      go_simp
      exact rfl
    simp only [Act.put, List.setIfInBounds_toArray, List.set_cons_zero, List.set_cons_succ]
    with_reducible apply wpV_light
    · simp only [lightOp]
    · intro W hU hF
      have f0 := CB.out W hU
      clear hU hF
      go_simp
      exact rfl
    simp only [Act.put, List.setIfInBounds_toArray, List.set_cons_zero, List.set_cons_succ]
    with_reducible apply wpV_light
    · simp only [lightOp]
    · intro W hU hF
      have f0 := CB.out W hU
      clear hU hF
      go_simp
      exact rfl
    simp only [Act.put, List.setIfInBounds_toArray, List.set_cons_zero, List.set_cons_succ]
    with_reducible apply wpV_light
    · simp only [lightOp]
    · intro W hU hF
      have f0 := CB.out W hU
      clear hU hF
      go_simp
      exact rfl
    simp only [Act.put, List.setIfInBounds_toArray, List.set_cons_zero, List.set_cons_succ]
    with_reducible apply wpV_light
    · simp only [lightOp]
    · intro W hU hF
      have f0 := CB.out W hU
      clear hU hF
      go_simp
      exact rfl
    simp only [Act.put, List.setIfInBounds_toArray, List.set_cons_zero, List.set_cons_succ]
    with_reducible apply wpV_light
    · simp only [lightOp]
    · intro W hU hF
      have f0 := CB.out W hU
      clear hU hF
      go_simp
      exact rfl
    simp only [Act.put, List.setIfInBounds_toArray, List.set_cons_zero, List.set_cons_succ]
    with_reducible apply wpV_light
    · simp only [lightOp]
    · intro W hU hF
      have f0 := CB.out W hU
      clear hU hF
      go_simp
      exact rfl
    simp only [Act.put, List.setIfInBounds_toArray, List.set_cons_zero, List.set_cons_succ]
    with_reducible apply wpV_light
    · simp only [lightOp]
    · intro W hU hF
      have f0 := CB.out W hU
      clear hU hF
      go_simp
      exact rfl
    simp only [Act.put, List.setIfInBounds_toArray, List.set_cons_zero, List.set_cons_succ]
    with_reducible apply wpV_light
    · simp only [lightOp]
    · intro W hU hF
      have f0 := CB.out W hU
      clear hU hF
      go_simp
      exact rfl
    simp only [Act.put, List.setIfInBounds_toArray, List.set_cons_zero, List.set_cons_succ]
    refine wpV_skip (by rfl) (by simp only [lightOp]) ?_
    simp only [Act.put, List.setIfInBounds_toArray, List.set_cons_zero, List.set_cons_succ]
    refine wpV_heavySkip (by simp only [lightOp]) (by rfl) (fun W hU hk => outV_new rfl trivial (by intro b hb; cases hb) (.refl _ _)) ?_
    rintro _ trivial
    simp only [Act.put, List.setIfInBounds_toArray, List.set_cons_zero, List.set_cons_succ]
    refine wpV_skip (by rfl) (by simp only [lightOp]) ?_
    simp only [Act.put, List.setIfInBounds_toArray, List.set_cons_zero, List.set_cons_succ]
    refine wpV_skip (by rfl) (by simp only [lightOp]) ?_
    simp only [Act.put, List.setIfInBounds_toArray, List.set_cons_zero, List.set_cons_succ]
    refine wpV_skip (by rfl) (by simp only [lightOp]) ?_
    simp only [Act.put, List.setIfInBounds_toArray, List.set_cons_zero, List.set_cons_succ]
    refine wpV_skip (by rfl) (by simp only [lightOp]) ?_
    simp only [Act.put, List.setIfInBounds_toArray, List.set_cons_zero, List.set_cons_succ]
    with_reducible apply wpV_light
    · simp only [lightOp]
    · intro W hU hF
      have f0 := CB.out W hU
      clear hU hF
      go_simp
      exact rfl
    simp only [Act.put, List.setIfInBounds_toArray, List.set_cons_zero, List.set_cons_succ]
    with_reducible apply wpV_light
    · simp only [lightOp]
    · intro W hU hF
      have f0 := CB.out W hU
      clear hU hF
      go_simp
      exact rfl
    simp only [Act.put, List.setIfInBounds_toArray, List.set_cons_zero, List.set_cons_succ]
    with_reducible apply wpV_light
    · simp only [lightOp]
    · intro W hU hF
      have f0 := CB.out W hU
      clear hU hF
      go_simp
      exact rfl
    simp only [Act.put, List.setIfInBounds_toArray, List.set_cons_zero, List.set_cons_succ]
    refine wpV_end (fun W' hU _ _ => ?_)
    have U3 : Hid (Upd [] W W') := Lib.hid ((Upd.refl [] W).drew.trans hU)
    clear hU
    refine wpT_end ?_
    go_wp2_with fail
    go_ret
    unfold DoPost
    exact ⟨rfl, _, _, BW.out.upd0 U3.out, UW.out.trans U3.out⟩
  · have EV : Hid (ErrV W va 7 id) := Lib.hid (by have := EV0.out; rw [e1, show hasT S id = true from e2] at this; exact this)
    rw [e1]
    clear e1 e2 EV0
    have CB : Hid (∀ W', Upd [] W.drew W' → W'.cell? ⟨w.heap.size, 2, none⟩ = some (.int .i64 id)) := Lib.hid (fun W' hW => (YW.out.upd ((Upd.refl [] W).drew.trans hW) (by simp)).cell 2)
    try clear y1 y2
    go_wp2_with fail
    refine wp_invN [(1, .det (.int .i64 7)), (13, .det (.int .i64 id))] [] (by kernel_rfl) (by kernel_rfl) (by kernel_rfl) ⟨lasts_det _, lasts_det _, trivial⟩ ?_
    with_reducible apply wpV_light
    · simp only [lightOp]
    · intro W hU hF
      have f0 := CB.out W hU
      clear hU hF
      go_simp
      exact rfl
    simp only [Act.put, List.setIfInBounds_toArray, List.set_cons_zero, List.set_cons_succ]
    refine wpV_heavy (by simp only [lightOp]) (by rfl) (fun W hU hk hF K hK => ?_) ?_
    · go_wp2_with fail
      refine (no_err (EV.out.upd ((Upd.refl [] _).drew.trans hU))).mono ?_; rintro e w2 ⟨rfl, rfl⟩
      go_wp2_with fail
      exact hK.out _ _ (outV_new rfl rfl (by intro b hb; cases hb) (.refl _ _))
    rintro _ rfl
    simp only [Act.put, List.setIfInBounds_toArray, List.set_cons_zero, List.set_cons_succ]
    with_reducible apply wpV_light
    · simp only [lightOp]
    · intro W hU hF
      have f0 := CB.out W hU
      clear hU hF
      go_simp
      exact rfl
    simp only [Act.put, List.setIfInBounds_toArray, List.set_cons_zero, List.set_cons_succ]
    with_reducible apply wpV_light
    · simp only [lightOp]
    · intro W hU hF
      have f0 := CB.out W hU
      clear hU hF
      go_simp
      exact rfl
    simp only [Act.put, List.setIfInBounds_toArray, List.set_cons_zero, List.set_cons_succ]
    with_reducible apply wpV_light
    · simp only [lightOp]
    · intro W hU hF
      have f0 := CB.out W hU
      clear hU hF
      go_simp
      exact rfl
    simp only [Act.put, List.setIfInBounds_toArray, List.set_cons_zero, List.set_cons_succ]
    with_reducible apply wpV_light
    · simp only [lightOp]
    · intro W hU hF
      have f0 := CB.out W hU
      clear hU hF
      go_simp
      exact rfl
    simp only [Act.put, List.setIfInBounds_toArray, List.set_cons_zero, List.set_cons_succ]
    with_reducible apply wpV_light
    · simp only [lightOp]
    · intro W hU hF
      have f0 := CB.out W hU
      clear hU hF
      go_simp
      exact rfl
    simp only [Act.put, List.setIfInBounds_toArray, List.set_cons_zero, List.set_cons_succ]
    with_reducible apply wpV_light
    · simp only [lightOp]
    · intro W hU hF
      have f0 := CB.out W hU
      clear hU hF
      go_simp
      exact rfl
    simp only [Act.put, List.setIfInBounds_toArray, List.set_cons_zero, List.set_cons_succ]
    refine wpV_skip (by rfl) (by simp only [lightOp]) ?_
    simp only [Act.put, List.setIfInBounds_toArray, List.set_cons_zero, List.set_cons_succ]
    refine wpV_skip (by rfl) (by simp only [lightOp]) ?_
    simp only [Act.put, List.setIfInBounds_toArray, List.set_cons_zero, List.set_cons_succ]
    with_reducible apply wpV_light
    · simp only [lightOp]
    · intro W hU hF
      have f0 := CB.out W hU
      clear hU hF
      go_simp
      exact rfl
    simp only [Act.put, List.setIfInBounds_toArray, List.set_cons_zero, List.set_cons_succ]
    with_reducible apply wpV_light
    · simp only [lightOp]
    · intro W hU hF
      have f0 := CB.out W hU
      clear hU hF
      go_simp
      exact rfl
    simp only [Act.put, List.setIfInBounds_toArray, List.set_cons_zero, List.set_cons_succ]
    with_reducible apply wpV_light
    · simp only [lightOp]
    · intro W hU hF
      have f0 := CB.out W hU
      clear hU hF
      go_simp
      exact rfl
    simp only [Act.put, List.setIfInBounds_toArray, List.set_cons_zero, List.set_cons_succ]
    refine wpV_heavy (by simp only [lightOp]) (by rfl) (fun W hU hk hF K hK => ?_) ?_
    · go_wp2_with fail
      refine (place_err (EV.out.upd ((Upd.refl [] _).drew.trans hU)) (HG.out.upd (UW.out.trans ((Upd.refl [] _).drew.trans hU)) (by simp))).mono ?_; rintro e w2 ⟨rfl, u2⟩
      go_wp2_with fail
      exact hK.out _ _ (outV_new rfl rfl (by intro b hb; cases hb) u2)
    rintro _ rfl
    simp only [Act.put, List.setIfInBounds_toArray, List.set_cons_zero, List.set_cons_succ]
    with_reducible apply wpV_light
    · simp only [lightOp]
    · intro W hU hF
      have f0 := CB.out W hU
      clear hU hF
      go_simp
      exact rfl
    simp only [Act.put, List.setIfInBounds_toArray, List.set_cons_zero, List.set_cons_succ]
    with_reducible apply wpV_light
    · simp only [lightOp]
    · intro W hU hF
      have f0 := CB.out W hU
      clear hU hF
      go_simp
      exact rfl
    simp only [Act.put, List.setIfInBounds_toArray, List.set_cons_zero, List.set_cons_succ]
    with_reducible apply wpV_light
    · simp only [lightOp]
    · intro W hU hF
      have f0 := CB.out W hU
      clear hU hF
      go_simp
      exact rfl
    simp only [Act.put, List.setIfInBounds_toArray, List.set_cons_zero, List.set_cons_succ]
    with_reducible apply wpV_light
    · simp only [lightOp]
    · intro W hU hF
      have f0 := CB.out W hU
      clear hU hF
      go_simp
      exact rfl
    simp only [Act.put, List.setIfInBounds_toArray, List.set_cons_zero, List.set_cons_succ]
    with_reducible apply wpV_light
    · simp only [lightOp]
    · intro W hU hF
      have f0 := CB.out W hU
      clear hU hF
      go_simp
      exact rfl
    simp only [Act.put, List.setIfInBounds_toArray, List.set_cons_zero, List.set_cons_succ]
    with_reducible apply wpV_light
    · simp only [lightOp]
    · intro W hU hF
      have f0 := CB.out W hU
      clear hU hF
      go_simp
      exact rfl
    simp only [Act.put, List.setIfInBounds_toArray, List.set_cons_zero, List.set_cons_succ]
    with_reducible apply wpV_light
    · simp only [lightOp]
    · intro W hU hF
      have f0 := CB.out W hU
      clear hU hF
      go_simp
      exact rfl
    simp only [Act.put, List.setIfInBounds_toArray, List.set_cons_zero, List.set_cons_succ]
    refine wpV_end (fun W' hU _ _ => ?_)
    have U3 : Hid (Upd [] W W') := Lib.hid ((Upd.refl [] W).drew.trans hU)
    clear hU
    refine wpT_end ?_
    go_wp2_with fail
    go_ret
    unfold DoPost
    exact ⟨rfl, _, _, BW.out.upd0 U3.out, UW.out.trans U3.out⟩
  · have EV : Hid (ErrV W va 8 0) := Lib.hid (by have := EV0.out; rw [e1, show hasT S id = false from e2] at this; exact this)
    rw [e1]
    clear e1 e2 EV0
    have CB : Hid (∀ W', Upd [] W.drew W' → W'.cell? ⟨w.heap.size, 2, none⟩ = some (.int .i64 id)) := Lib.hid (fun W' hW => (YW.out.upd ((Upd.refl [] W).drew.trans hW) (by simp)).cell 2)
    try clear y1 y2
    go_wp2_with fail
    refine wp_invN [(1, .det (.int .i64 8))] [] (by kernel_rfl) (by kernel_rfl) (by kernel_rfl) ⟨lasts_det _, trivial⟩ ?_
    with_reducible apply wpV_light
    · simp only [lightOp]
    · intro W hU hF
      have f0 := CB.out W hU
      clear hU hF
      go_simp
      exact rfl
    simp only [Act.put, List.setIfInBounds_toArray, List.set_cons_zero, List.set_cons_succ]
    refine wpV_heavy (by simp only [lightOp]) (by rfl) (fun W hU hk hF K hK => ?_) ?_
    · go_wp2_with fail
      refine (no_err (EV.out.upd ((Upd.refl [] _).drew.trans hU))).mono ?_; rintro e w2 ⟨rfl, rfl⟩
      go_wp2_with fail
      exact hK.out _ _ (outV_new rfl rfl (by intro b hb; cases hb) (.refl _ _))
    rintro _ rfl
    simp only [Act.put, List.setIfInBounds_toArray, List.set_cons_zero, List.set_cons_succ]
    with_reducible apply wpV_light
    · simp only [lightOp]
    · intro W hU hF
      have f0 := CB.out W hU
      clear hU hF
      go_simp
      exact rfl
    simp only [Act.put, List.setIfInBounds_toArray, List.set_cons_zero, List.set_cons_succ]
    with_reducible apply wpV_light
    · simp only [lightOp]
    · intro W hU hF
      have f0 := CB.out W hU
      clear hU hF
      go_simp
      exact rfl
    simp only [Act.put, List.setIfInBounds_toArray, List.set_cons_zero, List.set_cons_succ]
    with_reducible apply wpV_light
    · simp only [lightOp]
    · intro W hU hF
      have f0 := CB.out W hU
      clear hU hF
      go_simp
      exact rfl
    simp only [Act.put, List.setIfInBounds_toArray, List.set_cons_zero, List.set_cons_succ]
    with_reducible apply wpV_light
    · simp only [lightOp]
    · intro W hU hF
      have f0 := CB.out W hU
      clear hU hF
      go_simp
      exact rfl
    simp only [Act.put, List.setIfInBounds_toArray, List.set_cons_zero, List.set_cons_succ]
    with_reducible apply wpV_light
    · simp only [lightOp]
    · intro W hU hF
      have f0 := CB.out W hU
      clear hU hF
      go_simp
      exact rfl
    simp only [Act.put, List.setIfInBounds_toArray, List.set_cons_zero, List.set_cons_succ]
    with_reducible apply wpV_light
    · simp only [lightOp]
    · intro W hU hF
      have f0 := CB.out W hU
      clear hU hF
      go_simp
      exact rfl
    simp only [Act.put, List.setIfInBounds_toArray, List.set_cons_zero, List.set_cons_succ]
    with_reducible apply wpV_light
    · simp only [lightOp]
    · intro W hU hF
      have f0 := CB.out W hU
      clear hU hF
      go_simp
      exact rfl
    simp only [Act.put, List.setIfInBounds_toArray, List.set_cons_zero, List.set_cons_succ]
    with_reducible apply wpV_light
    · simp only [lightOp]
    · intro W hU hF
      have f0 := CB.out W hU
      clear hU hF
      go_simp
      exact rfl
    simp only [Act.put, List.setIfInBounds_toArray, List.set_cons_zero, List.set_cons_succ]
    with_reducible apply wpV_light
    · simp only [lightOp]
    · intro W hU hF
      have f0 := CB.out W hU
      clear hU hF
      go_simp
      exact rfl
    simp only [Act.put, List.setIfInBounds_toArray, List.set_cons_zero, List.set_cons_succ]
    with_reducible apply wpV_light
    · simp only [lightOp]
    · intro W hU hF
      have f0 := CB.out W hU
      clear hU hF
      go_simp
      exact rfl
    simp only [Act.put, List.setIfInBounds_toArray, List.set_cons_zero, List.set_cons_succ]
    refine wpV_skip (by rfl) (by simp only [lightOp]) ?_
    simp only [Act.put, List.setIfInBounds_toArray, List.set_cons_zero, List.set_cons_succ]
    refine wpV_heavySkip (by simp only [lightOp]) (by rfl) (fun W hU hk => outV_new rfl trivial (by intro b hb; cases hb) (.refl _ _)) ?_
    rintro _ trivial
    simp only [Act.put, List.setIfInBounds_toArray, List.set_cons_zero, List.set_cons_succ]
    refine wpV_skip (by rfl) (by simp only [lightOp]) ?_
    simp only [Act.put, List.setIfInBounds_toArray, List.set_cons_zero, List.set_cons_succ]
    refine wpV_skip (by rfl) (by simp only [lightOp]) ?_
    simp only [Act.put, List.setIfInBounds_toArray, List.set_cons_zero, List.set_cons_succ]
    refine wpV_skip (by rfl) (by simp only [lightOp]) ?_
    simp only [Act.put, List.setIfInBounds_toArray, List.set_cons_zero, List.set_cons_succ]
    refine wpV_skip (by rfl) (by simp only [lightOp]) ?_
    simp only [Act.put, List.setIfInBounds_toArray, List.set_cons_zero, List.set_cons_succ]
    with_reducible apply wpV_light
    · simp only [lightOp]
    · intro W hU hF
      have f0 := CB.out W hU
      clear hU hF
      go_simp
      exact rfl
    simp only [Act.put, List.setIfInBounds_toArray, List.set_cons_zero, List.set_cons_succ]
    with_reducible apply wpV_light
    · simp only [lightOp]
    · intro W hU hF
      have f0 := CB.out W hU
      clear hU hF
      go_simp
      exact rfl
    simp only [Act.put, List.setIfInBounds_toArray, List.set_cons_zero, List.set_cons_succ]
    with_reducible apply wpV_light
    · simp only [lightOp]
    · intro W hU hF
      have f0 := CB.out W hU
      clear hU hF
      go_simp
      exact rfl
    simp only [Act.put, List.setIfInBounds_toArray, List.set_cons_zero, List.set_cons_succ]
    refine wpV_end (fun W' hU _ _ => ?_)
    have U3 : Hid (Upd [] W W') := Lib.hid ((Upd.refl [] W).drew.trans hU)
    clear hU
    refine wpT_end ?_
    go_wp2_with fail
    go_ret
    unfold DoPost
    exact ⟨rfl, _, _, BW.out.upd0 U3.out, UW.out.trans U3.out⟩
set_option maxRecDepth 100000 in
set_option maxHeartbeats 8000000 in
theorem do_push1 (B qb p mb rb : Nat) (ts S : List Tm) (k wn id : Int) (w0 w : World) (h : Both B qb p mb rb w ts S) (hu0 : Upd [] w0 w) (hg : Typed w0) (hB : w0.heap.size ≤ B) (hrb : w0.heap.size ≤ rb) (hBw : B ≤ w.heap.size) (d0 : (k == 0) = false) (d1 : (k == 1) = true) :
    Calls Tryd.prog 20 #[.pointer (some ⟨qb, 0, none⟩), .pointer (some ⟨rb, 0, none⟩), .agg #[.int .i64 k, .int .i64 wn, .int .i64 id]] w fun e w' => DoPost B qb p mb rb w0 e w' := by
  have H := Lib.hid h
  have HG := Lib.hid hg
  have HU0 := Lib.hid hu0
  have HB := Lib.hid hB
  have HRB := Lib.hid hrb
  have HBW := Lib.hid hBw
  clear h hg hu0 hB hrb hBw
  go_enter Tryd.func20, Tryd.ntmps20
  go_wp2_with fail
  have UA : Hid (Upd [] w (w.alloc (.cells #[.int .i64 k, .int .i64 wn, .int .i64 id] 49))) := Lib.hid ((Upd.refl [] w).alloc _)
  have YA : Hid (Blk (w.alloc (.cells #[.int .i64 k, .int .i64 wn, .int .i64 id] 49)) w.heap.size 49 #[.int .i64 k, .int .i64 wn, .int .i64 id]) := Lib.hid (Blk.new w _ _)
  generalize (w.alloc (.cells #[.int .i64 k, .int .i64 wn, .int .i64 id] 49)) = w1 at *
  have H1 := Lib.hid (H.out.upd0 UA.out)
  have HU1 := Lib.hid (HU0.out.trans UA.out)
  have HBW1 : Hid (B ≤ w1.heap.size) := Lib.hid (Nat.le_trans HBW.out UA.out.size)
  have NRB : Hid (w.heap.size ≠ rb) := Lib.hid (by
    obtain ⟨v, hb, _⟩ := H.out.r
    have := hb.lt
    omega)
  have y1 : w1.cell? ⟨w.heap.size, 1, none⟩ = some (.int .i64 wn) := YA.out.cell 1
  have y2 : w1.cell? ⟨w.heap.size, 2, none⟩ = some (.int .i64 id) := YA.out.cell 2
  have HD := Lib.hid (H1.out.upd0 (Upd.refl [] w1).drew)
  have YD := Lib.hid YA.out.drew
  go_region_held3 (fun W => W.cell? ⟨w.heap.size, 1, none⟩ = some (.int .i64 wn) ∧ W.cell? ⟨w.heap.size, 2, none⟩ = some (.int .i64 id)) (first | exact ⟨x1, x2⟩ | exact ⟨z1, z2⟩ | exact ⟨y1, y2⟩) (first | (go_at_call 11; refine (q_push B qb p mb ts ⟨wn, id⟩ _ HD.out.q HD.out.tlen HBW1.out).mono ?_; rintro e w2 ⟨va, us, rfl, ea, q2, p2, f2⟩; have YQ : Hid (Blk w2 w.heap.size 49 #[.int .i64 k, .int .i64 wn, .int .i64 id]) := Lib.hid (YD.out.updP f2.1 (HD.out.q.off YD.out (by decide) (by decide))); have Q2 := Lib.hid q2; have P2 := Lib.hid p2; have F2 := Lib.hid f2; have EA := Lib.hid ea; clear q2 p2 f2 ea; obtain ⟨z1, z2⟩ : w2.cell? ⟨w.heap.size, 1, none⟩ = some (.int .i64 wn) ∧ w2.cell? ⟨w.heap.size, 2, none⟩ = some (.int .i64 id) := ⟨YQ.out.cell 1, YQ.out.cell 2⟩; have RM : Hid (RSt 0 rb w2 S) := Lib.hid (by obtain ⟨v, h1, h2, _⟩ := HD.out.mid F2.out; exact ⟨v, h1, h2⟩)) | (go_at_call 33; refine (rpush_ok 0 rb S ⟨wn, id⟩ _ RM.out H1.out.len).mono ?_; rintro e w3 ⟨rfl, r3, u3⟩; have YQ3 : Hid (Blk w3 w.heap.size 49 #[.int .i64 k, .int .i64 wn, .int .i64 id]) := Lib.hid (YQ.out.upd u3 (by simp; exact NRB.out)); have R3 := Lib.hid r3; have U3 := Lib.hid u3; clear r3 u3; obtain ⟨x1, x2⟩ : w3.cell? ⟨w.heap.size, 1, none⟩ = some (.int .i64 wn) ∧ w3.cell? ⟨w.heap.size, 2, none⟩ = some (.int .i64 id) := ⟨YQ3.out.cell 1, YQ3.out.cell 2⟩))
  have EV0 : Hid (ErrV w3 va (pushE S ⟨wn, id⟩) (if hasT S id then id else 0)) := Lib.hid (by
    have := EA.out
    rw [pushE_perm HD.out.perm, hasT_perm HD.out.perm] at this
    obtain ⟨v, hb, _⟩ := RM.out
    exact this.updR hb U3.out)
  have BW0 := Lib.hid (HD.out.push Q2.out F2.out P2.out R3.out U3.out)
  have UW : Hid (Upd [] w0 w3) := Lib.hid ((FrT.base HD.out.q.tim HB.out HU1.out.drew F2.out).trans' U3.out (by intro x hx; simp at hx; subst hx; exact .inr HRB.out))
  have YW := YQ3
  try clear hHeld
  clear y1 y2 z1 z2 x1 x2 EA R3 U3 RM YQ YQ3 P2 Q2 F2 HD YD UA YA H1 HU1 HBW1 NRB
  generalize w3 = W at *
  obtain ⟨us', S', BW'⟩ := BW0.out
  have BW := Lib.hid BW'
  clear BW' BW0
  rcases pushE_cases S ⟨wn, id⟩ with ⟨e1, e2⟩ | ⟨e1, e2⟩ | ⟨e1, e2⟩
  · have EV : Hid (ErrV W va 0 0) := Lib.hid (by have := EV0.out; rw [e1, show hasT S id = false from e2] at this; exact this)
    rw [e1]
    clear e1 e2 EV0
    have CB : Hid (∀ W', Upd [] W.drew W' → W'.cell? ⟨w.heap.size, 2, none⟩ = some (.int .i64 id)) := Lib.hid (fun W' hW => (YW.out.upd ((Upd.refl [] W).drew.trans hW) (by simp)).cell 2)
    try clear y1 y2
    go_wp2_with fail
    refine wp_invN [(1, .det (.int .i64 0))] [] (by kernel_rfl) (by kernel_rfl) (by kernel_rfl) ⟨lasts_det _, trivial⟩ ?_
    with_reducible apply wpV_light
    · simp only [lightOp]
    · intro W hU hF
      have f0 := CB.out W hU
      clear hU hF
      go_simp
      exact rfl
    simp only [Act.put, List.setIfInBounds_toArray, List.set_cons_zero, List.set_cons_succ]
    refine wpV_heavy (by simp only [lightOp]) (by rfl) (fun W hU hk hF K hK => ?_) ?_
    · go_wp2_with fail
      refine (no_err (EV.out.upd ((Upd.refl [] _).drew.trans hU))).mono ?_; rintro e w2 ⟨rfl, rfl⟩
      go_wp2_with fail
      exact hK.out _ _ (outV_new rfl rfl (by intro b hb; cases hb) (.refl _ _))
    rintro _ rfl
    simp only [Act.put, List.setIfInBounds_toArray, List.set_cons_zero, List.set_cons_succ]
    with_reducible apply wpV_light
    · simp only [lightOp]
    · intro W hU hF
      have f0 := CB.out W hU
      clear hU hF
      go_simp
      exact rfl
    simp only [Act.put, List.setIfInBounds_toArray, List.set_cons_zero, List.set_cons_succ]
    with_reducible apply wpV_light
    · simp only [lightOp]
    · intro W hU hF
      have f0 := CB.out W hU
      clear hU hF
      go_simp
      exact rfl
    simp only [Act.put, List.setIfInBounds_toArray, List.set_cons_zero, List.set_cons_succ]
    with_reducible apply wpV_light
    · simp only [lightOp]
    · intro W hU hF
      have f0 := CB.out W hU
      clear hU hF
      go_simp
      exact rfl
    simp only [Act.put, List.setIfInBounds_toArray, List.set_cons_zero, List.set_cons_succ]
    with_reducible apply wpV_light
    · simp only [lightOp]
    · intro W hU hF
      have f0 := CB.out W hU
      clear hU hF
      go_simp
      exact rfl
    simp only [Act.put, List.setIfInBounds_toArray, List.set_cons_zero, List.set_cons_succ]
    with_reducible apply wpV_light
    · simp only [lightOp]
    · intro W hU hF
      have f0 := CB.out W hU
      clear hU hF
      go_simp
      exact rfl
    simp only [Act.put, List.setIfInBounds_toArray, List.set_cons_zero, List.set_cons_succ]
    with_reducible apply wpV_light
    · simp only [lightOp]
    · intro W hU hF
      have f0 := CB.out W hU
      clear hU hF
      go_simp
      exact rfl
    simp only [Act.put, List.setIfInBounds_toArray, List.set_cons_zero, List.set_cons_succ]
    with_reducible apply wpV_light
    · simp only [lightOp]
    · intro W hU hF
      have f0 := CB.out W hU
      clear hU hF
      go_simp
      exact rfl
    simp only [Act.put, List.setIfInBounds_toArray, List.set_cons_zero, List.set_cons_succ]
    with_reducible apply wpV_light
    · simp only [lightOp]
    · intro W hU hF
      have f0 := CB.out W hU
      clear hU hF
      go_simp
      exact rfl
    simp only [Act.put, List.setIfInBounds_toArray, List.set_cons_zero, List.set_cons_succ]
    with_reducible apply wpV_light
    · simp only [lightOp]
    · intro W hU hF
      have f0 := CB.out W hU
      clear hU hF
      go_simp
      exact rfl
    simp only [Act.put, List.setIfInBounds_toArray, List.set_cons_zero, List.set_cons_succ]
    with_reducible apply wpV_light
    · simp only [lightOp]
    · intro W hU hF
      have f0 := CB.out W hU
      clear hU hF
      go_simp
      exact rfl
    simp only [Act.put, List.setIfInBounds_toArray, List.set_cons_zero, List.set_cons_succ]
    refine wpV_skip (by rfl) (by simp only [lightOp]) ?_
    simp only [Act.put, List.setIfInBounds_toArray, List.set_cons_zero, List.set_cons_succ]
    refine wpV_heavySkip (by simp only [lightOp]) (by rfl) (fun W hU hk => outV_new rfl trivial (by intro b hb; cases hb) (.refl _ _)) ?_
    rintro _ trivial
    simp only [Act.put, List.setIfInBounds_toArray, List.set_cons_zero, List.set_cons_succ]
    refine wpV_skip (by rfl) (by simp only [lightOp]) ?_
    simp only [Act.put, List.setIfInBounds_toArray, List.set_cons_zero, List.set_cons_succ]
    refine wpV_skip (by rfl) (by simp only [lightOp]) ?_
    simp only [Act.put, List.setIfInBounds_toArray, List.set_cons_zero, List.set_cons_succ]
    refine wpV_skip (by rfl) (by simp only [lightOp]) ?_
    simp only [Act.put, List.setIfInBounds_toArray, List.set_cons_zero, List.set_cons_succ]
    refine wpV_skip (by rfl) (by simp only [lightOp]) ?_
    simp only [Act.put, List.setIfInBounds_toArray, List.set_cons_zero, List.set_cons_succ]
    with_reducible apply wpV_light
    · simp only [lightOp]
    · intro W hU hF
      have f0 := CB.out W hU
      clear hU hF
      go_simp
      exact rfl
    simp only [Act.put, List.setIfInBounds_toArray, List.set_cons_zero, List.set_cons_succ]
    with_reducible apply wpV_light
    · simp only [lightOp]
    · intro W hU hF
      have f0 := CB.out W hU
      clear hU hF
      go_simp
      exact rfl
    simp only [Act.put, List.setIfInBounds_toArray, List.set_cons_zero, List.set_cons_succ]
    with_reducible apply wpV_light
    · simp only [lightOp]
    · intro W hU hF
      have f0 := CB.out W hU
      clear hU hF
      go_simp
      exact rfl
    simp only [Act.put, List.setIfInBounds_toArray, List.set_cons_zero, List.set_cons_succ]
    refine wpV_end (fun W' hU _ _ => ?_)
    have U3 : Hid (Upd [] W W') := Lib.hid ((Upd.refl [] W).drew.trans hU)
    clear hU
    refine wpT_end ?_
    go_wp2_with fail
    go_ret
    unfold DoPost
    exact ⟨rfl, _, _, BW.out.upd0 U3.out, UW.out.trans U3.out⟩
  · have EV : Hid (ErrV W va 7 id) := Lib.hid (by have := EV0.out; rw [e1, show hasT S id = true from e2] at this; exact this)
    rw [e1]
    clear e1 e2 EV0
    have CB : Hid (∀ W', Upd [] W.drew W' → W'.cell? ⟨w.heap.size, 2, none⟩ = some (.int .i64 id)) := Lib.hid (fun W' hW => (YW.out.upd ((Upd.refl [] W).drew.trans hW) (by simp)).cell 2)
    try clear y1 y2
    go_wp2_with fail
    refine wp_invN [(1, .det (.int .i64 7)), (13, .det (.int .i64 id))] [] (by kernel_rfl) (by kernel_rfl) (by kernel_rfl) ⟨lasts_det _, lasts_det _, trivial⟩ ?_
    with_reducible apply wpV_light
    · simp only [lightOp]
    · intro W hU hF
      have f0 := CB.out W hU
      clear hU hF
      go_simp
      exact rfl
    simp only [Act.put, List.setIfInBounds_toArray, List.set_cons_zero, List.set_cons_succ]
    refine wpV_heavy (by simp only [lightOp]) (by rfl) (fun W hU hk hF K hK => ?_) ?_
    · go_wp2_with fail
      refine (no_err (EV.out.upd ((Upd.refl [] _).drew.trans hU))).mono ?_; rintro e w2 ⟨rfl, rfl⟩
      go_wp2_with fail
      exact hK.out _ _ (outV_new rfl rfl (by intro b hb; cases hb) (.refl _ _))
    rintro _ rfl
    simp only [Act.put, List.setIfInBounds_toArray, List.set_cons_zero, List.set_cons_succ]
    with_reducible apply wpV_light
    · simp only [lightOp]
    · intro W hU hF
      have f0 := CB.out W hU
      clear hU hF
      go_simp
      exact rfl
    simp only [Act.put, List.setIfInBounds_toArray, List.set_cons_zero, List.set_cons_succ]
    with_reducible apply wpV_light
    · simp only [lightOp]
    · intro W hU hF
      have f0 := CB.out W hU
      clear hU hF
      go_simp
      exact rfl
    simp only [Act.put, List.setIfInBounds_toArray, List.set_cons_zero, List.set_cons_succ]
    with_reducible apply wpV_light
    · simp only [lightOp]
    · intro W hU hF
      have f0 := CB.out W hU
      clear hU hF
      go_simp
      exact rfl
    simp only [Act.put, List.setIfInBounds_toArray, List.set_cons_zero, List.set_cons_succ]
    with_reducible apply wpV_light
    · simp only [lightOp]
    · intro W hU hF
      have f0 := CB.out W hU
      clear hU hF
      go_simp
      exact rfl
    simp only [Act.put, List.setIfInBounds_toArray, List.set_cons_zero, List.set_cons_succ]
    with_reducible apply wpV_light
    · simp only [lightOp]
    · intro W hU hF
      have f0 := CB.out W hU
      clear hU hF
      go_simp
      exact rfl
    simp only [Act.put, List.setIfInBounds_toArray, List.set_cons_zero, List.set_cons_succ]
    with_reducible apply wpV_light
    · simp only [lightOp]
    · intro W hU hF
      have f0 := CB.out W hU
      clear hU hF
      go_simp
      exact rfl
    simp only [Act.put, List.setIfInBounds_toArray, List.set_cons_zero, List.set_cons_succ]
    refine wpV_skip (by rfl) (by simp only [lightOp]) ?_
    simp only [Act.put, List.setIfInBounds_toArray, List.set_cons_zero, List.set_cons_succ]
    refine wpV_skip (by rfl) (by simp only [lightOp]) ?_
    simp only [Act.put, List.setIfInBounds_toArray, List.set_cons_zero, List.set_cons_succ]
    with_reducible apply wpV_light
    · simp only [lightOp]
    · intro W hU hF
      have f0 := CB.out W hU
      clear hU hF
      go_simp
      exact rfl
    simp only [Act.put, List.setIfInBounds_toArray, List.set_cons_zero, List.set_cons_succ]
    with_reducible apply wpV_light
    · simp only [lightOp]
    · intro W hU hF
      have f0 := CB.out W hU
      clear hU hF
      go_simp
      exact rfl
    simp only [Act.put, List.setIfInBounds_toArray, List.set_cons_zero, List.set_cons_succ]
    with_reducible apply wpV_light
    · simp only [lightOp]
    · intro W hU hF
      have f0 := CB.out W hU
      clear hU hF
      go_simp
      exact rfl
    simp only [Act.put, List.setIfInBounds_toArray, List.set_cons_zero, List.set_cons_succ]
    refine wpV_heavy (by simp only [lightOp]) (by rfl) (fun W hU hk hF K hK => ?_) ?_
    · go_wp2_with fail
      refine (place_err (EV.out.upd ((Upd.refl [] _).drew.trans hU)) (HG.out.upd (UW.out.trans ((Upd.refl [] _).drew.trans hU)) (by simp))).mono ?_; rintro e w2 ⟨rfl, u2⟩
      go_wp2_with fail
      exact hK.out _ _ (outV_new rfl rfl (by intro b hb; cases hb) u2)
    rintro _ rfl
    simp only [Act.put, List.setIfInBounds_toArray, List.set_cons_zero, List.set_cons_succ]
    with_reducible apply wpV_light
    · simp only [lightOp]
    · intro W hU hF
      have f0 := CB.out W hU
      clear hU hF
      go_simp
      exact rfl
    simp only [Act.put, List.setIfInBounds_toArray, List.set_cons_zero, List.set_cons_succ]
    with_reducible apply wpV_light
    · simp only [lightOp]
    · intro W hU hF
      have f0 := CB.out W hU
      clear hU hF
      go_simp
      exact rfl
    simp only [Act.put, List.setIfInBounds_toArray, List.set_cons_zero, List.set_cons_succ]
    with_reducible apply wpV_light
    · simp only [lightOp]
    · intro W hU hF
      have f0 := CB.out W hU
      clear hU hF
      go_simp
      exact rfl
    simp only [Act.put, List.setIfInBounds_toArray, List.set_cons_zero, List.set_cons_succ]
    with_reducible apply wpV_light
    · simp only [lightOp]
    · intro W hU hF
      have f0 := CB.out W hU
      clear hU hF
      go_simp
      exact rfl
    simp only [Act.put, List.setIfInBounds_toArray, List.set_cons_zero, List.set_cons_succ]
    with_reducible apply wpV_light
    · simp only [lightOp]
    · intro W hU hF
      have f0 := CB.out W hU
      clear hU hF
      go_simp
      exact rfl
    simp only [Act.put, List.setIfInBounds_toArray, List.set_cons_zero, List.set_cons_succ]
    with_reducible apply wpV_light
    · simp only [lightOp]
    · intro W hU hF
      have f0 := CB.out W hU
      clear hU hF
      go_simp
      exact rfl
    simp only [Act.put, List.setIfInBounds_toArray, List.set_cons_zero, List.set_cons_succ]
    with_reducible apply wpV_light
    · simp only [lightOp]
    · intro W hU hF
      have f0 := CB.out W hU
      clear hU hF
      go_simp
      exact rfl
    simp only [Act.put, List.setIfInBounds_toArray, List.set_cons_zero, List.set_cons_succ]
    refine wpV_end (fun W' hU _ _ => ?_)
    have U3 : Hid (Upd [] W W') := Lib.hid ((Upd.refl [] W).drew.trans hU)
    clear hU
    refine wpT_end ?_
    go_wp2_with fail
    go_ret
    unfold DoPost
    exact ⟨rfl, _, _, BW.out.upd0 U3.out, UW.out.trans U3.out⟩
  · have EV : Hid (ErrV W va 8 0) := Lib.hid (by have := EV0.out; rw [e1, show hasT S id = false from e2] at this; exact this)
    rw [e1]
    clear e1 e2 EV0
    have CB : Hid (∀ W', Upd [] W.drew W' → W'.cell? ⟨w.heap.size, 2, none⟩ = some (.int .i64 id)) := Lib.hid (fun W' hW => (YW.out.upd ((Upd.refl [] W).drew.trans hW) (by simp)).cell 2)
    try clear y1 y2
    go_wp2_with fail
    refine wp_invN [(1, .det (.int .i64 8))] [] (by kernel_rfl) (by kernel_rfl) (by kernel_rfl) ⟨lasts_det _, trivial⟩ ?_
    with_reducible apply wpV_light
    · simp only [lightOp]
    · intro W hU hF
      have f0 := CB.out W hU
      clear hU hF
      go_simp
      exact rfl
    simp only [Act.put, List.setIfInBounds_toArray, List.set_cons_zero, List.set_cons_succ]
    refine wpV_heavy (by simp only [lightOp]) (by rfl) (fun W hU hk hF K hK => ?_) ?_
    · go_wp2_with fail
      refine (no_err (EV.out.upd ((Upd.refl [] _).drew.trans hU))).mono ?_; rintro e w2 ⟨rfl, rfl⟩
      go_wp2_with fail
      exact hK.out _ _ (outV_new rfl rfl (by intro b hb; cases hb) (.refl _ _))
    rintro _ rfl
    simp only [Act.put, List.setIfInBounds_toArray, List.set_cons_zero, List.set_cons_succ]
    with_reducible apply wpV_light
    · simp only [lightOp]
    · intro W hU hF
      have f0 := CB.out W hU
      clear hU hF
      go_simp
      exact rfl
    simp only [Act.put, List.setIfInBounds_toArray, List.set_cons_zero, List.set_cons_succ]
    with_reducible apply wpV_light
    · simp only [lightOp]
    · intro W hU hF
      have f0 := CB.out W hU
      clear hU hF
      go_simp
      exact rfl
    simp only [Act.put, List.setIfInBounds_toArray, List.set_cons_zero, List.set_cons_succ]
    with_reducible apply wpV_light
    · simp only [lightOp]
    · intro W hU hF
      have f0 := CB.out W hU
      clear hU hF
      go_simp
      exact rfl
    simp only [Act.put, List.setIfInBounds_toArray, List.set_cons_zero, List.set_cons_succ]
    with_reducible apply wpV_light
    · simp only [lightOp]
    · intro W hU hF
      have f0 := CB.out W hU
      clear hU hF
      go_simp
      exact rfl
    simp only [Act.put, List.setIfInBounds_toArray, List.set_cons_zero, List.set_cons_succ]
    with_reducible apply wpV_light
    · simp only [lightOp]
    · intro W hU hF
      have f0 := CB.out W hU
      clear hU hF
      go_simp
      exact rfl
    simp only [Act.put, List.setIfInBounds_toArray, List.set_cons_zero, List.set_cons_succ]
    with_reducible apply wpV_light
    · simp only [lightOp]
    · intro W hU hF
      have f0 := CB.out W hU
      clear hU hF
      go_simp
      exact rfl
    simp only [Act.put, List.setIfInBounds_toArray, List.set_cons_zero, List.set_cons_succ]
    with_reducible apply wpV_light
    · simp only [lightOp]
    · intro W hU hF
      have f0 := CB.out W hU
      clear hU hF
      go_simp
      exact rfl
    simp only [Act.put, List.setIfInBounds_toArray, List.set_cons_zero, List.set_cons_succ]
    with_reducible apply wpV_light
    · simp only [lightOp]
    · intro W hU hF
      have f0 := CB.out W hU
      clear hU hF
      go_simp
      exact rfl
    simp only [Act.put, List.setIfInBounds_toArray, List.set_cons_zero, List.set_cons_succ]
    with_reducible apply wpV_light
    · simp only [lightOp]
    · intro W hU hF
      have f0 := CB.out W hU
      clear hU hF
      go_simp
      exact rfl
    simp only [Act.put, List.setIfInBounds_toArray, List.set_cons_zero, List.set_cons_succ]
    with_reducible apply wpV_light
    · simp only [lightOp]
    · intro W hU hF
      have f0 := CB.out W hU
      clear hU hF
      go_simp
      exact rfl
    simp only [Act.put, List.setIfInBounds_toArray, List.set_cons_zero, List.set_cons_succ]
    refine wpV_skip (by rfl) (by simp only [lightOp]) ?_
    simp only [Act.put, List.setIfInBounds_toArray, List.set_cons_zero, List.set_cons_succ]
    refine wpV_heavySkip (by simp only [lightOp]) (by rfl) (fun W hU hk => outV_new rfl trivial (by intro b hb; cases hb) (.refl _ _)) ?_
    rintro _ trivial
    simp only [Act.put, List.setIfInBounds_toArray, List.set_cons_zero, List.set_cons_succ]
    refine wpV_skip (by rfl) (by simp only [lightOp]) ?_
    simp only [Act.put, List.setIfInBounds_toArray, List.set_cons_zero, List.set_cons_succ]
    refine wpV_skip (by rfl) (by simp only [lightOp]) ?_
    simp only [Act.put, List.setIfInBounds_toArray, List.set_cons_zero, List.set_cons_succ]
    refine wpV_skip (by rfl) (by simp only [lightOp]) ?_
    simp only [Act.put, List.setIfInBounds_toArray, List.set_cons_zero, List.set_cons_succ]
    refine wpV_skip (by rfl) (by simp only [lightOp]) ?_
    simp only [Act.put, List.setIfInBounds_toArray, List.set_cons_zero, List.set_cons_succ]
    with_reducible apply wpV_light
    · simp only [lightOp]
    · intro W hU hF
      have f0 := CB.out W hU
      clear hU hF
      go_simp
      exact rfl
    simp only [Act.put, List.setIfInBounds_toArray, List.set_cons_zero, List.set_cons_succ]
    with_reducible apply wpV_light
    · simp only [lightOp]
    · intro W hU hF
      have f0 := CB.out W hU
      clear hU hF
      go_simp
      exact rfl
    simp only [Act.put, List.setIfInBounds_toArray, List.set_cons_zero, List.set_cons_succ]
    with_reducible apply wpV_light
    · simp only [lightOp]
    · intro W hU hF
      have f0 := CB.out W hU
      clear hU hF
      go_simp
      exact rfl
    simp only [Act.put, List.setIfInBounds_toArray, List.set_cons_zero, List.set_cons_succ]
    refine wpV_end (fun W' hU _ _ => ?_)
    have U3 : Hid (Upd [] W W') := Lib.hid ((Upd.refl [] W).drew.trans hU)
    clear hU
    refine wpT_end ?_
    go_wp2_with fail
    go_ret
    unfold DoPost
    exact ⟨rfl, _, _, BW.out.upd0 U3.out, UW.out.trans U3.out⟩
set_option maxRecDepth 100000 in
set_option maxHeartbeats 8000000 in
theorem do_move (B qb p mb rb : Nat) (ts S : List Tm) (k wn id : Int) (w0 w : World) (h : Both B qb p mb rb w ts S) (hu0 : Upd [] w0 w) (hg : Typed w0) (hB : w0.heap.size ≤ B) (hrb : w0.heap.size ≤ rb) (hBw : B ≤ w.heap.size) (d0 : (k == 0) = false) (d1 : (k == 1) = false) (d2 : (k == 2) = true) :
    Calls Tryd.prog 20 #[.pointer (some ⟨qb, 0, none⟩), .pointer (some ⟨rb, 0, none⟩), .agg #[.int .i64 k, .int .i64 wn, .int .i64 id]] w fun e w' => DoPost B qb p mb rb w0 e w' := by
  have H := Lib.hid h
  have HG := Lib.hid hg
  have HU0 := Lib.hid hu0
  have HB := Lib.hid hB
  have HRB := Lib.hid hrb
  have HBW := Lib.hid hBw
  clear h hg hu0 hB hrb hBw
  go_enter Tryd.func20, Tryd.ntmps20
  go_wp2_with fail
  have UA : Hid (Upd [] w (w.alloc (.cells #[.int .i64 k, .int .i64 wn, .int .i64 id] 49))) := Lib.hid ((Upd.refl [] w).alloc _)
  have YA : Hid (Blk (w.alloc (.cells #[.int .i64 k, .int .i64 wn, .int .i64 id] 49)) w.heap.size 49 #[.int .i64 k, .int .i64 wn, .int .i64 id]) := Lib.hid (Blk.new w _ _)
  generalize (w.alloc (.cells #[.int .i64 k, .int .i64 wn, .int .i64 id] 49)) = w1 at *
  have H1 := Lib.hid (H.out.upd0 UA.out)
  have HU1 := Lib.hid (HU0.out.trans UA.out)
  have HBW1 : Hid (B ≤ w1.heap.size) := Lib.hid (Nat.le_trans HBW.out UA.out.size)
  have NRB : Hid (w.heap.size ≠ rb) := Lib.hid (by
    obtain ⟨v, hb, _⟩ := H.out.r
    have := hb.lt
    omega)
  have y1 : w1.cell? ⟨w.heap.size, 1, none⟩ = some (.int .i64 wn) := YA.out.cell 1
  have y2 : w1.cell? ⟨w.heap.size, 2, none⟩ = some (.int .i64 id) := YA.out.cell 2
  have HD := Lib.hid (H1.out.upd0 (Upd.refl [] w1).drew)
  have YD := Lib.hid YA.out.drew
  obtain ⟨c, HC⟩ : ∃ c : Int, Hid ((if hasT S id then (0 : Int) else 6) = c) := ⟨_, Lib.hid rfl⟩
  go_region_held3 (fun W => W.cell? ⟨w.heap.size, 1, none⟩ = some (.int .i64 wn) ∧ W.cell? ⟨w.heap.size, 2, none⟩ = some (.int .i64 id)) (first | exact ⟨x1, x2⟩ | exact ⟨z1, z2⟩ | exact ⟨y1, y2⟩) (first | (go_at_call 21; refine (q_move B qb p mb ts id wn _ HD.out.q).mono ?_; rintro e w2 ⟨va, us, rfl, ea, q2, p2, f2⟩; have YQ : Hid (Blk w2 w.heap.size 49 #[.int .i64 k, .int .i64 wn, .int .i64 id]) := Lib.hid (YD.out.updP f2.1 (HD.out.q.off YD.out (by decide) (by decide))); have Q2 := Lib.hid q2; have P2 := Lib.hid p2; have F2 := Lib.hid f2; have EA := Lib.hid ea; clear q2 p2 f2 ea; obtain ⟨z1, z2⟩ : w2.cell? ⟨w.heap.size, 1, none⟩ = some (.int .i64 wn) ∧ w2.cell? ⟨w.heap.size, 2, none⟩ = some (.int .i64 id) := ⟨YQ.out.cell 1, YQ.out.cell 2⟩; have RM : Hid (RSt 0 rb w2 S) := Lib.hid (by obtain ⟨v, h1, h2, _⟩ := HD.out.mid F2.out; exact ⟨v, h1, h2⟩)) | (go_at_call 34; refine (rmove_ok 0 rb S id wn _ RM.out (by have := H1.out.len; omega)).mono ?_; rintro e w3 ⟨he, r3, u3⟩; rw [HC.out] at he; subst he; have YQ3 : Hid (Blk w3 w.heap.size 49 #[.int .i64 k, .int .i64 wn, .int .i64 id]) := Lib.hid (YQ.out.upd u3 (by simp; exact NRB.out)); have R3 := Lib.hid r3; have U3 := Lib.hid u3; clear r3 u3; obtain ⟨x1, x2⟩ : w3.cell? ⟨w.heap.size, 1, none⟩ = some (.int .i64 wn) ∧ w3.cell? ⟨w.heap.size, 2, none⟩ = some (.int .i64 id) := ⟨YQ3.out.cell 1, YQ3.out.cell 2⟩))
  have EV0 : Hid (ErrV w3 va (if hasT S id then 0 else 6) (if hasT S id then 0 else id)) := Lib.hid (by
    have := EA.out
    rw [hasT_perm HD.out.perm] at this
    obtain ⟨v, hb, _⟩ := RM.out
    exact this.updR hb U3.out)
  have BW0 := Lib.hid (HD.out.move Q2.out F2.out P2.out R3.out U3.out)
  have UW : Hid (Upd [] w0 w3) := Lib.hid ((FrT.base HD.out.q.tim HB.out HU1.out.drew F2.out).trans' U3.out (by intro x hx; simp at hx; subst hx; exact .inr HRB.out))
  have YW := YQ3
  clear y1 y2 z1 z2 x1 x2 EA R3 U3 RM YQ YQ3 P2 Q2 F2 HD YD UA YA H1 HU1 HBW1 NRB
  generalize w3 = W at *
  obtain ⟨us', S', BW'⟩ := BW0.out
  have BW := Lib.hid BW'
  clear BW' BW0
  cases hh : hasT S id with
  | true =>
    have EV : Hid (ErrV W va 0 0) := Lib.hid (by have := EV0.out; rw [hh] at this; exact this)
    have hc : c = 0 := by rw [← HC.out, hh]; rfl
    subst hc
    clear hh EV0 HC
    have CB : Hid (∀ W', Upd [] W.drew W' → W'.cell? ⟨w.heap.size, 2, none⟩ = some (.int .i64 id)) := Lib.hid (fun W' hW => (YW.out.upd ((Upd.refl [] W).drew.trans hW) (by simp)).cell 2)
    try clear y1 y2
    go_wp2_with fail
    refine wp_invN [(1, .det (.int .i64 0))] [] (by kernel_rfl) (by kernel_rfl) (by kernel_rfl) ⟨lasts_det _, trivial⟩ ?_
    with_reducible apply wpV_light
    · simp only [lightOp]
    · intro W hU hF
      have f0 := CB.out W hU
      clear hU hF
      go_simp
      exact rfl
    simp only [Act.put, List.setIfInBounds_toArray, List.set_cons_zero, List.set_cons_succ]
    refine wpV_heavy (by simp only [lightOp]) (by rfl) (fun W hU hk hF K hK => ?_) ?_
    · go_wp2_with fail
      refine (no_err (EV.out.upd ((Upd.refl [] _).drew.trans hU))).mono ?_; rintro e w2 ⟨rfl, rfl⟩
      go_wp2_with fail
      exact hK.out _ _ (outV_new rfl rfl (by intro b hb; cases hb) (.refl _ _))
    rintro _ rfl
    simp only [Act.put, List.setIfInBounds_toArray, List.set_cons_zero, List.set_cons_succ]
    with_reducible apply wpV_light
    · simp only [lightOp]
    · intro W hU hF
      have f0 := CB.out W hU
      clear hU hF
      go_simp
      exact rfl
    simp only [Act.put, List.setIfInBounds_toArray, List.set_cons_zero, List.set_cons_succ]
    with_reducible apply wpV_light
    · simp only [lightOp]
    · intro W hU hF
      have f0 := CB.out W hU
      clear hU hF
      go_simp
      exact rfl
    simp only [Act.put, List.setIfInBounds_toArray, List.set_cons_zero, List.set_cons_succ]
    with_reducible apply wpV_light
    · simp only [lightOp]
    · intro W hU hF
      have f0 := CB.out W hU
      clear hU hF
      go_simp
      exact rfl
    simp only [Act.put, List.setIfInBounds_toArray, List.set_cons_zero, List.set_cons_succ]
    with_reducible apply wpV_light
    · simp only [lightOp]
    · intro W hU hF
      have f0 := CB.out W hU
      clear hU hF
      go_simp
      exact rfl
    simp only [Act.put, List.setIfInBounds_toArray, List.set_cons_zero, List.set_cons_succ]
    with_reducible apply wpV_light
    · simp only [lightOp]
    · intro W hU hF
      have f0 := CB.out W hU
      clear hU hF
      go_simp
      exact rfl
    simp only [Act.put, List.setIfInBounds_toArray, List.set_cons_zero, List.set_cons_succ]
    with_reducible apply wpV_light
    · simp only [lightOp]
    · intro W hU hF
      have f0 := CB.out W hU
      clear hU hF
      go_simp
      exact rfl
    simp only [Act.put, List.setIfInBounds_toArray, List.set_cons_zero, List.set_cons_succ]
    with_reducible apply wpV_light
    · simp only [lightOp]
    · intro W hU hF
      have f0 := CB.out W hU
      clear hU hF
      go_simp
      exact rfl
    simp only [Act.put, List.setIfInBounds_toArray, List.set_cons_zero, List.set_cons_succ]
    with_reducible apply wpV_light
    · simp only [lightOp]
    · intro W hU hF
      have f0 := CB.out W hU
      clear hU hF
      go_simp
      exact rfl
    simp only [Act.put, List.setIfInBounds_toArray, List.set_cons_zero, List.set_cons_succ]
    with_reducible apply wpV_light
    · simp only [lightOp]
    · intro W hU hF
      have f0 := CB.out W hU
      clear hU hF
      go_simp
      exact rfl
    simp only [Act.put, List.setIfInBounds_toArray, List.set_cons_zero, List.set_cons_succ]
    with_reducible apply wpV_light
    · simp only [lightOp]
    · intro W hU hF
      have f0 := CB.out W hU
      clear hU hF
      go_simp
      exact rfl
    simp only [Act.put, List.setIfInBounds_toArray, List.set_cons_zero, List.set_cons_succ]
    refine wpV_skip (by rfl) (by simp only [lightOp]) ?_
    simp only [Act.put, List.setIfInBounds_toArray, List.set_cons_zero, List.set_cons_succ]
    refine wpV_heavySkip (by simp only [lightOp]) (by rfl) (fun W hU hk => outV_new rfl trivial (by intro b hb; cases hb) (.refl _ _)) ?_
    rintro _ trivial
    simp only [Act.put, List.setIfInBounds_toArray, List.set_cons_zero, List.set_cons_succ]
    refine wpV_skip (by rfl) (by simp only [lightOp]) ?_
    simp only [Act.put, List.setIfInBounds_toArray, List.set_cons_zero, List.set_cons_succ]
    refine wpV_skip (by rfl) (by simp only [lightOp]) ?_
    simp only [Act.put, List.setIfInBounds_toArray, List.set_cons_zero, List.set_cons_succ]
    refine wpV_skip (by rfl) (by simp only [lightOp]) ?_
    simp only [Act.put, List.setIfInBounds_toArray, List.set_cons_zero, List.set_cons_succ]
    refine wpV_skip (by rfl) (by simp only [lightOp]) ?_
    simp only [Act.put, List.setIfInBounds_toArray, List.set_cons_zero, List.set_cons_succ]
    with_reducible apply wpV_light
    · simp only [lightOp]
    · intro W hU hF
      have f0 := CB.out W hU
      clear hU hF
      go_simp
      exact rfl
    simp only [Act.put, List.setIfInBounds_toArray, List.set_cons_zero, List.set_cons_succ]
    with_reducible apply wpV_light
    · simp only [lightOp]
    · intro W hU hF
      have f0 := CB.out W hU
      clear hU hF
      go_simp
      exact rfl
    simp only [Act.put, List.setIfInBounds_toArray, List.set_cons_zero, List.set_cons_succ]
    with_reducible apply wpV_light
    · simp only [lightOp]
    · intro W hU hF
      have f0 := CB.out W hU
      clear hU hF
      go_simp
      exact rfl
    simp only [Act.put, List.setIfInBounds_toArray, List.set_cons_zero, List.set_cons_succ]
    refine wpV_end (fun W' hU _ _ => ?_)
    have U3 : Hid (Upd [] W W') := Lib.hid ((Upd.refl [] W).drew.trans hU)
    clear hU
    refine wpT_end ?_
    go_wp2_with fail
    go_ret
    unfold DoPost
    exact ⟨rfl, _, _, BW.out.upd0 U3.out, UW.out.trans U3.out⟩
  | false =>
    have EV : Hid (ErrV W va 6 id) := Lib.hid (by have := EV0.out; rw [hh] at this; exact this)
    have hc : c = 6 := by rw [← HC.out, hh]; rfl
    subst hc
    clear hh EV0 HC
    have CB : Hid (∀ W', Upd [] W.drew W' → W'.cell? ⟨w.heap.size, 2, none⟩ = some (.int .i64 id)) := Lib.hid (fun W' hW => (YW.out.upd ((Upd.refl [] W).drew.trans hW) (by simp)).cell 2)
    try clear y1 y2
    go_wp2_with fail
    refine wp_invN [(1, .det (.int .i64 6)), (13, .det (.int .i64 id))] [] (by kernel_rfl) (by kernel_rfl) (by kernel_rfl) ⟨lasts_det _, lasts_det _, trivial⟩ ?_
    with_reducible apply wpV_light
    · simp only [lightOp]
    · intro W hU hF
      have f0 := CB.out W hU
      clear hU hF
      go_simp
      exact rfl
    simp only [Act.put, List.setIfInBounds_toArray, List.set_cons_zero, List.set_cons_succ]
    refine wpV_heavy (by simp only [lightOp]) (by rfl) (fun W hU hk hF K hK => ?_) ?_
    · go_wp2_with fail
      refine (no_err (EV.out.upd ((Upd.refl [] _).drew.trans hU))).mono ?_; rintro e w2 ⟨rfl, rfl⟩
      go_wp2_with fail
      exact hK.out _ _ (outV_new rfl rfl (by intro b hb; cases hb) (.refl _ _))
    rintro _ rfl
    simp only [Act.put, List.setIfInBounds_toArray, List.set_cons_zero, List.set_cons_succ]
    with_reducible apply wpV_light
    · simp only [lightOp]
    · intro W hU hF
      have f0 := CB.out W hU
      clear hU hF
      go_simp
      exact rfl
    simp only [Act.put, List.setIfInBounds_toArray, List.set_cons_zero, List.set_cons_succ]
    with_reducible apply wpV_light
    · simp only [lightOp]
    · intro W hU hF
      have f0 := CB.out W hU
      clear hU hF
      go_simp
      exact rfl
    simp only [Act.put, List.setIfInBounds_toArray, List.set_cons_zero, List.set_cons_succ]
    with_reducible apply wpV_light
    · simp only [lightOp]
    · intro W hU hF
      have f0 := CB.out W hU
      clear hU hF
      go_simp
      exact rfl
    simp only [Act.put, List.setIfInBounds_toArray, List.set_cons_zero, List.set_cons_succ]
    with_reducible apply wpV_light
    · simp only [lightOp]
    · intro W hU hF
      have f0 := CB.out W hU
      clear hU hF
      go_simp
      exact rfl
    simp only [Act.put, List.setIfInBounds_toArray, List.set_cons_zero, List.set_cons_succ]
    with_reducible apply wpV_light
    · simp only [lightOp]
    · intro W hU hF
      have f0 := CB.out W hU
      clear hU hF
      go_simp
      exact rfl
    simp only [Act.put, List.setIfInBounds_toArray, List.set_cons_zero, List.set_cons_succ]
    with_reducible apply wpV_light
    · simp only [lightOp]
    · intro W hU hF
      have f0 := CB.out W hU
      clear hU hF
      go_simp
      exact rfl
    simp only [Act.put, List.setIfInBounds_toArray, List.set_cons_zero, List.set_cons_succ]
    with_reducible apply wpV_light
    · simp only [lightOp]
    · intro W hU hF
      have f0 := CB.out W hU
      clear hU hF
      go_simp
      exact rfl
    simp only [Act.put, List.setIfInBounds_toArray, List.set_cons_zero, List.set_cons_succ]
    with_reducible apply wpV_light
    · simp only [lightOp]
    · intro W hU hF
      have f0 := CB.out W hU
      clear hU hF
      go_simp
      exact rfl
    simp only [Act.put, List.setIfInBounds_toArray, List.set_cons_zero, List.set_cons_succ]
    with_reducible apply wpV_light
    · simp only [lightOp]
    · intro W hU hF
      have f0 := CB.out W hU
      clear hU hF
      go_simp
      exact rfl
    simp only [Act.put, List.setIfInBounds_toArray, List.set_cons_zero, List.set_cons_succ]
    with_reducible apply wpV_light
    · simp only [lightOp]
    · intro W hU hF
      have f0 := CB.out W hU
      clear hU hF
      go_simp
      exact rfl
    simp only [Act.put, List.setIfInBounds_toArray, List.set_cons_zero, List.set_cons_succ]
    with_reducible apply wpV_light
    · simp only [lightOp]
    · intro W hU hF
      have f0 := CB.out W hU
      clear hU hF
      go_simp
      exact rfl
    simp only [Act.put, List.setIfInBounds_toArray, List.set_cons_zero, List.set_cons_succ]
    refine wpV_heavy (by simp only [lightOp]) (by rfl) (fun W hU hk hF K hK => ?_) ?_
    · go_wp2_with fail
      refine (place_err (EV.out.upd ((Upd.refl [] _).drew.trans hU)) (HG.out.upd (UW.out.trans ((Upd.refl [] _).drew.trans hU)) (by simp))).mono ?_; rintro e w2 ⟨rfl, u2⟩
      go_wp2_with fail
      exact hK.out _ _ (outV_new rfl rfl (by intro b hb; cases hb) u2)
    rintro _ rfl
    simp only [Act.put, List.setIfInBounds_toArray, List.set_cons_zero, List.set_cons_succ]
    with_reducible apply wpV_light
    · simp only [lightOp]
    · intro W hU hF
      have f0 := CB.out W hU
      clear hU hF
      go_simp
      exact rfl
    simp only [Act.put, List.setIfInBounds_toArray, List.set_cons_zero, List.set_cons_succ]
    with_reducible apply wpV_light
    · simp only [lightOp]
    · intro W hU hF
      have f0 := CB.out W hU
      clear hU hF
      go_simp
      exact rfl
    simp only [Act.put, List.setIfInBounds_toArray, List.set_cons_zero, List.set_cons_succ]
    with_reducible apply wpV_light
    · simp only [lightOp]
    · intro W hU hF
      have f0 := CB.out W hU
      clear hU hF
      go_simp
      exact rfl
    simp only [Act.put, List.setIfInBounds_toArray, List.set_cons_zero, List.set_cons_succ]
    with_reducible apply wpV_light
    · simp only [lightOp]
    · intro W hU hF
      have f0 := CB.out W hU
      clear hU hF
      go_simp
      exact rfl
    simp only [Act.put, List.setIfInBounds_toArray, List.set_cons_zero, List.set_cons_succ]
    with_reducible apply wpV_light
    · simp only [lightOp]
    · intro W hU hF
      have f0 := CB.out W hU
      clear hU hF
      go_simp
      exact rfl
    simp only [Act.put, List.setIfInBounds_toArray, List.set_cons_zero, List.set_cons_succ]
    with_reducible apply wpV_light
    · simp only [lightOp]
    · intro W hU hF
      have f0 := CB.out W hU
      clear hU hF
      go_simp
      exact rfl
    simp only [Act.put, List.setIfInBounds_toArray, List.set_cons_zero, List.set_cons_succ]
    with_reducible apply wpV_light
    · simp only [lightOp]
    · intro W hU hF
      have f0 := CB.out W hU
      clear hU hF
      go_simp
      exact rfl
    simp only [Act.put, List.setIfInBounds_toArray, List.set_cons_zero, List.set_cons_succ]
    refine wpV_end (fun W' hU _ _ => ?_)
    have U3 : Hid (Upd [] W W') := Lib.hid ((Upd.refl [] W).drew.trans hU)
    clear hU
    refine wpT_end ?_
    go_wp2_with fail
    go_ret
    unfold DoPost
    exact ⟨rfl, _, _, BW.out.upd0 U3.out, UW.out.trans U3.out⟩
set_option maxRecDepth 100000 in
set_option maxHeartbeats 8000000 in
theorem do_cancel (B qb p mb rb : Nat) (ts S : List Tm) (k wn id : Int) (w0 w : World) (h : Both B qb p mb rb w ts S) (hu0 : Upd [] w0 w) (hg : Typed w0) (hB : w0.heap.size ≤ B) (hrb : w0.heap.size ≤ rb) (hBw : B ≤ w.heap.size) (d0 : (k == 0) = false) (d1 : (k == 1) = false) (d2 : (k == 2) = false) (d3 : (k == 3) = true) :
    Calls Tryd.prog 20 #[.pointer (some ⟨qb, 0, none⟩), .pointer (some ⟨rb, 0, none⟩), .agg #[.int .i64 k, .int .i64 wn, .int .i64 id]] w fun e w' => DoPost B qb p mb rb w0 e w' := by
  have H := Lib.hid h
  have HG := Lib.hid hg
  have HU0 := Lib.hid hu0
  have HB := Lib.hid hB
  have HRB := Lib.hid hrb
  have HBW := Lib.hid hBw
  clear h hg hu0 hB hrb hBw
  go_enter Tryd.func20, Tryd.ntmps20
  go_wp2_with fail
  have UA : Hid (Upd [] w (w.alloc (.cells #[.int .i64 k, .int .i64 wn, .int .i64 id] 49))) := Lib.hid ((Upd.refl [] w).alloc _)
  have YA : Hid (Blk (w.alloc (.cells #[.int .i64 k, .int .i64 wn, .int .i64 id] 49)) w.heap.size 49 #[.int .i64 k, .int .i64 wn, .int .i64 id]) := Lib.hid (Blk.new w _ _)
  generalize (w.alloc (.cells #[.int .i64 k, .int .i64 wn, .int .i64 id] 49)) = w1 at *
  have H1 := Lib.hid (H.out.upd0 UA.out)
  have HU1 := Lib.hid (HU0.out.trans UA.out)
  have HBW1 : Hid (B ≤ w1.heap.size) := Lib.hid (Nat.le_trans HBW.out UA.out.size)
  have NRB : Hid (w.heap.size ≠ rb) := Lib.hid (by
    obtain ⟨v, hb, _⟩ := H.out.r
    have := hb.lt
    omega)
  have y1 : w1.cell? ⟨w.heap.size, 1, none⟩ = some (.int .i64 wn) := YA.out.cell 1
  have y2 : w1.cell? ⟨w.heap.size, 2, none⟩ = some (.int .i64 id) := YA.out.cell 2
  have HD := Lib.hid (H1.out.upd0 (Upd.refl [] w1).drew)
  have YD := Lib.hid YA.out.drew
  obtain ⟨c, HC⟩ : ∃ c : Int, Hid ((if hasT S id then (0 : Int) else 6) = c) := ⟨_, Lib.hid rfl⟩
  go_region_held3 (fun W => W.cell? ⟨w.heap.size, 1, none⟩ = some (.int .i64 wn) ∧ W.cell? ⟨w.heap.size, 2, none⟩ = some (.int .i64 id)) (first | exact ⟨x1, x2⟩ | exact ⟨z1, z2⟩ | exact ⟨y1, y2⟩) (first | (go_at_call 12; refine (q_cancel B qb p mb ts id _ HD.out.q).mono ?_; rintro e w2 ⟨va, us, rfl, ea, q2, p2, f2⟩; have YQ : Hid (Blk w2 w.heap.size 49 #[.int .i64 k, .int .i64 wn, .int .i64 id]) := Lib.hid (YD.out.updP f2.1 (HD.out.q.off YD.out (by decide) (by decide))); have Q2 := Lib.hid q2; have P2 := Lib.hid p2; have F2 := Lib.hid f2; have EA := Lib.hid ea; clear q2 p2 f2 ea; obtain ⟨z1, z2⟩ : w2.cell? ⟨w.heap.size, 1, none⟩ = some (.int .i64 wn) ∧ w2.cell? ⟨w.heap.size, 2, none⟩ = some (.int .i64 id) := ⟨YQ.out.cell 1, YQ.out.cell 2⟩; have RM : Hid (RSt 0 rb w2 S) := Lib.hid (by obtain ⟨v, h1, h2, _⟩ := HD.out.mid F2.out; exact ⟨v, h1, h2⟩)) | (go_at_call 35; refine (rcancel_ok 0 rb S id _ RM.out (by have := H1.out.len; omega)).mono ?_; rintro e w3 ⟨he, r3, u3⟩; rw [HC.out] at he; subst he; have YQ3 : Hid (Blk w3 w.heap.size 49 #[.int .i64 k, .int .i64 wn, .int .i64 id]) := Lib.hid (YQ.out.upd u3 (by simp; exact NRB.out)); have R3 := Lib.hid r3; have U3 := Lib.hid u3; clear r3 u3; obtain ⟨x1, x2⟩ : w3.cell? ⟨w.heap.size, 1, none⟩ = some (.int .i64 wn) ∧ w3.cell? ⟨w.heap.size, 2, none⟩ = some (.int .i64 id) := ⟨YQ3.out.cell 1, YQ3.out.cell 2⟩))
  have EV0 : Hid (ErrV w3 va (if hasT S id then 0 else 6) (if hasT S id then 0 else id)) := Lib.hid (by
    have := EA.out
    rw [hasT_perm HD.out.perm] at this
    obtain ⟨v, hb, _⟩ := RM.out
    exact this.updR hb U3.out)
  have BW0 := Lib.hid (HD.out.cancel Q2.out F2.out P2.out R3.out U3.out)
  have UW : Hid (Upd [] w0 w3) := Lib.hid ((FrT.base HD.out.q.tim HB.out HU1.out.drew F2.out).trans' U3.out (by intro x hx; simp at hx; subst hx; exact .inr HRB.out))
  have YW := YQ3
  clear y1 y2 z1 z2 x1 x2 EA R3 U3 RM YQ YQ3 P2 Q2 F2 HD YD UA YA H1 HU1 HBW1 NRB
  generalize w3 = W at *
  obtain ⟨us', S', BW'⟩ := BW0.out
  have BW := Lib.hid BW'
  clear BW' BW0
  cases hh : hasT S id with
  | true =>
    have EV : Hid (ErrV W va 0 0) := Lib.hid (by have := EV0.out; rw [hh] at this; exact this)
    have hc : c = 0 := by rw [← HC.out, hh]; rfl
    subst hc
    clear hh EV0 HC
    have CB : Hid (∀ W', Upd [] W.drew W' → W'.cell? ⟨w.heap.size, 2, none⟩ = some (.int .i64 id)) := Lib.hid (fun W' hW => (YW.out.upd ((Upd.refl [] W).drew.trans hW) (by simp)).cell 2)
    try clear y1 y2
    go_wp2_with fail
    refine wp_invN [(1, .det (.int .i64 0))] [] (by kernel_rfl) (by kernel_rfl) (by kernel_rfl) ⟨lasts_det _, trivial⟩ ?_
    with_reducible apply wpV_light
    · simp only [lightOp]
    · intro W hU hF
      have f0 := CB.out W hU
      clear hU hF
      go_simp
      exact rfl
    simp only [Act.put, List.setIfInBounds_toArray, List.set_cons_zero, List.set_cons_succ]
    refine wpV_heavy (by simp only [lightOp]) (by rfl) (fun W hU hk hF K hK => ?_) ?_
    · go_wp2_with fail
      refine (no_err (EV.out.upd ((Upd.refl [] _).drew.trans hU))).mono ?_; rintro e w2 ⟨rfl, rfl⟩
      go_wp2_with fail
      exact hK.out _ _ (outV_new rfl rfl (by intro b hb; cases hb) (.refl _ _))
    rintro _ rfl
    simp only [Act.put, List.setIfInBounds_toArray, List.set_cons_zero, List.set_cons_succ]
    with_reducible apply wpV_light
    · simp only [lightOp]
    · intro W hU hF
      have f0 := CB.out W hU
      clear hU hF
      go_simp
      exact rfl
    simp only [Act.put, List.setIfInBounds_toArray, List.set_cons_zero, List.set_cons_succ]
    with_reducible apply wpV_light
    · simp only [lightOp]
    · intro W hU hF
      have f0 := CB.out W hU
      clear hU hF
      go_simp
      exact rfl
    simp only [Act.put, List.setIfInBounds_toArray, List.set_cons_zero, List.set_cons_succ]
    with_reducible apply wpV_light
    · simp only [lightOp]
    · intro W hU hF
      have f0 := CB.out W hU
      clear hU hF
      go_simp
      exact rfl
    simp only [Act.put, List.setIfInBounds_toArray, List.set_cons_zero, List.set_cons_succ]
    with_reducible apply wpV_light
    · simp only [lightOp]
    · intro W hU hF
      have f0 := CB.out W hU
      clear hU hF
      go_simp
      exact rfl
    simp only [Act.put, List.setIfInBounds_toArray, List.set_cons_zero, List.set_cons_succ]
    with_reducible apply wpV_light
    · simp only [lightOp]
    · intro W hU hF
      have f0 := CB.out W hU
      clear hU hF
      go_simp
      exact rfl
    simp only [Act.put, List.setIfInBounds_toArray, List.set_cons_zero, List.set_cons_succ]
    with_reducible apply wpV_light
    · simp only [lightOp]
    · intro W hU hF
      have f0 := CB.out W hU
      clear hU hF
      go_simp
      exact rfl
    simp only [Act.put, List.setIfInBounds_toArray, List.set_cons_zero, List.set_cons_succ]
    with_reducible apply wpV_light
    · simp only [lightOp]
    · intro W hU hF
      have f0 := CB.out W hU
      clear hU hF
      go_simp
      exact rfl
    simp only [Act.put, List.setIfInBounds_toArray, List.set_cons_zero, List.set_cons_succ]
    with_reducible apply wpV_light
    · simp only [lightOp]
    · intro W hU hF
      have f0 := CB.out W hU
      clear hU hF
      go_simp
      exact rfl
    simp only [Act.put, List.setIfInBounds_toArray, List.set_cons_zero, List.set_cons_succ]
    with_reducible apply wpV_light
    · simp only [lightOp]
    · intro W hU hF
      have f0 := CB.out W hU
      clear hU hF
      go_simp
      exact rfl
    simp only [Act.put, List.setIfInBounds_toArray, List.set_cons_zero, List.set_cons_succ]
    with_reducible apply wpV_light
    · simp only [lightOp]
    · intro W hU hF
      have f0 := CB.out W hU
      clear hU hF
      go_simp
      exact rfl
    simp only [Act.put, List.setIfInBounds_toArray, List.set_cons_zero, List.set_cons_succ]
    refine wpV_skip (by rfl) (by simp only [lightOp]) ?_
    simp only [Act.put, List.setIfInBounds_toArray, List.set_cons_zero, List.set_cons_succ]
    refine wpV_heavySkip (by simp only [lightOp]) (by rfl) (fun W hU hk => outV_new rfl trivial (by intro b hb; cases hb) (.refl _ _)) ?_
    rintro _ trivial
    simp only [Act.put, List.setIfInBounds_toArray, List.set_cons_zero, List.set_cons_succ]
    refine wpV_skip (by rfl) (by simp only [lightOp]) ?_
    simp only [Act.put, List.setIfInBounds_toArray, List.set_cons_zero, List.set_cons_succ]
    refine wpV_skip (by rfl) (by simp only [lightOp]) ?_
    simp only [Act.put, List.setIfInBounds_toArray, List.set_cons_zero, List.set_cons_succ]
    refine wpV_skip (by rfl) (by simp only [lightOp]) ?_
    simp only [Act.put, List.setIfInBounds_toArray, List.set_cons_zero, List.set_cons_succ]
    refine wpV_skip (by rfl) (by simp only [lightOp]) ?_
    simp only [Act.put, List.setIfInBounds_toArray, List.set_cons_zero, List.set_cons_succ]
    with_reducible apply wpV_light
    · simp only [lightOp]
    · intro W hU hF
      have f0 := CB.out W hU
      clear hU hF
      go_simp
      exact rfl
    simp only [Act.put, List.setIfInBounds_toArray, List.set_cons_zero, List.set_cons_succ]
    with_reducible apply wpV_light
    · simp only [lightOp]
    · intro W hU hF
      have f0 := CB.out W hU
      clear hU hF
      go_simp
      exact rfl
    simp only [Act.put, List.setIfInBounds_toArray, List.set_cons_zero, List.set_cons_succ]
    with_reducible apply wpV_light
    · simp only [lightOp]
    · intro W hU hF
      have f0 := CB.out W hU
      clear hU hF
      go_simp
      exact rfl
    simp only [Act.put, List.setIfInBounds_toArray, List.set_cons_zero, List.set_cons_succ]
    refine wpV_end (fun W' hU _ _ => ?_)
    have U3 : Hid (Upd [] W W') := Lib.hid ((Upd.refl [] W).drew.trans hU)
    clear hU
    refine wpT_end ?_
    go_wp2_with fail
    go_ret
    unfold DoPost
    exact ⟨rfl, _, _, BW.out.upd0 U3.out, UW.out.trans U3.out⟩
  | false =>
    have EV : Hid (ErrV W va 6 id) := Lib.hid (by have := EV0.out; rw [hh] at this; exact this)
    have hc : c = 6 := by rw [← HC.out, hh]; rfl
    subst hc
    clear hh EV0 HC
    have CB : Hid (∀ W', Upd [] W.drew W' → W'.cell? ⟨w.heap.size, 2, none⟩ = some (.int .i64 id)) := Lib.hid (fun W' hW => (YW.out.upd ((Upd.refl [] W).drew.trans hW) (by simp)).cell 2)
    try clear y1 y2
    go_wp2_with fail
    refine wp_invN [(1, .det (.int .i64 6)), (13, .det (.int .i64 id))] [] (by kernel_rfl) (by kernel_rfl) (by kernel_rfl) ⟨lasts_det _, lasts_det _, trivial⟩ ?_
    with_reducible apply wpV_light
    · simp only [lightOp]
    · intro W hU hF
      have f0 := CB.out W hU
      clear hU hF
      go_simp
      exact rfl
    simp only [Act.put, List.setIfInBounds_toArray, List.set_cons_zero, List.set_cons_succ]
    refine wpV_heavy (by simp only [lightOp]) (by rfl) (fun W hU hk hF K hK => ?_) ?_
    · go_wp2_with fail
      refine (no_err (EV.out.upd ((Upd.refl [] _).drew.trans hU))).mono ?_; rintro e w2 ⟨rfl, rfl⟩
      go_wp2_with fail
      exact hK.out _ _ (outV_new rfl rfl (by intro b hb; cases hb) (.refl _ _))
    rintro _ rfl
    simp only [Act.put, List.setIfInBounds_toArray, List.set_cons_zero, List.set_cons_succ]
    with_reducible apply wpV_light
    · simp only [lightOp]
    · intro W hU hF
      have f0 := CB.out W hU
      clear hU hF
      go_simp
      exact rfl
    simp only [Act.put, List.setIfInBounds_toArray, List.set_cons_zero, List.set_cons_succ]
    with_reducible apply wpV_light
    · simp only [lightOp]
    · intro W hU hF
      have f0 := CB.out W hU
      clear hU hF
      go_simp
      exact rfl
    simp only [Act.put, List.setIfInBounds_toArray, List.set_cons_zero, List.set_cons_succ]
    with_reducible apply wpV_light
    · simp only [lightOp]
    · intro W hU hF
      have f0 := CB.out W hU
      clear hU hF
      go_simp
      exact rfl
    simp only [Act.put, List.setIfInBounds_toArray, List.set_cons_zero, List.set_cons_succ]
    with_reducible apply wpV_light
    · simp only [lightOp]
    · intro W hU hF
      have f0 := CB.out W hU
      clear hU hF
      go_simp
      exact rfl
    simp only [Act.put, List.setIfInBounds_toArray, List.set_cons_zero, List.set_cons_succ]
    with_reducible apply wpV_light
    · simp only [lightOp]
    · intro W hU hF
      have f0 := CB.out W hU
      clear hU hF
      go_simp
      exact rfl
    simp only [Act.put, List.setIfInBounds_toArray, List.set_cons_zero, List.set_cons_succ]
    with_reducible apply wpV_light
    · simp only [lightOp]
    · intro W hU hF
      have f0 := CB.out W hU
      clear hU hF
      go_simp
      exact rfl
    simp only [Act.put, List.setIfInBounds_toArray, List.set_cons_zero, List.set_cons_succ]
    with_reducible apply wpV_light
    · simp only [lightOp]
    · intro W hU hF
      have f0 := CB.out W hU
      clear hU hF
      go_simp
      exact rfl
    simp only [Act.put, List.setIfInBounds_toArray, List.set_cons_zero, List.set_cons_succ]
    with_reducible apply wpV_light
    · simp only [lightOp]
    · intro W hU hF
      have f0 := CB.out W hU
      clear hU hF
      go_simp
      exact rfl
    simp only [Act.put, List.setIfInBounds_toArray, List.set_cons_zero, List.set_cons_succ]
    with_reducible apply wpV_light
    · simp only [lightOp]
    · intro W hU hF
      have f0 := CB.out W hU
      clear hU hF
      go_simp
      exact rfl
    simp only [Act.put, List.setIfInBounds_toArray, List.set_cons_zero, List.set_cons_succ]
    with_reducible apply wpV_light
    · simp only [lightOp]
    · intro W hU hF
      have f0 := CB.out W hU
      clear hU hF
      go_simp
      exact rfl
    simp only [Act.put, List.setIfInBounds_toArray, List.set_cons_zero, List.set_cons_succ]
    with_reducible apply wpV_light
    · simp only [lightOp]
    · intro W hU hF
      have f0 := CB.out W hU
      clear hU hF
      go_simp
      exact rfl
    simp only [Act.put, List.setIfInBounds_toArray, List.set_cons_zero, List.set_cons_succ]
    refine wpV_heavy (by simp only [lightOp]) (by rfl) (fun W hU hk hF K hK => ?_) ?_
    · go_wp2_with fail
      refine (place_err (EV.out.upd ((Upd.refl [] _).drew.trans hU)) (HG.out.upd (UW.out.trans ((Upd.refl [] _).drew.trans hU)) (by simp))).mono ?_; rintro e w2 ⟨rfl, u2⟩
      go_wp2_with fail
      exact hK.out _ _ (outV_new rfl rfl (by intro b hb; cases hb) u2)
    rintro _ rfl
    simp only [Act.put, List.setIfInBounds_toArray, List.set_cons_zero, List.set_cons_succ]
    with_reducible apply wpV_light
    · simp only [lightOp]
    · intro W hU hF
      have f0 := CB.out W hU
      clear hU hF
      go_simp
      exact rfl
    simp only [Act.put, List.setIfInBounds_toArray, List.set_cons_zero, List.set_cons_succ]
    with_reducible apply wpV_light
    · simp only [lightOp]
    · intro W hU hF
      have f0 := CB.out W hU
      clear hU hF
      go_simp
      exact rfl
    simp only [Act.put, List.setIfInBounds_toArray, List.set_cons_zero, List.set_cons_succ]
    with_reducible apply wpV_light
    · simp only [lightOp]
    · intro W hU hF
      have f0 := CB.out W hU
      clear hU hF
      go_simp
      exact rfl
    simp only [Act.put, List.setIfInBounds_toArray, List.set_cons_zero, List.set_cons_succ]
    with_reducible apply wpV_light
    · simp only [lightOp]
    · intro W hU hF
      have f0 := CB.out W hU
      clear hU hF
      go_simp
      exact rfl
    simp only [Act.put, List.setIfInBounds_toArray, List.set_cons_zero, List.set_cons_succ]
    with_reducible apply wpV_light
    · simp only [lightOp]
    · intro W hU hF
      have f0 := CB.out W hU
      clear hU hF
      go_simp
      exact rfl
    simp only [Act.put, List.setIfInBounds_toArray, List.set_cons_zero, List.set_cons_succ]
    with_reducible apply wpV_light
    · simp only [lightOp]
    · intro W hU hF
      have f0 := CB.out W hU
      clear hU hF
      go_simp
      exact rfl
    simp only [Act.put, List.setIfInBounds_toArray, List.set_cons_zero, List.set_cons_succ]
    with_reducible apply wpV_light
    · simp only [lightOp]
    · intro W hU hF
      have f0 := CB.out W hU
      clear hU hF
      go_simp
      exact rfl
    simp only [Act.put, List.setIfInBounds_toArray, List.set_cons_zero, List.set_cons_succ]
    refine wpV_end (fun W' hU _ _ => ?_)
    have U3 : Hid (Upd [] W W') := Lib.hid ((Upd.refl [] W).drew.trans hU)
    clear hU
    refine wpT_end ?_
    go_wp2_with fail
    go_ret
    unfold DoPost
    exact ⟨rfl, _, _, BW.out.upd0 U3.out, UW.out.trans U3.out⟩
set_option maxRecDepth 100000 in
set_option maxHeartbeats 8000000 in
theorem do_due (B qb p mb rb : Nat) (ts S : List Tm) (k wn id : Int) (w0 w : World) (h : Both B qb p mb rb w ts S) (hu0 : Upd [] w0 w) (hg : Typed w0) (hB : w0.heap.size ≤ B) (hrb : w0.heap.size ≤ rb) (hBw : B ≤ w.heap.size) (d0 : (k == 0) = false) (d1 : (k == 1) = false) (d2 : (k == 2) = false) (d3 : (k == 3) = false) (d4 : (k == 4) = true) :
    Calls Tryd.prog 20 #[.pointer (some ⟨qb, 0, none⟩), .pointer (some ⟨rb, 0, none⟩), .agg #[.int .i64 k, .int .i64 wn, .int .i64 id]] w fun e w' => DoPost B qb p mb rb w0 e w' := by
  have H := Lib.hid h
  have HG := Lib.hid hg
  have HU0 := Lib.hid hu0
  have HB := Lib.hid hB
  have HRB := Lib.hid hrb
  have HBW := Lib.hid hBw
  clear h hg hu0 hB hrb hBw
  go_enter Tryd.func20, Tryd.ntmps20
  go_wp2_with fail
  have UA : Hid (Upd [] w (w.alloc (.cells #[.int .i64 k, .int .i64 wn, .int .i64 id] 49))) := Lib.hid ((Upd.refl [] w).alloc _)
  have YA : Hid (Blk (w.alloc (.cells #[.int .i64 k, .int .i64 wn, .int .i64 id] 49)) w.heap.size 49 #[.int .i64 k, .int .i64 wn, .int .i64 id]) := Lib.hid (Blk.new w _ _)
  generalize (w.alloc (.cells #[.int .i64 k, .int .i64 wn, .int .i64 id] 49)) = w1 at *
  have H1 := Lib.hid (H.out.upd0 UA.out)
  have HU1 := Lib.hid (HU0.out.trans UA.out)
  have HBW1 : Hid (B ≤ w1.heap.size) := Lib.hid (Nat.le_trans HBW.out UA.out.size)
  have NRB : Hid (w.heap.size ≠ rb) := Lib.hid (by
    obtain ⟨v, hb, _⟩ := H.out.r
    have := hb.lt
    omega)
  have y1 : w1.cell? ⟨w.heap.size, 1, none⟩ = some (.int .i64 wn) := YA.out.cell 1
  have y2 : w1.cell? ⟨w.heap.size, 2, none⟩ = some (.int .i64 id) := YA.out.cell 2
  have HD := Lib.hid (H1.out.upd0 (Upd.refl [] w1).drew)
  have YD := Lib.hid YA.out.drew
  go_region_held3 (fun W => W.cell? ⟨w.heap.size, 1, none⟩ = some (.int .i64 wn) ∧ W.cell? ⟨w.heap.size, 2, none⟩ = some (.int .i64 id)) (first | exact ⟨v1, v2⟩ | exact ⟨x1, x2⟩ | exact ⟨z1, z2⟩ | exact ⟨y1, y2⟩) (first | (go_at_call 16; refine (q_due B qb p mb ts wn _ HD.out.q).mono ?_; rintro e w2 ⟨va, out, us, rfl, d2, l2⟩; have f2 := d2.fr; have YQ : Hid (Blk w2 w.heap.size 49 #[.int .i64 k, .int .i64 wn, .int .i64 id]) := Lib.hid (YD.out.updP f2.1 (HD.out.q.off YD.out (by decide) (by decide))); have D2 := Lib.hid d2; have L2 := Lib.hid l2; have F2 := Lib.hid f2; clear d2 l2 f2; obtain ⟨z1, z2⟩ : w2.cell? ⟨w.heap.size, 1, none⟩ = some (.int .i64 wn) ∧ w2.cell? ⟨w.heap.size, 2, none⟩ = some (.int .i64 id) := ⟨YQ.out.cell 1, YQ.out.cell 2⟩; have RM : Hid (RSt 0 rb w2 S) := Lib.hid (by obtain ⟨v, h1, h2, _⟩ := HD.out.mid F2.out; exact ⟨v, h1, h2⟩)) | (go_at_call 36; refine (rdue_ok 0 rb S wn _ RM.out (by have := H1.out.len; omega)).mono ?_; rintro e w3 ⟨vr, rfl, o3, r3, u3⟩; have O3 := Lib.hid o3; clear o3; have YQ3 : Hid (Blk w3 w.heap.size 49 #[.int .i64 k, .int .i64 wn, .int .i64 id]) := Lib.hid (YQ.out.upd u3 (by simp; exact NRB.out)); have R3 := Lib.hid r3; have U3 := Lib.hid u3; clear r3 u3; obtain ⟨x1, x2⟩ : w3.cell? ⟨w.heap.size, 1, none⟩ = some (.int .i64 wn) ∧ w3.cell? ⟨w.heap.size, 2, none⟩ = some (.int .i64 id) := ⟨YQ3.out.cell 1, YQ3.out.cell 2⟩; have OA : Hid (w3.ownsRow w1.drew.heap.size 29 2 va out.length (flatT out)) := Lib.hid (own_upd D2.out.own U3.out (by obtain ⟨v, hb, _⟩ := RM.out; intro b hb2; simp; intro e; subst e; exact own_type D2.out.own hb (by decide) hb2))) | (go_at_call 19; refine (same_ok _ _ out (dueT S wn) va vr _ OA.out O3.out (by have := D2.out.perm.length_eq; have := H1.out.tlen; simp at *; omega) (by have := congrArg List.length (due_split S wn); have := H1.out.len; simp at *; omega)).mono ?_; rintro e w4 ⟨rfl, u4⟩; have U4 := Lib.hid u4; clear u4; have YQ4 := Lib.hid (YQ3.out.upd U4.out (by simp)); obtain ⟨v1, v2⟩ : w4.cell? ⟨w.heap.size, 1, none⟩ = some (.int .i64 wn) ∧ w4.cell? ⟨w.heap.size, 2, none⟩ = some (.int .i64 id) := ⟨YQ4.out.cell 1, YQ4.out.cell 2⟩))
  have DB := Lib.hid (due_both HD.out.ids HD.out.perm HD.out.srt D2.out.perm D2.out.low D2.out.srt L2.out)
  have BW : Hid (Both B qb p mb rb w4 us (restT S wn)) := Lib.hid ((HD.out.next D2.out.q F2.out R3.out U3.out DB.out.2.1 DB.out.2.2 (by have := congrArg List.length (due_split S wn); have := H1.out.len; simp at *; omega)).upd0 U4.out)
  have UW : Hid (Upd [] w0 w4) := Lib.hid (((FrT.base HD.out.q.tim HB.out HU1.out.drew F2.out).trans' U3.out (by intro x hx; simp at hx; subst hx; exact .inr HRB.out)).trans U4.out)
  have YW := YQ4
  rw [decide_eq_true DB.out.1]
  clear y1 y2 z1 z2 x1 x2 v1 v2 R3 U3 RM YQ YQ3 YQ4 D2 L2 DB F2 HD YD UA YA H1 HU1 HBW1 NRB OA O3 U4
  generalize w4 = W at *
  have EV : Hid (ErrV W .nilIface 0 0) := Lib.hid (ErrV.nil _)
  have CB : Hid (∀ W', Upd [] W.drew W' → W'.cell? ⟨w.heap.size, 2, none⟩ = some (.int .i64 id)) := Lib.hid (fun W' hW => (YW.out.upd ((Upd.refl [] W).drew.trans hW) (by simp)).cell 2)
  try clear y1 y2
  go_wp2_with fail
  refine wp_invN [(1, .det (.int .i64 0))] [] (by kernel_rfl) (by kernel_rfl) (by kernel_rfl) ⟨lasts_det _, trivial⟩ ?_
  with_reducible apply wpV_light
  · simp only [lightOp]
  · intro W hU hF
    have f0 := CB.out W hU
    clear hU hF
    go_simp
    exact rfl
  simp only [Act.put, List.setIfInBounds_toArray, List.set_cons_zero, List.set_cons_succ]
  refine wpV_heavy (by simp only [lightOp]) (by rfl) (fun W hU hk hF K hK => ?_) ?_
  · go_wp2_with fail
    refine (no_err (EV.out.upd ((Upd.refl [] _).drew.trans hU))).mono ?_; rintro e w2 ⟨rfl, rfl⟩
    go_wp2_with fail
    exact hK.out _ _ (outV_new rfl rfl (by intro b hb; cases hb) (.refl _ _))
  rintro _ rfl
  simp only [Act.put, List.setIfInBounds_toArray, List.set_cons_zero, List.set_cons_succ]
  with_reducible apply wpV_light
  · simp only [lightOp]
  · intro W hU hF
    have f0 := CB.out W hU
    clear hU hF
    go_simp
    exact rfl
  simp only [Act.put, List.setIfInBounds_toArray, List.set_cons_zero, List.set_cons_succ]
  with_reducible apply wpV_light
  · simp only [lightOp]
  · intro W hU hF
    have f0 := CB.out W hU
    clear hU hF
    go_simp
    exact rfl
  simp only [Act.put, List.setIfInBounds_toArray, List.set_cons_zero, List.set_cons_succ]
  with_reducible apply wpV_light
  · simp only [lightOp]
  · intro W hU hF
    have f0 := CB.out W hU
    clear hU hF
    go_simp
    exact rfl
  simp only [Act.put, List.setIfInBounds_toArray, List.set_cons_zero, List.set_cons_succ]
  with_reducible apply wpV_light
  · simp only [lightOp]
  · intro W hU hF
    have f0 := CB.out W hU
    clear hU hF
    go_simp
    exact rfl
  simp only [Act.put, List.setIfInBounds_toArray, List.set_cons_zero, List.set_cons_succ]
  with_reducible apply wpV_light
  · simp only [lightOp]
  · intro W hU hF
    have f0 := CB.out W hU
    clear hU hF
    go_simp
    exact rfl
  simp only [Act.put, List.setIfInBounds_toArray, List.set_cons_zero, List.set_cons_succ]
  with_reducible apply wpV_light
  · simp only [lightOp]
  · intro W hU hF
    have f0 := CB.out W hU
    clear hU hF
    go_simp
    exact rfl
  simp only [Act.put, List.setIfInBounds_toArray, List.set_cons_zero, List.set_cons_succ]
  with_reducible apply wpV_light
  · simp only [lightOp]
  · intro W hU hF
    have f0 := CB.out W hU
    clear hU hF
    go_simp
    exact rfl
  simp only [Act.put, List.setIfInBounds_toArray, List.set_cons_zero, List.set_cons_succ]
  with_reducible apply wpV_light
  · simp only [lightOp]
  · intro W hU hF
    have f0 := CB.out W hU
    clear hU hF
    go_simp
    exact rfl
  simp only [Act.put, List.setIfInBounds_toArray, List.set_cons_zero, List.set_cons_succ]
  with_reducible apply wpV_light
  · simp only [lightOp]
  · intro W hU hF
    have f0 := CB.out W hU
    clear hU hF
    go_simp
    exact rfl
  simp only [Act.put, List.setIfInBounds_toArray, List.set_cons_zero, List.set_cons_succ]
  with_reducible apply wpV_light
  · simp only [lightOp]
  · intro W hU hF
    have f0 := CB.out W hU
    clear hU hF
    go_simp
    exact rfl
  simp only [Act.put, List.setIfInBounds_toArray, List.set_cons_zero, List.set_cons_succ]
  refine wpV_skip (by rfl) (by simp only [lightOp]) ?_
  simp only [Act.put, List.setIfInBounds_toArray, List.set_cons_zero, List.set_cons_succ]
  refine wpV_heavySkip (by simp only [lightOp]) (by rfl) (fun W hU hk => outV_new rfl trivial (by intro b hb; cases hb) (.refl _ _)) ?_
  rintro _ trivial
  simp only [Act.put, List.setIfInBounds_toArray, List.set_cons_zero, List.set_cons_succ]
  refine wpV_skip (by rfl) (by simp only [lightOp]) ?_
  simp only [Act.put, List.setIfInBounds_toArray, List.set_cons_zero, List.set_cons_succ]
  refine wpV_skip (by rfl) (by simp only [lightOp]) ?_
  simp only [Act.put, List.setIfInBounds_toArray, List.set_cons_zero, List.set_cons_succ]
  refine wpV_skip (by rfl) (by simp only [lightOp]) ?_
  simp only [Act.put, List.setIfInBounds_toArray, List.set_cons_zero, List.set_cons_succ]
  refine wpV_skip (by rfl) (by simp only [lightOp]) ?_
  simp only [Act.put, List.setIfInBounds_toArray, List.set_cons_zero, List.set_cons_succ]
  with_reducible apply wpV_light
  · simp only [lightOp]
  · intro W hU hF
    have f0 := CB.out W hU
    clear hU hF
    go_simp
    exact rfl
  simp only [Act.put, List.setIfInBounds_toArray, List.set_cons_zero, List.set_cons_succ]
  with_reducible apply wpV_light
  · simp only [lightOp]
  · intro W hU hF
    have f0 := CB.out W hU
    clear hU hF
    go_simp
    exact rfl
  simp only [Act.put, List.setIfInBounds_toArray, List.set_cons_zero, List.set_cons_succ]
  with_reducible apply wpV_light
  · simp only [lightOp]
  · intro W hU hF
    have f0 := CB.out W hU
    clear hU hF
    go_simp
    exact rfl
  simp only [Act.put, List.setIfInBounds_toArray, List.set_cons_zero, List.set_cons_succ]
  refine wpV_end (fun W' hU _ _ => ?_)
  have U3 : Hid (Upd [] W W') := Lib.hid ((Upd.refl [] W).drew.trans hU)
  clear hU
  refine wpT_end ?_
  go_wp2_with fail
  go_ret
  unfold DoPost
  exact ⟨rfl, _, _, BW.out.upd0 U3.out, UW.out.trans U3.out⟩
set_option maxRecDepth 100000 in
set_option maxHeartbeats 8000000 in
theorem do_none (B qb p mb rb : Nat) (ts S : List Tm) (k wn id : Int) (w0 w : World) (h : Both B qb p mb rb w ts S) (hu0 : Upd [] w0 w) (hg : Typed w0) (hB : w0.heap.size ≤ B) (hrb : w0.heap.size ≤ rb) (hBw : B ≤ w.heap.size) (d0 : (k == 0) = false) (d1 : (k == 1) = false) (d2 : (k == 2) = false) (d3 : (k == 3) = false) (d4 : (k == 4) = false) :
    Calls Tryd.prog 20 #[.pointer (some ⟨qb, 0, none⟩), .pointer (some ⟨rb, 0, none⟩), .agg #[.int .i64 k, .int .i64 wn, .int .i64 id]] w fun e w' => DoPost B qb p mb rb w0 e w' := by
  have H := Lib.hid h
  have HG := Lib.hid hg
  have HU0 := Lib.hid hu0
  have HB := Lib.hid hB
  have HRB := Lib.hid hrb
  have HBW := Lib.hid hBw
  clear h hg hu0 hB hrb hBw
  go_enter Tryd.func20, Tryd.ntmps20
  go_wp2_with fail
  have UA : Hid (Upd [] w (w.alloc (.cells #[.int .i64 k, .int .i64 wn, .int .i64 id] 49))) := Lib.hid ((Upd.refl [] w).alloc _)
  have YA : Hid (Blk (w.alloc (.cells #[.int .i64 k, .int .i64 wn, .int .i64 id] 49)) w.heap.size 49 #[.int .i64 k, .int .i64 wn, .int .i64 id]) := Lib.hid (Blk.new w _ _)
  generalize (w.alloc (.cells #[.int .i64 k, .int .i64 wn, .int .i64 id] 49)) = w1 at *
  have H1 := Lib.hid (H.out.upd0 UA.out)
  have HU1 := Lib.hid (HU0.out.trans UA.out)
  have HBW1 : Hid (B ≤ w1.heap.size) := Lib.hid (Nat.le_trans HBW.out UA.out.size)
  have NRB : Hid (w.heap.size ≠ rb) := Lib.hid (by
    obtain ⟨v, hb, _⟩ := H.out.r
    have := hb.lt
    omega)
  have y1 : w1.cell? ⟨w.heap.size, 1, none⟩ = some (.int .i64 wn) := YA.out.cell 1
  have y2 : w1.cell? ⟨w.heap.size, 2, none⟩ = some (.int .i64 id) := YA.out.cell 2
  have BW := H1
  have UW := HU1
  have YW := YA
  clear UA YA H1 HU1 HBW1 NRB
  generalize w1 = W at *
  have EV : Hid (ErrV W .nilIface 0 0) := Lib.hid (ErrV.nil _)
  have CB : Hid (∀ W', Upd [] W.drew W' → W'.cell? ⟨w.heap.size, 2, none⟩ = some (.int .i64 id)) := Lib.hid (fun W' hW => (YW.out.upd ((Upd.refl [] W).drew.trans hW) (by simp)).cell 2)
  try clear y1 y2
  go_wp2_with fail
  refine wp_invN [(1, .det (.int .i64 0))] [] (by kernel_rfl) (by kernel_rfl) (by kernel_rfl) ⟨lasts_det _, trivial⟩ ?_
  with_reducible apply wpV_light
  · simp only [lightOp]
  · intro W hU hF
    have f0 := CB.out W hU
    clear hU hF
    go_simp
    exact rfl
  simp only [Act.put, List.setIfInBounds_toArray, List.set_cons_zero, List.set_cons_succ]
  refine wpV_heavy (by simp only [lightOp]) (by rfl) (fun W hU hk hF K hK => ?_) ?_
  · go_wp2_with fail
    refine (no_err (EV.out.upd ((Upd.refl [] _).drew.trans hU))).mono ?_; rintro e w2 ⟨rfl, rfl⟩
    go_wp2_with fail
    exact hK.out _ _ (outV_new rfl rfl (by intro b hb; cases hb) (.refl _ _))
  rintro _ rfl
  simp only [Act.put, List.setIfInBounds_toArray, List.set_cons_zero, List.set_cons_succ]
  with_reducible apply wpV_light
  · simp only [lightOp]
  · intro W hU hF
    have f0 := CB.out W hU
    clear hU hF
    go_simp
    exact rfl
  simp only [Act.put, List.setIfInBounds_toArray, List.set_cons_zero, List.set_cons_succ]
  with_reducible apply wpV_light
  · simp only [lightOp]
  · intro W hU hF
    have f0 := CB.out W hU
    clear hU hF
    go_simp
    exact rfl
  simp only [Act.put, List.setIfInBounds_toArray, List.set_cons_zero, List.set_cons_succ]
  with_reducible apply wpV_light
  · simp only [lightOp]
  · intro W hU hF
    have f0 := CB.out W hU
    clear hU hF
    go_simp
    exact rfl
  simp only [Act.put, List.setIfInBounds_toArray, List.set_cons_zero, List.set_cons_succ]
  with_reducible apply wpV_light
  · simp only [lightOp]
  · intro W hU hF
    have f0 := CB.out W hU
    clear hU hF
    go_simp
    exact rfl
  simp only [Act.put, List.setIfInBounds_toArray, List.set_cons_zero, List.set_cons_succ]
  with_reducible apply wpV_light
  · simp only [lightOp]
  · intro W hU hF
    have f0 := CB.out W hU
    clear hU hF
    go_simp
    exact rfl
  simp only [Act.put, List.setIfInBounds_toArray, List.set_cons_zero, List.set_cons_succ]
  with_reducible apply wpV_light
  · simp only [lightOp]
  · intro W hU hF
    have f0 := CB.out W hU
    clear hU hF
    go_simp
    exact rfl
  simp only [Act.put, List.setIfInBounds_toArray, List.set_cons_zero, List.set_cons_succ]
  with_reducible apply wpV_light
  · simp only [lightOp]
  · intro W hU hF
    have f0 := CB.out W hU
    clear hU hF
    go_simp
    exact rfl
  simp only [Act.put, List.setIfInBounds_toArray, List.set_cons_zero, List.set_cons_succ]
  with_reducible apply wpV_light
  · simp only [lightOp]
  · intro W hU hF
    have f0 := CB.out W hU
    clear hU hF
    go_simp
    exact rfl
  simp only [Act.put, List.setIfInBounds_toArray, List.set_cons_zero, List.set_cons_succ]
  with_reducible apply wpV_light
  · simp only [lightOp]
  · intro W hU hF
    have f0 := CB.out W hU
    clear hU hF
    go_simp
    exact rfl
  simp only [Act.put, List.setIfInBounds_toArray, List.set_cons_zero, List.set_cons_succ]
  with_reducible apply wpV_light
  · simp only [lightOp]
  · intro W hU hF
    have f0 := CB.out W hU
    clear hU hF
    go_simp
    exact rfl
  simp only [Act.put, List.setIfInBounds_toArray, List.set_cons_zero, List.set_cons_succ]
  refine wpV_skip (by rfl) (by simp only [lightOp]) ?_
  simp only [Act.put, List.setIfInBounds_toArray, List.set_cons_zero, List.set_cons_succ]
  refine wpV_heavySkip (by simp only [lightOp]) (by rfl) (fun W hU hk => outV_new rfl trivial (by intro b hb; cases hb) (.refl _ _)) ?_
  rintro _ trivial
  simp only [Act.put, List.setIfInBounds_toArray, List.set_cons_zero, List.set_cons_succ]
  refine wpV_skip (by rfl) (by simp only [lightOp]) ?_
  simp only [Act.put, List.setIfInBounds_toArray, List.set_cons_zero, List.set_cons_succ]
  refine wpV_skip (by rfl) (by simp only [lightOp]) ?_
  simp only [Act.put, List.setIfInBounds_toArray, List.set_cons_zero, List.set_cons_succ]
  refine wpV_skip (by rfl) (by simp only [lightOp]) ?_
  simp only [Act.put, List.setIfInBounds_toArray, List.set_cons_zero, List.set_cons_succ]
  refine wpV_skip (by rfl) (by simp only [lightOp]) ?_
  simp only [Act.put, List.setIfInBounds_toArray, List.set_cons_zero, List.set_cons_succ]
  with_reducible apply wpV_light
  · simp only [lightOp]
  · intro W hU hF
    have f0 := CB.out W hU
    clear hU hF
    go_simp
    exact rfl
  simp only [Act.put, List.setIfInBounds_toArray, List.set_cons_zero, List.set_cons_succ]
  with_reducible apply wpV_light
  · simp only [lightOp]
  · intro W hU hF
    have f0 := CB.out W hU
    clear hU hF
    go_simp
    exact rfl
  simp only [Act.put, List.setIfInBounds_toArray, List.set_cons_zero, List.set_cons_succ]
  with_reducible apply wpV_light
  · simp only [lightOp]
  · intro W hU hF
    have f0 := CB.out W hU
    clear hU hF
    go_simp
    exact rfl
  simp only [Act.put, List.setIfInBounds_toArray, List.set_cons_zero, List.set_cons_succ]
  refine wpV_end (fun W' hU _ _ => ?_)
  have U3 : Hid (Upd [] W W') := Lib.hid ((Upd.refl [] W).drew.trans hU)
  clear hU
  refine wpT_end ?_
  go_wp2_with fail
  go_ret
  unfold DoPost
  exact ⟨rfl, _, _, BW.out.upd0 U3.out, UW.out.trans U3.out⟩
set_option maxRecDepth 100000 in
set_option maxHeartbeats 8000000 in
theorem do_ok (B qb p mb rb : Nat) (ts S : List Tm) (k wn id : Int) (w0 w : World) (h : Both B qb p mb rb w ts S) (hu0 : Upd [] w0 w) (hg : Typed w0) (hB : w0.heap.size ≤ B) (hrb : w0.heap.size ≤ rb) (hBw : B ≤ w.heap.size)  :
    Calls Tryd.prog 20 #[.pointer (some ⟨qb, 0, none⟩), .pointer (some ⟨rb, 0, none⟩), .agg #[.int .i64 k, .int .i64 wn, .int .i64 id]] w fun e w' => DoPost B qb p mb rb w0 e w' := by
  have key : ∀ n : Int, (k == n) = true ∨ (k == n) = false := fun n => by cases (k == n) <;> simp
  rcases key 0 with d0 | d0
  · exact do_push0 B qb p mb rb ts S k wn id w0 w h hu0 hg hB hrb hBw d0
  rcases key 1 with d1 | d1
  · exact do_push1 B qb p mb rb ts S k wn id w0 w h hu0 hg hB hrb hBw d0 d1
  rcases key 2 with d2 | d2
  · exact do_move B qb p mb rb ts S k wn id w0 w h hu0 hg hB hrb hBw d0 d1 d2
  rcases key 3 with d3 | d3
  · exact do_cancel B qb p mb rb ts S k wn id w0 w h hu0 hg hB hrb hBw d0 d1 d2 d3
  rcases key 4 with d4 | d4
  · exact do_due B qb p mb rb ts S k wn id w0 w h hu0 hg hB hrb hBw d0 d1 d2 d3 d4
  · exact do_none B qb p mb rb ts S k wn id w0 w h hu0 hg hB hrb hBw d0 d1 d2 d3 d4
end Go.Proofs.YtainiojlhdbhgaaDoor

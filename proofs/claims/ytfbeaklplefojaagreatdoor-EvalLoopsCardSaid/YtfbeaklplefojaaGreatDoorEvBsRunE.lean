/-
  eval.Run.
-/
import Derived.Test.YtfbeaklplefojaaGreatDoorEvB24
import Derived.BigRegion
set_option linter.unusedVariables false
namespace Go.Proofs.YtfbeaklplefojaaGreatDoor.Ev
open Go.RowKit Assoc MP
attribute [local go_sem] litStep_value

/-- What Run answers: the state (none: 0), the end, what is told, the error. -/
def RunEPost (B : Nat) (s : MS) (l : List Stm) (w : World) (e : Ending) (w' : World) : Prop :=
  ∃ (p : Option Addr) (n : Int) (v u : Value), e = .returned (.tuple #[.pointer p, .agg #[.int .i64 n, v], u]) ∧ Upd [] w w' ∧
    (((rightR s.K l).1 ≠ 0 ∧ p = none ∧ n = 0 ∧ v = .slice none 0 0 ∧ ErrV w' u (rightR s.K l).1 (rightR s.K l).2) ∨
     ((rightR s.K l).1 = 0 ∧ (evL l (r0 s)).2 = 5 ∧ p = none ∧ n = 0 ∧ v = .slice none 0 0 ∧ u = .iface 63 (.int .i64 8)) ∨
     ((rightR s.K l).1 = 0 ∧ (evL l (r0 s)).2 ≠ 5 ∧ n = endC (evL l (r0 s)).2 ∧ u = .nilIface ∧ (evL l (r0 s)).1.told.length ≤ 201000 ∧ w'.ownsRow w.heap.size 3 1 v (evL l (r0 s)).1.told.length (ints (evL l (r0 s)).1.told) ∧
       ∃ sb F, p = some ⟨sb, 0, none⟩ ∧ Mdl w.heap.size sb F w' (if (evL l (r0 s)).2 = 0 then (evL l (r0 s)).1.s else s) ∧ ∀ b, v.ownBlock = some b → b ∉ F))
set_option maxRecDepth 100000 in
set_option maxHeartbeats 4000000 in
theorem run_ok (B sb : Nat) (F : List Nat) (s : MS) (l : List Stm) (v : Value) (w : World) (h : Mdl B sb F w s) (hv : Stms w w.heap.size v l) (hl : sizes l ≤ 900000) (hg : Typed w) :
    Calls Tryz.prog 9 #[.pointer (some ⟨sb, 0, none⟩), v] w (RunEPost B s l w) := by
  have HM := Lib.hid h
  have HV := Lib.hid hv
  have HG := Lib.hid hg
  have HL := Lib.hid hl
  have UA : Hid (Upd [] w (w.alloc (.cells #[.int .i64 0, .slice none 0 0] 32))) := Lib.hid ((Upd.refl [] w).alloc _)
  have EB : Hid (Blk (w.alloc (.cells #[.int .i64 0, .slice none 0 0] 32)) w.heap.size 32 #[.int .i64 0, .slice none 0 0]) := Lib.hid (Blk.new w _ _)
  clear h hv hg hl
  go_enter Tryz.func9, Tryz.ntmps9
  go_wp2_with fail
  refine (m_copy B sb F s _ (HM.out.upd0 UA.out)).mono ?_
  rintro e w1 ⟨sb1, F1, rfl, _, u1⟩
  have U1 := Lib.hid (UA.out.trans u1)
  have EB1 := Lib.hid (EB.out.upd u1 (by simp))
  clear u1
  go_wp2_with fail
  refine (m_kinds B sb F s _ (HM.out.upd0 U1.out)).mono ?_
  rintro e w2 ⟨vk, rfl, ok, u2⟩
  obtain ⟨Ak, ck, rfl, hnk, hck⟩ := own_slice ok
  have KL : Hid (s.K.length ≤ 8) := Lib.hid HM.out.1.k8
  have SK : Hid (Src w2 1 (.slice Ak s.K.length ck) s.K.length (s.K.map (Value.int .i64))) := Lib.hid (by have := Src.of_own ok; rw [flat_ints] at this; exact this)
  have U2 := Lib.hid (U1.out.trans u2)
  have EB2 := Lib.hid (EB1.out.upd u2 (by simp))
  have S2 := Lib.hid U2.out.size
  obtain ⟨nk, hk⟩ : ∃ nk, s.K.length = nk := ⟨_, rfl⟩
  rw [hk] at SK KL ⊢
  clear ok u2 hnk hck hk
  go_wp2_with fail
  refine (prog_right_ok l v Ak nk ck s.K w2 ((HV.out.belowW (U2.out.below (Nat.le_refl _) (by simp))).more S2.out) SK.out (by have := KL.out; omega) HL.out).mono ?_
  rintro e w3 ⟨u, rfl, eu, u3⟩
  have U3 := Lib.hid (U2.out.trans u3)
  have EB3 := Lib.hid (EB2.out.upd u3 (by simp))
  have EU := Lib.hid eu
  clear u3
  by_cases hr : (rightR s.K l).1 = 0
  · obtain rfl : u = .nilIface := by rw [hr] at eu; exact errv_zero eu
    have HR := Lib.hid hr
    clear eu hr
    go_wp2_with fail
    refine (m_copy B sb F s _ (HM.out.upd0 U3.out)).mono ?_
    rintro e w4 ⟨sb4, F4, rfl, hm4, u4⟩
    have M4 := Lib.hid hm4
    have U4 := Lib.hid (U3.out.trans u4)
    have EB4 := Lib.hid (EB3.out.upd u4 (by simp))
    clear hm4 u4
    go_wp2_with fail
    have R5 : Hid (Run w.heap.size w4.heap.size (fpR w4.heap.size (.slice none 0 0) F4) s.K (w4.alloc (.cells #[.pointer (some ⟨sb4, 0, none⟩), .int .i64 0, .int .i64 0, .int .i64 0, .int .i64 0, .int .i64 0, .int .i64 0, .int .i64 0, .int .i64 0, .int .i64 0, .slice none 0 0, .int .i64 0] 69)) (r0 s)) := Lib.hid (by
      have hu := (Upd.refl [] w4).alloc (.cells #[.pointer (some ⟨sb4, 0, none⟩), .int .i64 0, .int .i64 0, .int .i64 0, .int .i64 0, .int .i64 0, .int .i64 0, .int .i64 0, .int .i64 0, .int .i64 0, .slice none 0 0, .int .i64 0] 69)
      exact ⟨sb4, F4, _, rfl, ⟨Blk.new w4 _ _, (mdl_base M4.out U3.out.size).upd0 hu, own_nil _ _ _ _, U4.out.size, fun hm => by have := (M4.out.lt _ hm).2; omega, fun b hb => by simp [Value.ownBlock] at hb, ⟨rfl, rfl, by simp [r0], by simp [r0]⟩⟩⟩)
    have U5 : Hid (Upd [] w (w4.alloc (.cells #[.pointer (some ⟨sb4, 0, none⟩), .int .i64 0, .int .i64 0, .int .i64 0, .int .i64 0, .int .i64 0, .int .i64 0, .int .i64 0, .int .i64 0, .int .i64 0, .slice none 0 0, .int .i64 0] 69))) := Lib.hid (U4.out.alloc _)
    have HC := Lib.hid (all_right s.K l (rt_of_right HR.out) _ _ _ v _ _ R5.out (by unfold TB; simp [r0]) (HV.out.belowW (U5.out.below (Nat.le_refl _) (by simp))) U5.out.size)
    refine HC.out.mono ?_
    rintro e w6 ⟨u, rfl, hsv, ⟨F6, h6, f6⟩, t6⟩
    obtain ⟨X, hX⟩ : ∃ X, evL l (r0 s) = X := ⟨_, rfl⟩
    have HX := Lib.hid hX
    rw [hX] at hsv h6
    have HSV := Lib.hid hsv
    have F56 := Lib.hid f6
    obtain ⟨sb6, FM6, vt6, rfl, h6⟩ := h6
    have H6 := Lib.hid h6
    obtain ⟨At, ct, rfl, hct, hct'⟩ := own_slice h6.told
    have LT5 := Lib.hid R5.out.lt
    have U6 : Hid (Upd [] w w6) := Lib.hid (U5.out.trans' f6.upd (fun x hx => .inr (LT5.out x hx).1))
    have TY6 : Hid (Typed w6) := Lib.hid (HG.out.upd U6.out (by simp))
    obtain ⟨tn, htn⟩ : ∃ tn, X.1.told.length = tn := ⟨_, rfl⟩
    obtain ⟨en, hen⟩ : ∃ en, endC X.2 = en := ⟨_, rfl⟩
    have HEN := Lib.hid hen
    have HTN := Lib.hid htn
    have CS0 : Hid (∀ W, Upd [] w6 W → W.cell? ⟨w4.heap.size, 10, none⟩ = some (.slice At tn ct)) := Lib.hid (fun W hW => by rw [← HTN.out]; exact (H6.out.upd0 hW).cells.2.1)
    clear hsv h6 f6 t6 hX hct hct' htn hen HC
    go_wp2_with fail
    have CS : Hid (∀ W, Upd [] w6.drew W → W.cell? ⟨w4.heap.size, 10, none⟩ = some (.slice At tn ct)) := Lib.hid (fun W hW => CS0.out W ((Upd.refl [] w6).drew.trans hW))
    refine wp_invNT0 8 [(1, .det (.int .i64 en)), (6, .det (.agg #[.int .i64 en, .slice At tn ct])), (7, boxN w6.heap.size 32 #[.int .i64 0, .slice none 0 0])] (by kernel_rfl) (by simp) (by kernel_rfl) (by kernel_rfl) ⟨lasts0_of (lasts_det _), lasts0_of (lasts_det _), lasts_boxN _ _ _ _, trivial⟩ ?_
    simp only [List.take_succ_cons, List.take_zero, List.drop_succ_cons, List.drop_zero]
    with_reducible apply wpV_light
    · simp only [lightOp]
    · intro W hU hF
      have f0 := CS.out W hU
      clear hU hF
      go_simp
      exact rfl
    simp only [Act.put, List.setIfInBounds_toArray, List.set_cons_zero, List.set_cons_succ]
    refine wpV_heavy (by simp only [lightOp]) (by rfl) (fun W hU hk hF K hK => ?_) ?_
    · go_wp2_with fail
      refine (end_ok (HSV.out.upd0 ((Upd.refl [] w6).drew.trans hU)) (TY6.out.upd ((Upd.refl [] w6).drew.trans hU) (by simp))).mono ?_
      rintro e' wx ⟨rfl, ux⟩
      go_wp2_with fail
      rw [HEN.out]
      exact hK.out _ _ (outV_new rfl rfl (by intro b hb; cases hb) ux)
    rintro _ rfl
    simp only [Act.put, List.setIfInBounds_toArray, List.set_cons_zero, List.set_cons_succ]
    with_reducible apply wpV_light
    · simp only [lightOp]
    · intro W hU hF
      have f0 := CS.out W hU
      clear hU hF
      go_simp
      exact rfl
    simp only [Act.put, List.setIfInBounds_toArray, List.set_cons_zero, List.set_cons_succ]
    with_reducible apply wpV_light
    · simp only [lightOp]
    · intro W hU hF
      have f0 := CS.out W hU
      clear hU hF
      go_simp
      exact rfl
    simp only [Act.put, List.setIfInBounds_toArray, List.set_cons_zero, List.set_cons_succ]
    with_reducible apply wpV_light
    · simp only [lightOp]
    · intro W hU hF
      have f0 := CS.out W hU
      clear hU hF
      go_simp
      exact rfl
    simp only [Act.put, List.setIfInBounds_toArray, List.set_cons_zero, List.set_cons_succ]
    with_reducible apply wpV_light
    · simp only [lightOp]
    · intro W hU hF
      have f0 := CS.out W hU
      clear hU hF
      go_simp
      exact rfl
    simp only [Act.put, List.setIfInBounds_toArray, List.set_cons_zero, List.set_cons_succ]
    refine wpV_heavy (by simp only [lightOp]) (by rfl) (fun W hU hk hF K hK => ?_) ?_
    · go_wp2_with fail
      exact hK.out _ _ (outV_new rfl rfl (by intro b hb; cases hb) (.refl _ _))
    rintro _ rfl
    simp only [Act.put, List.setIfInBounds_toArray, List.set_cons_zero, List.set_cons_succ]
    refine wpV_heavy (by simp only [lightOp]) (by rfl) (fun W hU hk hF K hK => ?_) ?_
    · go_wp2_with fail
      exact hK.out _ _ (outV_new rfl ⟨_, rfl, ((Upd.refl [] w6).drew.trans hU).size, Blk.new _ _ _⟩ (by intro b hb; cases hb) ((Upd.refl [] _).alloc _))
    rintro _ ⟨g, rfl⟩
    simp only [Act.put, List.setIfInBounds_toArray, List.set_cons_zero, List.set_cons_succ]
    refine wpV_end (fun W hU _ hF => ?_)
    obtain ⟨g2, e7, hg2, hb7⟩ := hF.out.2.2.1 (by kernel_rfl)
    injection e7 with e7
    injection e7 with e7
    injection e7 with e7
    subst e7
    have U7 : Hid (Upd [] w6 W) := Lib.hid ((Upd.refl [] w6).drew.trans hU)
    have GG : Hid (w6.heap.size ≤ g) := Lib.hid hg2
    have B7 := Lib.hid hb7
    have c0 : W.cell? ⟨g, 0, none⟩ = some (.int .i64 0) := hb7.cell 0
    have c1 : W.cell? ⟨g, 1, none⟩ = some (.slice none 0 0) := hb7.cell 1
    have cf := hb7.frozen
    have cl := hb7.lt
    clear hU hF hg2 hb7
    refine wpT_op (by rfl) (fun K hK => ?_)
    go_wp2_with fail
    refine hK.out _ _ ?_
    clear hK K
    try simp only [Act.put, List.setIfInBounds_toArray, List.set_cons_zero, List.set_cons_succ]
    refine wpT_end ?_
    have U8 : Hid (Upd [] w6 ((W.setCell ⟨g, 0, none⟩ (.int .i64 en)).setCell ⟨g, 1, none⟩ (.slice At tn ct))) := Lib.hid ((U7.out.setCell (.inr GG.out) _).setCell (.inr GG.out) _)
    have B8 : Hid (Blk ((W.setCell ⟨g, 0, none⟩ (.int .i64 en)).setCell ⟨g, 1, none⟩ (.slice At tn ct)) g 32 #[.int .i64 en, .slice At tn ct]) := Lib.hid ((B7.out.set_eq (i := 0) rfl).set_eq (i := 1) rfl)
    clear c0 c1 cf cl
    generalize ((W.setCell ⟨g, 0, none⟩ (.int .i64 en)).setCell ⟨g, 1, none⟩ (.slice At tn ct)) = W8 at U8 B8 ⊢
    have H8 := Lib.hid (H6.out.upd0 U8.out)
    have E8 : Hid (Blk W8 w.heap.size 32 #[.int .i64 0, .slice none 0 0]) := Lib.hid (by
      have h3 := EB3.out.lt
      refine ((EB4.out.alloc _).upd F56.out.upd (fun hm => ?_)).upd U8.out (by simp)
      unfold fpR at hm
      rcases List.mem_cons.1 hm with hm | hm
      · have := U4.out.size
        have h4 := EB4.out.lt
        omega
      · have := (M4.out.lt _ (by simpa [Value.ownBlock] using hm)).1
        omega)
    have V8 : Hid (Upd [] w W8) := Lib.hid (U6.out.trans U8.out)
    have T8 : Hid (W8.ownsRow w.heap.size 3 1 (.slice At tn ct) tn (ints X.1.told)) := Lib.hid (by rw [← HTN.out]; have := H8.out.told; rw [HTN.out] at this ⊢; exact this)
    have c0 : W8.cell? ⟨g, 0, none⟩ = some (.int .i64 en) := B8.out.cell 0
    have c1 : W8.cell? ⟨g, 1, none⟩ = some (.slice At tn ct) := B8.out.cell 1
    have k0 : W8.cell? ⟨w4.heap.size, 0, none⟩ = some (.pointer (some ⟨sb6, 0, none⟩)) := H8.out.cells.1
    have e0 : W8.cell? ⟨w.heap.size, 0, none⟩ = some (.int .i64 0) := E8.out.cell 0
    have e1 : W8.cell? ⟨w.heap.size, 1, none⟩ = some (.slice none 0 0) := E8.out.cell 1
    have ef := E8.out.frozen
    have el := E8.out.lt
    have HCOD : Hid (Cod X.2) := Lib.hid (HX.out ▸ cod_evL l (r0 s))
    by_cases h5 : X.2 = 5
    · obtain rfl : en = 0 := by rw [← HEN.out, h5]; rfl
      obtain rfl : u = .iface 63 (.int .i64 8) := by
        rcases HSV.out with ⟨h, _⟩ | ⟨_, h⟩ | ⟨_, _, _, _, _, h⟩
        · omega
        · exact h
        · omega
      have H5 := Lib.hid h5
      clear h5
      go_wp2_with fail
      have E9 : Hid (Blk ((W8.setCell ⟨w.heap.size, 0, none⟩ (.int .i64 0)).setCell ⟨w.heap.size, 1, none⟩ (.slice none 0 0)) w.heap.size 32 #[.int .i64 0, (.slice none 0 0)]) := Lib.hid ((E8.out.set_eq (i := 0) rfl).set_eq (i := 1) rfl)
      have U9 : Hid (Upd [w.heap.size] W8 ((W8.setCell ⟨w.heap.size, 0, none⟩ (.int .i64 0)).setCell ⟨w.heap.size, 1, none⟩ (.slice none 0 0))) := Lib.hid (((Upd.refl [w.heap.size] W8).setCell (p := ⟨w.heap.size, 0, none⟩) (.inl (by simp)) _).setCell (p := ⟨w.heap.size, 1, none⟩) (.inl (by simp)) _)
      clear c0 c1 k0 e0 e1 ef el
      generalize ((W8.setCell ⟨w.heap.size, 0, none⟩ (.int .i64 0)).setCell ⟨w.heap.size, 1, none⟩ (.slice none 0 0)) = W9 at E9 U9 ⊢
      have d0 : W9.cell? ⟨w.heap.size, 0, none⟩ = some (.int .i64 0) := E9.out.cell 0
      have d1 : W9.cell? ⟨w.heap.size, 1, none⟩ = some (.slice none 0 0) := E9.out.cell 1
      have V9 : Hid (Upd [] w W9) := Lib.hid (V8.out.trans' U9.out (fun x hx => by simp at hx; subst hx; exact .inr (Nat.le_refl _)))
      refine bodyPost_ret (v := .tuple #[.pointer none, .agg #[.int .i64 0, (.slice none 0 0)], .iface 63 (.int .i64 8)]) (by simp [results, Tryz.results9, go_sem, d0, d1]) rfl ?_
      exact ⟨none, 0, _, _, rfl, V9.out, .inr (.inl ⟨HR.out, by rw [HX.out]; exact H5.out, rfl, rfl, rfl, rfl⟩)⟩
    · by_cases h0 : X.2 = 0
      · obtain rfl : en = 1 := by rw [← HEN.out, h0]; rfl
        have H0 := Lib.hid h0
        have H5 := Lib.hid h5
        clear h5 h0
        go_wp2_with fail
        go_region
        have E9 : Hid (Blk (((W8.setCell ⟨w.heap.size, 0, none⟩ (.int .i64 1)).setCell ⟨w.heap.size, 1, none⟩ (.slice At tn ct)).drew) w.heap.size 32 #[.int .i64 1, .slice At tn ct]) := Lib.hid ((E8.out.set_eq (i := 0) rfl).set_eq (i := 1) rfl).drew
        have U9 : Hid (Upd [w.heap.size] W8 (((W8.setCell ⟨w.heap.size, 0, none⟩ (.int .i64 1)).setCell ⟨w.heap.size, 1, none⟩ (.slice At tn ct)).drew)) := Lib.hid ((((Upd.refl [w.heap.size] W8).setCell (p := ⟨w.heap.size, 0, none⟩) (.inl (by simp)) _).setCell (p := ⟨w.heap.size, 1, none⟩) (.inl (by simp)) _)).drew
        clear c0 c1 k0 e0 e1 ef el
        generalize (((W8.setCell ⟨w.heap.size, 0, none⟩ (.int .i64 1)).setCell ⟨w.heap.size, 1, none⟩ (.slice At tn ct)).drew) = W9 at E9 U9 ⊢
        go_wp2_with fail
        have d0 : W9.cell? ⟨w.heap.size, 0, none⟩ = some (.int .i64 1) := E9.out.cell 0
        have d1 : W9.cell? ⟨w.heap.size, 1, none⟩ = some (.slice At tn ct) := E9.out.cell 1
        have V9 : Hid (Upd [] w W9) := Lib.hid (V8.out.trans' U9.out (fun x hx => by simp at hx; subst hx; exact .inr (Nat.le_refl _)))
        refine bodyPost_ret (v := .tuple #[.pointer (some ⟨sb6, 0, none⟩), .agg #[.int .i64 1, .slice At tn ct], .nilIface]) (by simp [results, Tryz.results9, go_sem, d0, d1]) rfl ?_
        have hm := H8.out.mdl
        have hoff := hm.off E8.out (by decide) (by decide) (by decide)
        refine ⟨some ⟨sb6, 0, none⟩, 1, _, _, rfl, V9.out, .inr (.inr ⟨HR.out, by rw [HX.out]; exact H5.out, by rw [HX.out]; exact HEN.out.symm, rfl, by rw [HX.out]; exact H8.out.ok.told, ?_, sb6, FM6, rfl, ?_, ?_⟩)⟩
        · rw [HX.out, HTN.out]
          exact own_upd T8.out U9.out (fun b hb hm => own_type T8.out E8.out (by decide) (by simp at hm; rw [hm] at hb; exact hb))
        · rw [HX.out, if_pos H0.out]
          exact hm.upd U9.out (fun k hk hk' => by simp at hk'; rw [hk'] at hk; exact hoff hk)
        · exact fun b hb => H8.out.tm b (by rw [HTN.out]; exact hb)
      · have f0 : (en == (0 : Int)) = false := by
          rw [← HEN.out]; rcases HCOD.out with h | h | h | h | h <;> first | exact absurd h h0 | exact absurd h h5 | (rw [h]; rfl)
        have f1 : (en == (1 : Int)) = false := by
          rw [← HEN.out]; rcases HCOD.out with h | h | h | h | h <;> first | exact absurd h h0 | exact absurd h h5 | (rw [h]; rfl)
        have H0 := Lib.hid h0
        have H5 := Lib.hid h5
        clear h5 h0
        go_wp2_with fail
        have CS9 : Hid (∀ W, Upd [] W8.drew W → W.cell? ⟨g, 0, none⟩ = some (.int .i64 en) ∧ W.cell? ⟨g, 1, none⟩ = some (.slice At tn ct)) := Lib.hid (fun W hW => by
          have hb := B8.out.upd ((Upd.refl [] W8).drew.trans hW) (by simp)
          exact ⟨hb.cell 0, hb.cell 1⟩)
        refine wp_invNT0 4 [(1, mdlN W8.heap.size s)] (by kernel_rfl) (by simp) (by kernel_rfl) (by kernel_rfl) ⟨lasts_mdlN _ _ _, trivial⟩ ?_
        simp only [List.take_succ_cons, List.take_zero, List.drop_succ_cons, List.drop_zero]
        with_reducible apply wpV_light
        · simp only [lightOp]
        · intro W hU hF
          clear hU hF
          go_simp
          exact rfl
        simp only [Act.put, List.setIfInBounds_toArray, List.set_cons_zero, List.set_cons_succ]
        refine wpV_heavy (by simp only [lightOp]) (by rfl) (fun W hU hk hF K hK => ?_) ?_
        · go_wp2_with fail
          refine (m_copy B sb F s W (HM.out.upd0 (V8.out.trans ((Upd.refl [] W8).drew.trans hU)))).mono ?_
          rintro e wx ⟨sb9, F9, rfl, hm9, u9⟩
          go_wp2_with fail
          exact hK.out _ _ (outV_new rfl ⟨sb9, F9, rfl, mdl_base hm9 ((Upd.refl [] W8).drew.trans hU).size⟩ (by intro b hb; cases hb) u9)
        rintro _ ⟨sb9, rfl⟩
        simp only [Act.put, List.setIfInBounds_toArray, List.set_cons_zero, List.set_cons_succ]
        with_reducible apply wpV_light
        · simp only [lightOp]
        · intro W hU hF
          have f0 := CS9.out W hU
          obtain ⟨f01, f02⟩ := f0
          clear hU hF
          go_simp
          exact rfl
        simp only [Act.put, List.setIfInBounds_toArray, List.set_cons_zero, List.set_cons_succ]
        with_reducible apply wpV_light
        · simp only [lightOp]
        · intro W hU hF
          clear hU hF
          go_simp
          exact rfl
        simp only [Act.put, List.setIfInBounds_toArray, List.set_cons_zero, List.set_cons_succ]
        refine wpV_end (fun W hU _ hF => ?_)
        obtain ⟨sb9', F9, e9, hm9⟩ := hF.out.1 (by kernel_rfl)
        injection e9 with e9
        injection e9 with e9
        injection e9 with e9
        subst e9
        have U7' : Hid (Upd [] W8 W) := Lib.hid ((Upd.refl [] W8).drew.trans hU)
        have M9 := Lib.hid hm9
        have E8' := Lib.hid (E8.out.upd U7'.out (by simp))
        have V8' := Lib.hid (V8.out.trans U7'.out)
        have T8' := Lib.hid (own_upd0 T8.out U7'.out)
        clear c0 c1 k0 e0 e1 ef el hU hF hm9
        have c0 : W.cell? ⟨g, 0, none⟩ = some (.int .i64 en) := (B8.out.upd U7'.out (by simp)).cell 0
        have c1 : W.cell? ⟨g, 1, none⟩ = some (.slice At tn ct) := (B8.out.upd U7'.out (by simp)).cell 1
        have k0 : W.cell? ⟨w4.heap.size, 0, none⟩ = some (.pointer (some ⟨sb6, 0, none⟩)) := (H8.out.upd0 U7'.out).cells.1
        have e0 : W.cell? ⟨w.heap.size, 0, none⟩ = some (.int .i64 0) := E8'.out.cell 0
        have e1 : W.cell? ⟨w.heap.size, 1, none⟩ = some (.slice none 0 0) := E8'.out.cell 1
        have ef := E8'.out.frozen
        have el := E8'.out.lt
        refine wpT_op (by rfl) (fun K hK => ?_)
        go_wp2_with fail
        refine hK.out _ _ ?_
        clear hK K
        try simp only [Act.put, List.setIfInBounds_toArray, List.set_cons_zero, List.set_cons_succ]
        refine wpT_op (by rfl) (fun K hK => ?_)
        go_wp2_with fail
        refine hK.out _ _ ?_
        clear hK K
        try simp only [Act.put, List.setIfInBounds_toArray, List.set_cons_zero, List.set_cons_succ]
        refine wpT_end ?_
        have E9 : Hid (Blk ((W.setCell ⟨w.heap.size, 0, none⟩ (.int .i64 en)).setCell ⟨w.heap.size, 1, none⟩ (.slice At tn ct)) w.heap.size 32 #[.int .i64 en, .slice At tn ct]) := Lib.hid ((E8'.out.set_eq (i := 0) rfl).set_eq (i := 1) rfl)
        have U9 : Hid (Upd [w.heap.size] W ((W.setCell ⟨w.heap.size, 0, none⟩ (.int .i64 en)).setCell ⟨w.heap.size, 1, none⟩ (.slice At tn ct))) := Lib.hid (((Upd.refl [w.heap.size] W).setCell (p := ⟨w.heap.size, 0, none⟩) (.inl (by simp)) _).setCell (p := ⟨w.heap.size, 1, none⟩) (.inl (by simp)) _)
        clear c0 c1 k0 e0 e1 ef el
        generalize ((W.setCell ⟨w.heap.size, 0, none⟩ (.int .i64 en)).setCell ⟨w.heap.size, 1, none⟩ (.slice At tn ct)) = W9 at E9 U9 ⊢
        go_wp2_with fail
        have d0 : W9.cell? ⟨w.heap.size, 0, none⟩ = some (.int .i64 en) := E9.out.cell 0
        have d1 : W9.cell? ⟨w.heap.size, 1, none⟩ = some (.slice At tn ct) := E9.out.cell 1
        have V9 : Hid (Upd [] w W9) := Lib.hid (V8'.out.trans' U9.out (fun x hx => by simp at hx; subst hx; exact .inr (Nat.le_refl _)))
        refine bodyPost_ret (v := .tuple #[.pointer (some ⟨sb9, 0, none⟩), .agg #[.int .i64 en, .slice At tn ct], .nilIface]) (by simp [results, Tryz.results9, go_sem, d0, d1]) rfl ?_
        have hoff := M9.out.off E8'.out (by decide) (by decide) (by decide)
        refine ⟨some ⟨sb9, 0, none⟩, en, _, _, rfl, V9.out, .inr (.inr ⟨HR.out, by rw [HX.out]; exact H5.out, by rw [HX.out]; exact HEN.out.symm, rfl, by rw [HX.out]; exact H8.out.ok.told, ?_, sb9, F9, rfl, ?_, ?_⟩)⟩
        · rw [HX.out, HTN.out]
          exact own_upd T8'.out U9.out (fun b hb hm => own_type T8'.out E8'.out (by decide) (by simp at hm; rw [hm] at hb; exact hb))
        · rw [HX.out, if_neg H0.out]
          exact mdl_base (M9.out.upd U9.out (fun k hk hk' => by simp at hk'; rw [hk'] at hk; exact hoff hk)) V8.out.size
        · intro b hb hb'
          have h1 := (own_lt T8.out hb).2
          have h2 := (M9.out.lt b hb').1
          omega
  · have HR := Lib.hid hr
    have c0 := EB3.out.cell 0
    have c1 := EB3.out.cell 1
    have cf := EB3.out.frozen
    have cl := EB3.out.lt
    have z0 : (#[Value.int .i64 0, .slice none 0 0] : Array Value)[0]? = some (.int .i64 0) := rfl
    have z1 : (#[Value.int .i64 0, .slice none 0 0] : Array Value)[1]? = some (.slice none 0 0) := rfl
    rw [z0] at c0
    rw [z1] at c1
    clear z0 z1
    have EB4 : Hid (Blk ((w3.setCell ⟨w.heap.size, 0, none⟩ (.int .i64 0)).setCell ⟨w.heap.size, 1, none⟩ (.slice none 0 0)) w.heap.size 32 #[.int .i64 0, .slice none 0 0]) := Lib.hid ((EB3.out.set_eq (i := 0) rfl).set_eq (i := 1) rfl)
    have U34 : Hid (Upd [w.heap.size] w3 ((w3.setCell ⟨w.heap.size, 0, none⟩ (.int .i64 0)).setCell ⟨w.heap.size, 1, none⟩ (.slice none 0 0))) := Lib.hid ((((Upd.refl [w.heap.size] w3).setCell (p := ⟨w.heap.size, 0, none⟩) (.inl (by simp)) _).setCell (p := ⟨w.heap.size, 1, none⟩) (.inl (by simp)) _))
    have U4 : Hid (Upd [] w ((w3.setCell ⟨w.heap.size, 0, none⟩ (.int .i64 0)).setCell ⟨w.heap.size, 1, none⟩ (.slice none 0 0))) := Lib.hid (U3.out.trans' U34.out (fun x hx => by simp at hx; subst hx; exact .inr (Nat.le_refl _)))
    rcases eu with ⟨_, h0, _⟩ | ⟨rfl, hb, ha⟩ | ⟨g, rfl, hb, hn⟩
    · exact absurd h0 hr
    · have HBN := Lib.hid (And.intro hb ha)
      clear hr hb ha
      go_wp2_with fail
      clear c0 c1 cf cl
      generalize ((w3.setCell ⟨w.heap.size, 0, none⟩ (.int .i64 0)).setCell ⟨w.heap.size, 1, none⟩ (.slice none 0 0)) = W4 at EB4 U34 U4 ⊢
      have d0 : W4.cell? ⟨w.heap.size, 0, none⟩ = some (.int .i64 0) := EB4.out.cell 0
      have d1 : W4.cell? ⟨w.heap.size, 1, none⟩ = some (.slice none 0 0) := EB4.out.cell 1
      refine bodyPost_ret (v := .tuple #[.pointer none, .agg #[.int .i64 0, .slice none 0 0], (.iface 63 (.int .i64 (rightR s.K l).1))]) (by simp [results, Tryz.results9, go_sem, d0, d1]) rfl ?_
      exact ⟨none, 0, _, _, rfl, U4.out, .inl ⟨HR.out, rfl, rfl, rfl, .inr (.inl ⟨rfl, HBN.out.1, HBN.out.2⟩)⟩⟩
    · have HBN := Lib.hid (And.intro hb hn)
      clear hr hb hn
      go_wp2_with fail
      clear c0 c1 cf cl
      generalize ((w3.setCell ⟨w.heap.size, 0, none⟩ (.int .i64 0)).setCell ⟨w.heap.size, 1, none⟩ (.slice none 0 0)) = W4 at EB4 U34 U4 ⊢
      have d0 : W4.cell? ⟨w.heap.size, 0, none⟩ = some (.int .i64 0) := EB4.out.cell 0
      have d1 : W4.cell? ⟨w.heap.size, 1, none⟩ = some (.slice none 0 0) := EB4.out.cell 1
      refine bodyPost_ret (v := .tuple #[.pointer none, .agg #[.int .i64 0, .slice none 0 0], (.iface 96 (.pointer (some ⟨g, 0, none⟩)))]) (by simp [results, Tryz.results9, go_sem, d0, d1]) rfl ?_
      exact ⟨none, 0, _, _, rfl, U4.out, .inl ⟨HR.out, rfl, rfl, rfl, .inr (.inr ⟨g, rfl, HBN.out.1.upd U34.out (by simp; exact Blk.ne_ HBN.out.1 EB3.out (by decide)), HBN.out.2⟩)⟩⟩
end Go.Proofs.YtfbeaklplefojaaGreatDoor.Ev

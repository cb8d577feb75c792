/-
  eval.runner: ask.
-/
import Derived.Test.YtfbeaklplefojaaGreatDoorEvB17
set_option linter.unusedVariables false
namespace Go.Proofs.YtfbeaklplefojaaGreatDoor.Ev
open Go.RowKit Assoc MP
attribute [local go_sem] litStep_value

theorem errv_zero {w : World} {v : Value} {at_ : Int} (h : ErrV w v 0 at_) : v = .nilIface := by
  rcases h with ⟨h, _⟩ | ⟨_, h, _⟩ | ⟨g, _, _, h, _⟩
  · exact h
  · omega
  · omega
theorem errv_num {w : World} {v : Value} {no : Int} (h : ErrV w v no 0) (hn : no ≠ 0) (h8 : ∀ g, ¬ v = .iface 96 (.pointer (some ⟨g, 0, none⟩))) : v = .iface 63 (.int .i64 no) := by
  rcases h with ⟨_, h, _⟩ | ⟨h, _⟩ | ⟨g, h, _⟩
  · exact absurd h hn
  · exact h
  · exact absurd h (h8 g)
theorem Run.mdl {H rb : Nat} {F : List Nat} {ks : List Int} {w : World} {r : RS} (h : Run H rb F ks w r) : ∃ sb FM, ∀ w', Upd [] w w' → Mdl H sb FM w' r.s ∧ w'.cell? ⟨rb, 0, none⟩ = some (.pointer (some ⟨sb, 0, none⟩)) := by
  obtain ⟨sb, FM, vt, _, h⟩ := h
  exact ⟨sb, FM, fun w' hu => ⟨(h.upd0 hu).mdl, (h.upd0 hu).cells.1⟩⟩
theorem upd_refl (w : World) : Upd [] w w := .refl _ _

theorem RunPost.pre {H rb : Nat} {F : List Nat} {ks : List Int} {r : RS} {w w1 w' : World} (h : RunPost H rb F ks r w1 w') (hu : Upd [] w w1) : RunPost H rb F ks r w w' := by
  obtain ⟨F', h1, h2⟩ := h
  exact ⟨F', h1, h2.pre hu⟩
set_option maxRecDepth 100000 in
set_option maxHeartbeats 4000000 in
theorem ask_get1 {H rb : Nat} {F : List Nat} {ks : List Int} {r : RS} (c reg ar an br bn : Int) (vb ve : Value) (w : World) (h : Run H rb F ks w r) (hc : isC r.s c = true) (h0 : 0 ≤ reg) (h8 : reg ≤ 8) (ha : 0 ≤ ar ∧ ar ≤ 8) (hb : 0 ≤ br ∧ br ≤ 8) (hk3 : True) (hH : H ≤ w.heap.size) (hl : r.told.length + 1 ≤ 201 * 1000) (g : Int) (hg : get (coll r.s c.toNat) (keyV r ar an) = some g) :
    Calls Tryz.prog 71 #[.pointer (some ⟨rb, 0, none⟩), .agg #[.int .i64 1, .int .i64 c, .int .i64 reg, .int .i64 ar, .int .i64 an, .int .i64 br, .int .i64 bn, vb, ve]] w fun e w' => e = .returned .nilIface ∧ RunPost H rb F ks (tell r reg g) w w' := by
  have HR := Lib.hid h
  obtain ⟨sb, FM, hM⟩ := h.mdl
  have HM := Lib.hid hM
  have HC := Lib.hid hc
  have H3 := Lib.hid hk3
  have HAB := Lib.hid (And.intro ha hb)
  have HL := Lib.hid (And.intro (And.intro h0 h8) (And.intro hH hl))
  obtain ⟨z, hz⟩ : ∃ z, keyV r ar an = z := ⟨_, rfl⟩
  have HZ := Lib.hid hz
  clear hz
  rw [HZ.out] at hg
  have HG := Lib.hid hg
  clear hg
  have hrb := HR.out.lt
  clear h hM hc hk3 ha hb h0 h8 hH hl
  go_enter Tryz.func71, Tryz.ntmps71
  go_wp2_with fail
  have XB : Hid (Blk (w.alloc (.cells #[.int .i64 1, .int .i64 c, .int .i64 reg, .int .i64 ar, .int .i64 an, .int .i64 br, .int .i64 bn, vb, ve] 40)) w.heap.size 40 #[.int .i64 1, .int .i64 c, .int .i64 reg, .int .i64 ar, .int .i64 an, .int .i64 br, .int .i64 bn, vb, ve]) := Lib.hid (Blk.new w _ _)
  have UA : Hid (Upd [] w (w.alloc (.cells #[.int .i64 1, .int .i64 c, .int .i64 reg, .int .i64 ar, .int .i64 an, .int .i64 br, .int .i64 bn, vb, ve] 40))) := Lib.hid ((Upd.refl [] w).alloc _)
  generalize (w.alloc (.cells #[.int .i64 1, .int .i64 c, .int .i64 reg, .int .i64 ar, .int .i64 an, .int .i64 br, .int .i64 bn, vb, ve] 40)) = w1 at *
  have CS : Hid (∀ W, Upd [] w1.drew W → W.cell? ⟨w.heap.size, 1, none⟩ = some (.int .i64 c) ∧ W.cell? ⟨w.heap.size, 3, none⟩ = some (.int .i64 ar) ∧ W.cell? ⟨w.heap.size, 4, none⟩ = some (.int .i64 an) ∧ W.cell? ⟨w.heap.size, 5, none⟩ = some (.int .i64 br) ∧ W.cell? ⟨w.heap.size, 6, none⟩ = some (.int .i64 bn) ∧ W.cell? ⟨rb, 0, none⟩ = some (.pointer (some ⟨sb, 0, none⟩))) := Lib.hid (fun W hW => by
    have hu := (Upd.refl [] w1).drew.trans hW
    have hb := XB.out.upd hu (by simp)
    exact ⟨hb.cell 1, hb.cell 3, hb.cell 4, hb.cell 5, hb.cell 6, (HM.out W (UA.out.trans hu)).2⟩)
  refine wp_invN [(9, .det (.int .i64 z)), (10, .det (.tuple #[.int .i64 g, .bool true, .nilIface]))] [] (by kernel_rfl) (by kernel_rfl) (by kernel_rfl) ⟨lasts_det _, lasts_det _, trivial⟩ ?_
  with_reducible apply wpV_light
  · simp only [lightOp]
  · intro W hU hF
    have f0 := CS.out W hU
    clear hU hF
    go_simp
    exact rfl
  simp only [Act.put, List.setIfInBounds_toArray, List.set_cons_zero, List.set_cons_succ]
  with_reducible apply wpV_light
  · simp only [lightOp]
  · intro W hU hF
    have f0 := CS.out W hU
    clear hU hF
    go_simp
    exact rfl
  simp only [Act.put, List.setIfInBounds_toArray, List.set_cons_zero, List.set_cons_succ]
  with_reducible apply wpV_light
  · simp only [lightOp]
  · intro W hU hF
    have f0 := CS.out W hU
    clear hU hF
    go_simp
    exact rfl
  simp only [Act.put, List.setIfInBounds_toArray, List.set_cons_zero, List.set_cons_succ]
  with_reducible apply wpV_light
  · simp only [lightOp]
  · intro W hU hF
    have f0 := CS.out W hU
    clear hU hF
    go_simp
    exact rfl
  simp only [Act.put, List.setIfInBounds_toArray, List.set_cons_zero, List.set_cons_succ]
  with_reducible apply wpV_light
  · simp only [lightOp]
  · intro W hU hF
    have f0 := CS.out W hU
    clear hU hF
    go_simp
    exact rfl
  simp only [Act.put, List.setIfInBounds_toArray, List.set_cons_zero, List.set_cons_succ]
  with_reducible apply wpV_light
  · simp only [lightOp]
  · intro W hU hF
    have f0 := CS.out W hU
    clear hU hF
    go_simp
    exact rfl
  simp only [Act.put, List.setIfInBounds_toArray, List.set_cons_zero, List.set_cons_succ]
  with_reducible apply wpV_light
  · simp only [lightOp]
  · intro W hU hF
    have f0 := CS.out W hU
    clear hU hF
    go_simp
    exact rfl
  simp only [Act.put, List.setIfInBounds_toArray, List.set_cons_zero, List.set_cons_succ]
  with_reducible apply wpV_light
  · simp only [lightOp]
  · intro W hU hF
    have f0 := CS.out W hU
    clear hU hF
    go_simp
    exact rfl
  simp only [Act.put, List.setIfInBounds_toArray, List.set_cons_zero, List.set_cons_succ]
  with_reducible apply wpV_light
  · simp only [lightOp]
  · intro W hU hF
    have f0 := CS.out W hU
    clear hU hF
    go_simp
    exact rfl
  simp only [Act.put, List.setIfInBounds_toArray, List.set_cons_zero, List.set_cons_succ]
  refine wpV_heavy (by simp only [lightOp]) (by rfl) (fun W hU hk hF K hK => ?_) ?_
  · go_wp2_with fail
    refine (key_ok ar an W (HR.out.upd0 (UA.out.trans ((Upd.refl [] w1).drew.trans hU))) HAB.out.1).mono ?_
    rintro e wx ⟨rfl, ux⟩
    go_wp2_with fail
    rw [HZ.out]
    exact hK.out _ _ (outV_new rfl rfl (by intro b hb; cases hb) ux)
  rintro _ rfl
  simp only [Act.put, List.setIfInBounds_toArray, List.set_cons_zero, List.set_cons_succ]
  refine wpV_heavy (by simp only [lightOp]) (by rfl) (fun W hU hk hF K hK => ?_) ?_
  · go_wp2_with fail
    refine (m_get H sb FM r.s c z W (HM.out W (UA.out.trans ((Upd.refl [] w1).drew.trans hU))).1).mono ?_
    rintro e wx ⟨v, rfl, ev, ux⟩
    simp only [HC.out, HG.out, Option.getD_some, Option.isSome_some, Option.getD_none, Option.isSome_none, if_true] at ev ⊢
    obtain rfl := errv_zero ev
    go_wp2_with fail
    exact hK.out _ _ (outV_new rfl rfl (by intro b hb; cases hb) ux)
  rintro _ rfl
  simp only [Act.put, List.setIfInBounds_toArray, List.set_cons_zero, List.set_cons_succ]
  with_reducible apply wpV_light
  · simp only [lightOp]
  · intro W hU hF
    have f0 := CS.out W hU
    clear hU hF
    go_simp
    exact rfl
  simp only [Act.put, List.setIfInBounds_toArray, List.set_cons_zero, List.set_cons_succ]
  with_reducible apply wpV_light
  · simp only [lightOp]
  · intro W hU hF
    have f0 := CS.out W hU
    clear hU hF
    go_simp
    exact rfl
  simp only [Act.put, List.setIfInBounds_toArray, List.set_cons_zero, List.set_cons_succ]
  with_reducible apply wpV_light
  · simp only [lightOp]
  · intro W hU hF
    have f0 := CS.out W hU
    clear hU hF
    go_simp
    exact rfl
  simp only [Act.put, List.setIfInBounds_toArray, List.set_cons_zero, List.set_cons_succ]
  with_reducible apply wpV_light
  · simp only [lightOp]
  · intro W hU hF
    have f0 := CS.out W hU
    clear hU hF
    go_simp
    exact rfl
  simp only [Act.put, List.setIfInBounds_toArray, List.set_cons_zero, List.set_cons_succ]
  with_reducible apply wpV_light
  · simp only [lightOp]
  · intro W hU hF
    have f0 := CS.out W hU
    clear hU hF
    go_simp
    exact rfl
  simp only [Act.put, List.setIfInBounds_toArray, List.set_cons_zero, List.set_cons_succ]
  with_reducible apply wpV_light
  · simp only [lightOp]
  · intro W hU hF
    have f0 := CS.out W hU
    clear hU hF
    go_simp
    exact rfl
  simp only [Act.put, List.setIfInBounds_toArray, List.set_cons_zero, List.set_cons_succ]
  with_reducible apply wpV_light
  · simp only [lightOp]
  · intro W hU hF
    have f0 := CS.out W hU
    clear hU hF
    go_simp
    exact rfl
  simp only [Act.put, List.setIfInBounds_toArray, List.set_cons_zero, List.set_cons_succ]
  refine wpV_end (fun W hU _ hF => ?_)
  have UX : Hid (Upd [] w W) := Lib.hid (UA.out.trans ((Upd.refl [] w1).drew.trans hU))
  have BX : Hid (Blk W w.heap.size 40 _) := Lib.hid (XB.out.upd ((Upd.refl [] w1).drew.trans hU) (by simp))
  have e0 : W.cell? ⟨w.heap.size, 0, none⟩ = some (.int .i64 1) := BX.out.cell 0
  have e2 : W.cell? ⟨w.heap.size, 2, none⟩ = some (.int .i64 reg) := BX.out.cell 2
  clear hU hF
  refine wpT_end ?_
  go_wp2_with fail
  refine (tell_ok reg g W (HR.out.upd0 UX.out) HL.out.1.1 HL.out.1.2 (Nat.le_trans HL.out.2.1 UX.out.size) HL.out.2.2).mono ?_
  rintro e w4 ⟨rfl, hp⟩
  have HP := Lib.hid (hp.pre UX.out)
  clear hp e0 e2
  go_wp2_with fail
  go_ret
  exact ⟨rfl, HP.out⟩
set_option maxRecDepth 100000 in
set_option maxHeartbeats 4000000 in
theorem ask_get0 {H rb : Nat} {F : List Nat} {ks : List Int} {r : RS} (c reg ar an br bn : Int) (vb ve : Value) (w : World) (h : Run H rb F ks w r) (hc : isC r.s c = true) (h0 : 0 ≤ reg) (h8 : reg ≤ 8) (ha : 0 ≤ ar ∧ ar ≤ 8) (hb : 0 ≤ br ∧ br ≤ 8) (hk3 : True) (hH : H ≤ w.heap.size) (hl : r.told.length + 1 ≤ 201 * 1000) (hg : get (coll r.s c.toNat) (keyV r ar an) = none) :
    Calls Tryz.prog 71 #[.pointer (some ⟨rb, 0, none⟩), .agg #[.int .i64 1, .int .i64 c, .int .i64 reg, .int .i64 ar, .int .i64 an, .int .i64 br, .int .i64 bn, vb, ve]] w fun e w' => e = .returned .nilIface ∧ RunPost H rb F ks (tell r reg (-1)) w w' := by
  have HR := Lib.hid h
  obtain ⟨sb, FM, hM⟩ := h.mdl
  have HM := Lib.hid hM
  have HC := Lib.hid hc
  have H3 := Lib.hid hk3
  have HAB := Lib.hid (And.intro ha hb)
  have HL := Lib.hid (And.intro (And.intro h0 h8) (And.intro hH hl))
  obtain ⟨z, hz⟩ : ∃ z, keyV r ar an = z := ⟨_, rfl⟩
  have HZ := Lib.hid hz
  clear hz
  rw [HZ.out] at hg
  have HG := Lib.hid hg
  clear hg
  have hrb := HR.out.lt
  clear h hM hc hk3 ha hb h0 h8 hH hl
  go_enter Tryz.func71, Tryz.ntmps71
  go_wp2_with fail
  have XB : Hid (Blk (w.alloc (.cells #[.int .i64 1, .int .i64 c, .int .i64 reg, .int .i64 ar, .int .i64 an, .int .i64 br, .int .i64 bn, vb, ve] 40)) w.heap.size 40 #[.int .i64 1, .int .i64 c, .int .i64 reg, .int .i64 ar, .int .i64 an, .int .i64 br, .int .i64 bn, vb, ve]) := Lib.hid (Blk.new w _ _)
  have UA : Hid (Upd [] w (w.alloc (.cells #[.int .i64 1, .int .i64 c, .int .i64 reg, .int .i64 ar, .int .i64 an, .int .i64 br, .int .i64 bn, vb, ve] 40))) := Lib.hid ((Upd.refl [] w).alloc _)
  generalize (w.alloc (.cells #[.int .i64 1, .int .i64 c, .int .i64 reg, .int .i64 ar, .int .i64 an, .int .i64 br, .int .i64 bn, vb, ve] 40)) = w1 at *
  have CS : Hid (∀ W, Upd [] w1.drew W → W.cell? ⟨w.heap.size, 1, none⟩ = some (.int .i64 c) ∧ W.cell? ⟨w.heap.size, 3, none⟩ = some (.int .i64 ar) ∧ W.cell? ⟨w.heap.size, 4, none⟩ = some (.int .i64 an) ∧ W.cell? ⟨w.heap.size, 5, none⟩ = some (.int .i64 br) ∧ W.cell? ⟨w.heap.size, 6, none⟩ = some (.int .i64 bn) ∧ W.cell? ⟨rb, 0, none⟩ = some (.pointer (some ⟨sb, 0, none⟩))) := Lib.hid (fun W hW => by
    have hu := (Upd.refl [] w1).drew.trans hW
    have hb := XB.out.upd hu (by simp)
    exact ⟨hb.cell 1, hb.cell 3, hb.cell 4, hb.cell 5, hb.cell 6, (HM.out W (UA.out.trans hu)).2⟩)
  refine wp_invN [(9, .det (.int .i64 z)), (10, .det (.tuple #[.int .i64 0, .bool false, .nilIface]))] [] (by kernel_rfl) (by kernel_rfl) (by kernel_rfl) ⟨lasts_det _, lasts_det _, trivial⟩ ?_
  with_reducible apply wpV_light
  · simp only [lightOp]
  · intro W hU hF
    have f0 := CS.out W hU
    clear hU hF
    go_simp
    exact rfl
  simp only [Act.put, List.setIfInBounds_toArray, List.set_cons_zero, List.set_cons_succ]
  with_reducible apply wpV_light
  · simp only [lightOp]
  · intro W hU hF
    have f0 := CS.out W hU
    clear hU hF
    go_simp
    exact rfl
  simp only [Act.put, List.setIfInBounds_toArray, List.set_cons_zero, List.set_cons_succ]
  with_reducible apply wpV_light
  · simp only [lightOp]
  · intro W hU hF
    have f0 := CS.out W hU
    clear hU hF
    go_simp
    exact rfl
  simp only [Act.put, List.setIfInBounds_toArray, List.set_cons_zero, List.set_cons_succ]
  with_reducible apply wpV_light
  · simp only [lightOp]
  · intro W hU hF
    have f0 := CS.out W hU
    clear hU hF
    go_simp
    exact rfl
  simp only [Act.put, List.setIfInBounds_toArray, List.set_cons_zero, List.set_cons_succ]
  with_reducible apply wpV_light
  · simp only [lightOp]
  · intro W hU hF
    have f0 := CS.out W hU
    clear hU hF
    go_simp
    exact rfl
  simp only [Act.put, List.setIfInBounds_toArray, List.set_cons_zero, List.set_cons_succ]
  with_reducible apply wpV_light
  · simp only [lightOp]
  · intro W hU hF
    have f0 := CS.out W hU
    clear hU hF
    go_simp
    exact rfl
  simp only [Act.put, List.setIfInBounds_toArray, List.set_cons_zero, List.set_cons_succ]
  with_reducible apply wpV_light
  · simp only [lightOp]
  · intro W hU hF
    have f0 := CS.out W hU
    clear hU hF
    go_simp
    exact rfl
  simp only [Act.put, List.setIfInBounds_toArray, List.set_cons_zero, List.set_cons_succ]
  with_reducible apply wpV_light
  · simp only [lightOp]
  · intro W hU hF
    have f0 := CS.out W hU
    clear hU hF
    go_simp
    exact rfl
  simp only [Act.put, List.setIfInBounds_toArray, List.set_cons_zero, List.set_cons_succ]
  with_reducible apply wpV_light
  · simp only [lightOp]
  · intro W hU hF
    have f0 := CS.out W hU
    clear hU hF
    go_simp
    exact rfl
  simp only [Act.put, List.setIfInBounds_toArray, List.set_cons_zero, List.set_cons_succ]
  refine wpV_heavy (by simp only [lightOp]) (by rfl) (fun W hU hk hF K hK => ?_) ?_
  · go_wp2_with fail
    refine (key_ok ar an W (HR.out.upd0 (UA.out.trans ((Upd.refl [] w1).drew.trans hU))) HAB.out.1).mono ?_
    rintro e wx ⟨rfl, ux⟩
    go_wp2_with fail
    rw [HZ.out]
    exact hK.out _ _ (outV_new rfl rfl (by intro b hb; cases hb) ux)
  rintro _ rfl
  simp only [Act.put, List.setIfInBounds_toArray, List.set_cons_zero, List.set_cons_succ]
  refine wpV_heavy (by simp only [lightOp]) (by rfl) (fun W hU hk hF K hK => ?_) ?_
  · go_wp2_with fail
    refine (m_get H sb FM r.s c z W (HM.out W (UA.out.trans ((Upd.refl [] w1).drew.trans hU))).1).mono ?_
    rintro e wx ⟨v, rfl, ev, ux⟩
    simp only [HC.out, HG.out, Option.getD_some, Option.isSome_some, Option.getD_none, Option.isSome_none, if_true] at ev ⊢
    obtain rfl := errv_zero ev
    go_wp2_with fail
    exact hK.out _ _ (outV_new rfl rfl (by intro b hb; cases hb) ux)
  rintro _ rfl
  simp only [Act.put, List.setIfInBounds_toArray, List.set_cons_zero, List.set_cons_succ]
  with_reducible apply wpV_light
  · simp only [lightOp]
  · intro W hU hF
    have f0 := CS.out W hU
    clear hU hF
    go_simp
    exact rfl
  simp only [Act.put, List.setIfInBounds_toArray, List.set_cons_zero, List.set_cons_succ]
  with_reducible apply wpV_light
  · simp only [lightOp]
  · intro W hU hF
    have f0 := CS.out W hU
    clear hU hF
    go_simp
    exact rfl
  simp only [Act.put, List.setIfInBounds_toArray, List.set_cons_zero, List.set_cons_succ]
  with_reducible apply wpV_light
  · simp only [lightOp]
  · intro W hU hF
    have f0 := CS.out W hU
    clear hU hF
    go_simp
    exact rfl
  simp only [Act.put, List.setIfInBounds_toArray, List.set_cons_zero, List.set_cons_succ]
  with_reducible apply wpV_light
  · simp only [lightOp]
  · intro W hU hF
    have f0 := CS.out W hU
    clear hU hF
    go_simp
    exact rfl
  simp only [Act.put, List.setIfInBounds_toArray, List.set_cons_zero, List.set_cons_succ]
  with_reducible apply wpV_light
  · simp only [lightOp]
  · intro W hU hF
    have f0 := CS.out W hU
    clear hU hF
    go_simp
    exact rfl
  simp only [Act.put, List.setIfInBounds_toArray, List.set_cons_zero, List.set_cons_succ]
  with_reducible apply wpV_light
  · simp only [lightOp]
  · intro W hU hF
    have f0 := CS.out W hU
    clear hU hF
    go_simp
    exact rfl
  simp only [Act.put, List.setIfInBounds_toArray, List.set_cons_zero, List.set_cons_succ]
  with_reducible apply wpV_light
  · simp only [lightOp]
  · intro W hU hF
    have f0 := CS.out W hU
    clear hU hF
    go_simp
    exact rfl
  simp only [Act.put, List.setIfInBounds_toArray, List.set_cons_zero, List.set_cons_succ]
  refine wpV_end (fun W hU _ hF => ?_)
  have UX : Hid (Upd [] w W) := Lib.hid (UA.out.trans ((Upd.refl [] w1).drew.trans hU))
  have BX : Hid (Blk W w.heap.size 40 _) := Lib.hid (XB.out.upd ((Upd.refl [] w1).drew.trans hU) (by simp))
  have e0 : W.cell? ⟨w.heap.size, 0, none⟩ = some (.int .i64 1) := BX.out.cell 0
  have e2 : W.cell? ⟨w.heap.size, 2, none⟩ = some (.int .i64 reg) := BX.out.cell 2
  clear hU hF
  refine wpT_end ?_
  go_wp2_with fail
  refine (tell_ok reg (-1) W (HR.out.upd0 UX.out) HL.out.1.1 HL.out.1.2 (Nat.le_trans HL.out.2.1 UX.out.size) HL.out.2.2).mono ?_
  rintro e w4 ⟨rfl, hp⟩
  have HP := Lib.hid (hp.pre UX.out)
  clear hp e0 e2
  go_wp2_with fail
  go_ret
  exact ⟨rfl, HP.out⟩
set_option maxRecDepth 100000 in
set_option maxHeartbeats 4000000 in
theorem ask_has1 {H rb : Nat} {F : List Nat} {ks : List Int} {r : RS} (c reg ar an br bn : Int) (vb ve : Value) (w : World) (h : Run H rb F ks w r) (hc : isC r.s c = true) (h0 : 0 ≤ reg) (h8 : reg ≤ 8) (ha : 0 ≤ ar ∧ ar ≤ 8) (hb : 0 ≤ br ∧ br ≤ 8) (hk3 : True) (hH : H ≤ w.heap.size) (hl : r.told.length + 1 ≤ 201 * 1000) (g : Int) (hg : get (coll r.s c.toNat) (keyV r ar an) = some g) :
    Calls Tryz.prog 71 #[.pointer (some ⟨rb, 0, none⟩), .agg #[.int .i64 4, .int .i64 c, .int .i64 reg, .int .i64 ar, .int .i64 an, .int .i64 br, .int .i64 bn, vb, ve]] w fun e w' => e = .returned .nilIface ∧ RunPost H rb F ks (tell r reg 1) w w' := by
  have HR := Lib.hid h
  obtain ⟨sb, FM, hM⟩ := h.mdl
  have HM := Lib.hid hM
  have HC := Lib.hid hc
  have H3 := Lib.hid hk3
  have HAB := Lib.hid (And.intro ha hb)
  have HL := Lib.hid (And.intro (And.intro h0 h8) (And.intro hH hl))
  obtain ⟨z, hz⟩ : ∃ z, keyV r ar an = z := ⟨_, rfl⟩
  have HZ := Lib.hid hz
  clear hz
  rw [HZ.out] at hg
  have HG := Lib.hid hg
  clear hg
  have hrb := HR.out.lt
  clear h hM hc hk3 ha hb h0 h8 hH hl
  go_enter Tryz.func71, Tryz.ntmps71
  go_wp2_with fail
  have XB : Hid (Blk (w.alloc (.cells #[.int .i64 4, .int .i64 c, .int .i64 reg, .int .i64 ar, .int .i64 an, .int .i64 br, .int .i64 bn, vb, ve] 40)) w.heap.size 40 #[.int .i64 4, .int .i64 c, .int .i64 reg, .int .i64 ar, .int .i64 an, .int .i64 br, .int .i64 bn, vb, ve]) := Lib.hid (Blk.new w _ _)
  have UA : Hid (Upd [] w (w.alloc (.cells #[.int .i64 4, .int .i64 c, .int .i64 reg, .int .i64 ar, .int .i64 an, .int .i64 br, .int .i64 bn, vb, ve] 40))) := Lib.hid ((Upd.refl [] w).alloc _)
  generalize (w.alloc (.cells #[.int .i64 4, .int .i64 c, .int .i64 reg, .int .i64 ar, .int .i64 an, .int .i64 br, .int .i64 bn, vb, ve] 40)) = w1 at *
  have CS : Hid (∀ W, Upd [] w1.drew W → W.cell? ⟨w.heap.size, 1, none⟩ = some (.int .i64 c) ∧ W.cell? ⟨w.heap.size, 3, none⟩ = some (.int .i64 ar) ∧ W.cell? ⟨w.heap.size, 4, none⟩ = some (.int .i64 an) ∧ W.cell? ⟨w.heap.size, 5, none⟩ = some (.int .i64 br) ∧ W.cell? ⟨w.heap.size, 6, none⟩ = some (.int .i64 bn) ∧ W.cell? ⟨rb, 0, none⟩ = some (.pointer (some ⟨sb, 0, none⟩))) := Lib.hid (fun W hW => by
    have hu := (Upd.refl [] w1).drew.trans hW
    have hb := XB.out.upd hu (by simp)
    exact ⟨hb.cell 1, hb.cell 3, hb.cell 4, hb.cell 5, hb.cell 6, (HM.out W (UA.out.trans hu)).2⟩)
  refine wp_invN [(9, .det (.int .i64 z)), (10, .det (.tuple #[.int .i64 g, .bool true, .nilIface]))] [] (by kernel_rfl) (by kernel_rfl) (by kernel_rfl) ⟨lasts_det _, lasts_det _, trivial⟩ ?_
  with_reducible apply wpV_light
  · simp only [lightOp]
  · intro W hU hF
    have f0 := CS.out W hU
    clear hU hF
    go_simp
    exact rfl
  simp only [Act.put, List.setIfInBounds_toArray, List.set_cons_zero, List.set_cons_succ]
  with_reducible apply wpV_light
  · simp only [lightOp]
  · intro W hU hF
    have f0 := CS.out W hU
    clear hU hF
    go_simp
    exact rfl
  simp only [Act.put, List.setIfInBounds_toArray, List.set_cons_zero, List.set_cons_succ]
  with_reducible apply wpV_light
  · simp only [lightOp]
  · intro W hU hF
    have f0 := CS.out W hU
    clear hU hF
    go_simp
    exact rfl
  simp only [Act.put, List.setIfInBounds_toArray, List.set_cons_zero, List.set_cons_succ]
  with_reducible apply wpV_light
  · simp only [lightOp]
  · intro W hU hF
    have f0 := CS.out W hU
    clear hU hF
    go_simp
    exact rfl
  simp only [Act.put, List.setIfInBounds_toArray, List.set_cons_zero, List.set_cons_succ]
  with_reducible apply wpV_light
  · simp only [lightOp]
  · intro W hU hF
    have f0 := CS.out W hU
    clear hU hF
    go_simp
    exact rfl
  simp only [Act.put, List.setIfInBounds_toArray, List.set_cons_zero, List.set_cons_succ]
  with_reducible apply wpV_light
  · simp only [lightOp]
  · intro W hU hF
    have f0 := CS.out W hU
    clear hU hF
    go_simp
    exact rfl
  simp only [Act.put, List.setIfInBounds_toArray, List.set_cons_zero, List.set_cons_succ]
  with_reducible apply wpV_light
  · simp only [lightOp]
  · intro W hU hF
    have f0 := CS.out W hU
    clear hU hF
    go_simp
    exact rfl
  simp only [Act.put, List.setIfInBounds_toArray, List.set_cons_zero, List.set_cons_succ]
  with_reducible apply wpV_light
  · simp only [lightOp]
  · intro W hU hF
    have f0 := CS.out W hU
    clear hU hF
    go_simp
    exact rfl
  simp only [Act.put, List.setIfInBounds_toArray, List.set_cons_zero, List.set_cons_succ]
  with_reducible apply wpV_light
  · simp only [lightOp]
  · intro W hU hF
    have f0 := CS.out W hU
    clear hU hF
    go_simp
    exact rfl
  simp only [Act.put, List.setIfInBounds_toArray, List.set_cons_zero, List.set_cons_succ]
  refine wpV_heavy (by simp only [lightOp]) (by rfl) (fun W hU hk hF K hK => ?_) ?_
  · go_wp2_with fail
    refine (key_ok ar an W (HR.out.upd0 (UA.out.trans ((Upd.refl [] w1).drew.trans hU))) HAB.out.1).mono ?_
    rintro e wx ⟨rfl, ux⟩
    go_wp2_with fail
    rw [HZ.out]
    exact hK.out _ _ (outV_new rfl rfl (by intro b hb; cases hb) ux)
  rintro _ rfl
  simp only [Act.put, List.setIfInBounds_toArray, List.set_cons_zero, List.set_cons_succ]
  refine wpV_heavy (by simp only [lightOp]) (by rfl) (fun W hU hk hF K hK => ?_) ?_
  · go_wp2_with fail
    refine (m_get H sb FM r.s c z W (HM.out W (UA.out.trans ((Upd.refl [] w1).drew.trans hU))).1).mono ?_
    rintro e wx ⟨v, rfl, ev, ux⟩
    simp only [HC.out, HG.out, Option.getD_some, Option.isSome_some, Option.getD_none, Option.isSome_none, if_true] at ev ⊢
    obtain rfl := errv_zero ev
    go_wp2_with fail
    exact hK.out _ _ (outV_new rfl rfl (by intro b hb; cases hb) ux)
  rintro _ rfl
  simp only [Act.put, List.setIfInBounds_toArray, List.set_cons_zero, List.set_cons_succ]
  with_reducible apply wpV_light
  · simp only [lightOp]
  · intro W hU hF
    have f0 := CS.out W hU
    clear hU hF
    go_simp
    exact rfl
  simp only [Act.put, List.setIfInBounds_toArray, List.set_cons_zero, List.set_cons_succ]
  with_reducible apply wpV_light
  · simp only [lightOp]
  · intro W hU hF
    have f0 := CS.out W hU
    clear hU hF
    go_simp
    exact rfl
  simp only [Act.put, List.setIfInBounds_toArray, List.set_cons_zero, List.set_cons_succ]
  with_reducible apply wpV_light
  · simp only [lightOp]
  · intro W hU hF
    have f0 := CS.out W hU
    clear hU hF
    go_simp
    exact rfl
  simp only [Act.put, List.setIfInBounds_toArray, List.set_cons_zero, List.set_cons_succ]
  with_reducible apply wpV_light
  · simp only [lightOp]
  · intro W hU hF
    have f0 := CS.out W hU
    clear hU hF
    go_simp
    exact rfl
  simp only [Act.put, List.setIfInBounds_toArray, List.set_cons_zero, List.set_cons_succ]
  with_reducible apply wpV_light
  · simp only [lightOp]
  · intro W hU hF
    have f0 := CS.out W hU
    clear hU hF
    go_simp
    exact rfl
  simp only [Act.put, List.setIfInBounds_toArray, List.set_cons_zero, List.set_cons_succ]
  with_reducible apply wpV_light
  · simp only [lightOp]
  · intro W hU hF
    have f0 := CS.out W hU
    clear hU hF
    go_simp
    exact rfl
  simp only [Act.put, List.setIfInBounds_toArray, List.set_cons_zero, List.set_cons_succ]
  with_reducible apply wpV_light
  · simp only [lightOp]
  · intro W hU hF
    have f0 := CS.out W hU
    clear hU hF
    go_simp
    exact rfl
  simp only [Act.put, List.setIfInBounds_toArray, List.set_cons_zero, List.set_cons_succ]
  refine wpV_end (fun W hU _ hF => ?_)
  have UX : Hid (Upd [] w W) := Lib.hid (UA.out.trans ((Upd.refl [] w1).drew.trans hU))
  have BX : Hid (Blk W w.heap.size 40 _) := Lib.hid (XB.out.upd ((Upd.refl [] w1).drew.trans hU) (by simp))
  have e0 : W.cell? ⟨w.heap.size, 0, none⟩ = some (.int .i64 4) := BX.out.cell 0
  have e2 : W.cell? ⟨w.heap.size, 2, none⟩ = some (.int .i64 reg) := BX.out.cell 2
  clear hU hF
  refine wpT_end ?_
  go_wp2_with fail
  refine (tell_ok reg 1 W (HR.out.upd0 UX.out) HL.out.1.1 HL.out.1.2 (Nat.le_trans HL.out.2.1 UX.out.size) HL.out.2.2).mono ?_
  rintro e w4 ⟨rfl, hp⟩
  have HP := Lib.hid (hp.pre UX.out)
  clear hp e0 e2
  go_wp2_with fail
  go_ret
  exact ⟨rfl, HP.out⟩
set_option maxRecDepth 100000 in
set_option maxHeartbeats 4000000 in
theorem ask_has0 {H rb : Nat} {F : List Nat} {ks : List Int} {r : RS} (c reg ar an br bn : Int) (vb ve : Value) (w : World) (h : Run H rb F ks w r) (hc : isC r.s c = true) (h0 : 0 ≤ reg) (h8 : reg ≤ 8) (ha : 0 ≤ ar ∧ ar ≤ 8) (hb : 0 ≤ br ∧ br ≤ 8) (hk3 : True) (hH : H ≤ w.heap.size) (hl : r.told.length + 1 ≤ 201 * 1000) (hg : get (coll r.s c.toNat) (keyV r ar an) = none) :
    Calls Tryz.prog 71 #[.pointer (some ⟨rb, 0, none⟩), .agg #[.int .i64 4, .int .i64 c, .int .i64 reg, .int .i64 ar, .int .i64 an, .int .i64 br, .int .i64 bn, vb, ve]] w fun e w' => e = .returned .nilIface ∧ RunPost H rb F ks (tell r reg 0) w w' := by
  have HR := Lib.hid h
  obtain ⟨sb, FM, hM⟩ := h.mdl
  have HM := Lib.hid hM
  have HC := Lib.hid hc
  have H3 := Lib.hid hk3
  have HAB := Lib.hid (And.intro ha hb)
  have HL := Lib.hid (And.intro (And.intro h0 h8) (And.intro hH hl))
  obtain ⟨z, hz⟩ : ∃ z, keyV r ar an = z := ⟨_, rfl⟩
  have HZ := Lib.hid hz
  clear hz
  rw [HZ.out] at hg
  have HG := Lib.hid hg
  clear hg
  have hrb := HR.out.lt
  clear h hM hc hk3 ha hb h0 h8 hH hl
  go_enter Tryz.func71, Tryz.ntmps71
  go_wp2_with fail
  have XB : Hid (Blk (w.alloc (.cells #[.int .i64 4, .int .i64 c, .int .i64 reg, .int .i64 ar, .int .i64 an, .int .i64 br, .int .i64 bn, vb, ve] 40)) w.heap.size 40 #[.int .i64 4, .int .i64 c, .int .i64 reg, .int .i64 ar, .int .i64 an, .int .i64 br, .int .i64 bn, vb, ve]) := Lib.hid (Blk.new w _ _)
  have UA : Hid (Upd [] w (w.alloc (.cells #[.int .i64 4, .int .i64 c, .int .i64 reg, .int .i64 ar, .int .i64 an, .int .i64 br, .int .i64 bn, vb, ve] 40))) := Lib.hid ((Upd.refl [] w).alloc _)
  generalize (w.alloc (.cells #[.int .i64 4, .int .i64 c, .int .i64 reg, .int .i64 ar, .int .i64 an, .int .i64 br, .int .i64 bn, vb, ve] 40)) = w1 at *
  have CS : Hid (∀ W, Upd [] w1.drew W → W.cell? ⟨w.heap.size, 1, none⟩ = some (.int .i64 c) ∧ W.cell? ⟨w.heap.size, 3, none⟩ = some (.int .i64 ar) ∧ W.cell? ⟨w.heap.size, 4, none⟩ = some (.int .i64 an) ∧ W.cell? ⟨w.heap.size, 5, none⟩ = some (.int .i64 br) ∧ W.cell? ⟨w.heap.size, 6, none⟩ = some (.int .i64 bn) ∧ W.cell? ⟨rb, 0, none⟩ = some (.pointer (some ⟨sb, 0, none⟩))) := Lib.hid (fun W hW => by
    have hu := (Upd.refl [] w1).drew.trans hW
    have hb := XB.out.upd hu (by simp)
    exact ⟨hb.cell 1, hb.cell 3, hb.cell 4, hb.cell 5, hb.cell 6, (HM.out W (UA.out.trans hu)).2⟩)
  refine wp_invN [(9, .det (.int .i64 z)), (10, .det (.tuple #[.int .i64 0, .bool false, .nilIface]))] [] (by kernel_rfl) (by kernel_rfl) (by kernel_rfl) ⟨lasts_det _, lasts_det _, trivial⟩ ?_
  with_reducible apply wpV_light
  · simp only [lightOp]
  · intro W hU hF
    have f0 := CS.out W hU
    clear hU hF
    go_simp
    exact rfl
  simp only [Act.put, List.setIfInBounds_toArray, List.set_cons_zero, List.set_cons_succ]
  with_reducible apply wpV_light
  · simp only [lightOp]
  · intro W hU hF
    have f0 := CS.out W hU
    clear hU hF
    go_simp
    exact rfl
  simp only [Act.put, List.setIfInBounds_toArray, List.set_cons_zero, List.set_cons_succ]
  with_reducible apply wpV_light
  · simp only [lightOp]
  · intro W hU hF
    have f0 := CS.out W hU
    clear hU hF
    go_simp
    exact rfl
  simp only [Act.put, List.setIfInBounds_toArray, List.set_cons_zero, List.set_cons_succ]
  with_reducible apply wpV_light
  · simp only [lightOp]
  · intro W hU hF
    have f0 := CS.out W hU
    clear hU hF
    go_simp
    exact rfl
  simp only [Act.put, List.setIfInBounds_toArray, List.set_cons_zero, List.set_cons_succ]
  with_reducible apply wpV_light
  · simp only [lightOp]
  · intro W hU hF
    have f0 := CS.out W hU
    clear hU hF
    go_simp
    exact rfl
  simp only [Act.put, List.setIfInBounds_toArray, List.set_cons_zero, List.set_cons_succ]
  with_reducible apply wpV_light
  · simp only [lightOp]
  · intro W hU hF
    have f0 := CS.out W hU
    clear hU hF
    go_simp
    exact rfl
  simp only [Act.put, List.setIfInBounds_toArray, List.set_cons_zero, List.set_cons_succ]
  with_reducible apply wpV_light
  · simp only [lightOp]
  · intro W hU hF
    have f0 := CS.out W hU
    clear hU hF
    go_simp
    exact rfl
  simp only [Act.put, List.setIfInBounds_toArray, List.set_cons_zero, List.set_cons_succ]
  with_reducible apply wpV_light
  · simp only [lightOp]
  · intro W hU hF
    have f0 := CS.out W hU
    clear hU hF
    go_simp
    exact rfl
  simp only [Act.put, List.setIfInBounds_toArray, List.set_cons_zero, List.set_cons_succ]
  with_reducible apply wpV_light
  · simp only [lightOp]
  · intro W hU hF
    have f0 := CS.out W hU
    clear hU hF
    go_simp
    exact rfl
  simp only [Act.put, List.setIfInBounds_toArray, List.set_cons_zero, List.set_cons_succ]
  refine wpV_heavy (by simp only [lightOp]) (by rfl) (fun W hU hk hF K hK => ?_) ?_
  · go_wp2_with fail
    refine (key_ok ar an W (HR.out.upd0 (UA.out.trans ((Upd.refl [] w1).drew.trans hU))) HAB.out.1).mono ?_
    rintro e wx ⟨rfl, ux⟩
    go_wp2_with fail
    rw [HZ.out]
    exact hK.out _ _ (outV_new rfl rfl (by intro b hb; cases hb) ux)
  rintro _ rfl
  simp only [Act.put, List.setIfInBounds_toArray, List.set_cons_zero, List.set_cons_succ]
  refine wpV_heavy (by simp only [lightOp]) (by rfl) (fun W hU hk hF K hK => ?_) ?_
  · go_wp2_with fail
    refine (m_get H sb FM r.s c z W (HM.out W (UA.out.trans ((Upd.refl [] w1).drew.trans hU))).1).mono ?_
    rintro e wx ⟨v, rfl, ev, ux⟩
    simp only [HC.out, HG.out, Option.getD_some, Option.isSome_some, Option.getD_none, Option.isSome_none, if_true] at ev ⊢
    obtain rfl := errv_zero ev
    go_wp2_with fail
    exact hK.out _ _ (outV_new rfl rfl (by intro b hb; cases hb) ux)
  rintro _ rfl
  simp only [Act.put, List.setIfInBounds_toArray, List.set_cons_zero, List.set_cons_succ]
  with_reducible apply wpV_light
  · simp only [lightOp]
  · intro W hU hF
    have f0 := CS.out W hU
    clear hU hF
    go_simp
    exact rfl
  simp only [Act.put, List.setIfInBounds_toArray, List.set_cons_zero, List.set_cons_succ]
  with_reducible apply wpV_light
  · simp only [lightOp]
  · intro W hU hF
    have f0 := CS.out W hU
    clear hU hF
    go_simp
    exact rfl
  simp only [Act.put, List.setIfInBounds_toArray, List.set_cons_zero, List.set_cons_succ]
  with_reducible apply wpV_light
  · simp only [lightOp]
  · intro W hU hF
    have f0 := CS.out W hU
    clear hU hF
    go_simp
    exact rfl
  simp only [Act.put, List.setIfInBounds_toArray, List.set_cons_zero, List.set_cons_succ]
  with_reducible apply wpV_light
  · simp only [lightOp]
  · intro W hU hF
    have f0 := CS.out W hU
    clear hU hF
    go_simp
    exact rfl
  simp only [Act.put, List.setIfInBounds_toArray, List.set_cons_zero, List.set_cons_succ]
  with_reducible apply wpV_light
  · simp only [lightOp]
  · intro W hU hF
    have f0 := CS.out W hU
    clear hU hF
    go_simp
    exact rfl
  simp only [Act.put, List.setIfInBounds_toArray, List.set_cons_zero, List.set_cons_succ]
  with_reducible apply wpV_light
  · simp only [lightOp]
  · intro W hU hF
    have f0 := CS.out W hU
    clear hU hF
    go_simp
    exact rfl
  simp only [Act.put, List.setIfInBounds_toArray, List.set_cons_zero, List.set_cons_succ]
  with_reducible apply wpV_light
  · simp only [lightOp]
  · intro W hU hF
    have f0 := CS.out W hU
    clear hU hF
    go_simp
    exact rfl
  simp only [Act.put, List.setIfInBounds_toArray, List.set_cons_zero, List.set_cons_succ]
  refine wpV_end (fun W hU _ hF => ?_)
  have UX : Hid (Upd [] w W) := Lib.hid (UA.out.trans ((Upd.refl [] w1).drew.trans hU))
  have BX : Hid (Blk W w.heap.size 40 _) := Lib.hid (XB.out.upd ((Upd.refl [] w1).drew.trans hU) (by simp))
  have e0 : W.cell? ⟨w.heap.size, 0, none⟩ = some (.int .i64 4) := BX.out.cell 0
  have e2 : W.cell? ⟨w.heap.size, 2, none⟩ = some (.int .i64 reg) := BX.out.cell 2
  clear hU hF
  refine wpT_end ?_
  go_wp2_with fail
  refine (tell_ok reg 0 W (HR.out.upd0 UX.out) HL.out.1.1 HL.out.1.2 (Nat.le_trans HL.out.2.1 UX.out.size) HL.out.2.2).mono ?_
  rintro e w4 ⟨rfl, hp⟩
  have HP := Lib.hid (hp.pre UX.out)
  clear hp e0 e2
  go_wp2_with fail
  go_ret
  exact ⟨rfl, HP.out⟩
set_option maxRecDepth 100000 in
set_option maxHeartbeats 4000000 in
theorem ask_ceil1 {H rb : Nat} {F : List Nat} {ks : List Int} {r : RS} (c reg ar an br bn : Int) (vb ve : Value) (w : World) (h : Run H rb F ks w r) (hc : isC r.s c = true) (h0 : 0 ≤ reg) (h8 : reg ≤ 8) (ha : 0 ≤ ar ∧ ar ≤ 8) (hb : 0 ≤ br ∧ br ≤ 8) (hk3 : oErr r.s c = 0) (hH : H ≤ w.heap.size) (hl : r.told.length + 1 ≤ 201 * 1000) (g : Int) (hg : ceilL (coll r.s c.toNat) (keyV r ar an) = some g) :
    Calls Tryz.prog 71 #[.pointer (some ⟨rb, 0, none⟩), .agg #[.int .i64 6, .int .i64 c, .int .i64 reg, .int .i64 ar, .int .i64 an, .int .i64 br, .int .i64 bn, vb, ve]] w fun e w' => e = .returned .nilIface ∧ RunPost H rb F ks (tell r reg g) w w' := by
  have HR := Lib.hid h
  obtain ⟨sb, FM, hM⟩ := h.mdl
  have HM := Lib.hid hM
  have HC := Lib.hid hc
  have H3 := Lib.hid hk3
  have HAB := Lib.hid (And.intro ha hb)
  have HL := Lib.hid (And.intro (And.intro h0 h8) (And.intro hH hl))
  obtain ⟨z, hz⟩ : ∃ z, keyV r ar an = z := ⟨_, rfl⟩
  have HZ := Lib.hid hz
  clear hz
  have HG : Hid (ceilC r.s c z = some g) := Lib.hid (by unfold ceilC; rw [if_pos H3.out, ← HZ.out]; exact hg)
  clear hg
  have hrb := HR.out.lt
  clear h hM hc hk3 ha hb h0 h8 hH hl
  go_enter Tryz.func71, Tryz.ntmps71
  go_wp2_with fail
  have XB : Hid (Blk (w.alloc (.cells #[.int .i64 6, .int .i64 c, .int .i64 reg, .int .i64 ar, .int .i64 an, .int .i64 br, .int .i64 bn, vb, ve] 40)) w.heap.size 40 #[.int .i64 6, .int .i64 c, .int .i64 reg, .int .i64 ar, .int .i64 an, .int .i64 br, .int .i64 bn, vb, ve]) := Lib.hid (Blk.new w _ _)
  have UA : Hid (Upd [] w (w.alloc (.cells #[.int .i64 6, .int .i64 c, .int .i64 reg, .int .i64 ar, .int .i64 an, .int .i64 br, .int .i64 bn, vb, ve] 40))) := Lib.hid ((Upd.refl [] w).alloc _)
  generalize (w.alloc (.cells #[.int .i64 6, .int .i64 c, .int .i64 reg, .int .i64 ar, .int .i64 an, .int .i64 br, .int .i64 bn, vb, ve] 40)) = w1 at *
  have CS : Hid (∀ W, Upd [] w1.drew W → W.cell? ⟨w.heap.size, 1, none⟩ = some (.int .i64 c) ∧ W.cell? ⟨w.heap.size, 3, none⟩ = some (.int .i64 ar) ∧ W.cell? ⟨w.heap.size, 4, none⟩ = some (.int .i64 an) ∧ W.cell? ⟨w.heap.size, 5, none⟩ = some (.int .i64 br) ∧ W.cell? ⟨w.heap.size, 6, none⟩ = some (.int .i64 bn) ∧ W.cell? ⟨rb, 0, none⟩ = some (.pointer (some ⟨sb, 0, none⟩))) := Lib.hid (fun W hW => by
    have hu := (Upd.refl [] w1).drew.trans hW
    have hb := XB.out.upd hu (by simp)
    exact ⟨hb.cell 1, hb.cell 3, hb.cell 4, hb.cell 5, hb.cell 6, (HM.out W (UA.out.trans hu)).2⟩)
  refine wp_invN [(9, .det (.int .i64 z)), (10, .det (.tuple #[.int .i64 g, .bool true, .nilIface]))] [] (by kernel_rfl) (by kernel_rfl) (by kernel_rfl) ⟨lasts_det _, lasts_det _, trivial⟩ ?_
  with_reducible apply wpV_light
  · simp only [lightOp]
  · intro W hU hF
    have f0 := CS.out W hU
    clear hU hF
    go_simp
    exact rfl
  simp only [Act.put, List.setIfInBounds_toArray, List.set_cons_zero, List.set_cons_succ]
  with_reducible apply wpV_light
  · simp only [lightOp]
  · intro W hU hF
    have f0 := CS.out W hU
    clear hU hF
    go_simp
    exact rfl
  simp only [Act.put, List.setIfInBounds_toArray, List.set_cons_zero, List.set_cons_succ]
  with_reducible apply wpV_light
  · simp only [lightOp]
  · intro W hU hF
    have f0 := CS.out W hU
    clear hU hF
    go_simp
    exact rfl
  simp only [Act.put, List.setIfInBounds_toArray, List.set_cons_zero, List.set_cons_succ]
  with_reducible apply wpV_light
  · simp only [lightOp]
  · intro W hU hF
    have f0 := CS.out W hU
    clear hU hF
    go_simp
    exact rfl
  simp only [Act.put, List.setIfInBounds_toArray, List.set_cons_zero, List.set_cons_succ]
  with_reducible apply wpV_light
  · simp only [lightOp]
  · intro W hU hF
    have f0 := CS.out W hU
    clear hU hF
    go_simp
    exact rfl
  simp only [Act.put, List.setIfInBounds_toArray, List.set_cons_zero, List.set_cons_succ]
  with_reducible apply wpV_light
  · simp only [lightOp]
  · intro W hU hF
    have f0 := CS.out W hU
    clear hU hF
    go_simp
    exact rfl
  simp only [Act.put, List.setIfInBounds_toArray, List.set_cons_zero, List.set_cons_succ]
  with_reducible apply wpV_light
  · simp only [lightOp]
  · intro W hU hF
    have f0 := CS.out W hU
    clear hU hF
    go_simp
    exact rfl
  simp only [Act.put, List.setIfInBounds_toArray, List.set_cons_zero, List.set_cons_succ]
  with_reducible apply wpV_light
  · simp only [lightOp]
  · intro W hU hF
    have f0 := CS.out W hU
    clear hU hF
    go_simp
    exact rfl
  simp only [Act.put, List.setIfInBounds_toArray, List.set_cons_zero, List.set_cons_succ]
  with_reducible apply wpV_light
  · simp only [lightOp]
  · intro W hU hF
    have f0 := CS.out W hU
    clear hU hF
    go_simp
    exact rfl
  simp only [Act.put, List.setIfInBounds_toArray, List.set_cons_zero, List.set_cons_succ]
  refine wpV_heavy (by simp only [lightOp]) (by rfl) (fun W hU hk hF K hK => ?_) ?_
  · go_wp2_with fail
    refine (key_ok ar an W (HR.out.upd0 (UA.out.trans ((Upd.refl [] w1).drew.trans hU))) HAB.out.1).mono ?_
    rintro e wx ⟨rfl, ux⟩
    go_wp2_with fail
    rw [HZ.out]
    exact hK.out _ _ (outV_new rfl rfl (by intro b hb; cases hb) ux)
  rintro _ rfl
  simp only [Act.put, List.setIfInBounds_toArray, List.set_cons_zero, List.set_cons_succ]
  refine wpV_heavy (by simp only [lightOp]) (by rfl) (fun W hU hk hF K hK => ?_) ?_
  · go_wp2_with fail
    refine (m_ceil H sb FM r.s c z W (HM.out W (UA.out.trans ((Upd.refl [] w1).drew.trans hU))).1).mono ?_
    rintro e wx ⟨v, rfl, ev, ux⟩
    simp only [HC.out, H3.out, HG.out, Option.getD_some, Option.isSome_some, Option.getD_none, Option.isSome_none, if_true] at ev ⊢
    obtain rfl := errv_zero ev
    go_wp2_with fail
    exact hK.out _ _ (outV_new rfl rfl (by intro b hb; cases hb) ux)
  rintro _ rfl
  simp only [Act.put, List.setIfInBounds_toArray, List.set_cons_zero, List.set_cons_succ]
  with_reducible apply wpV_light
  · simp only [lightOp]
  · intro W hU hF
    have f0 := CS.out W hU
    clear hU hF
    go_simp
    exact rfl
  simp only [Act.put, List.setIfInBounds_toArray, List.set_cons_zero, List.set_cons_succ]
  with_reducible apply wpV_light
  · simp only [lightOp]
  · intro W hU hF
    have f0 := CS.out W hU
    clear hU hF
    go_simp
    exact rfl
  simp only [Act.put, List.setIfInBounds_toArray, List.set_cons_zero, List.set_cons_succ]
  with_reducible apply wpV_light
  · simp only [lightOp]
  · intro W hU hF
    have f0 := CS.out W hU
    clear hU hF
    go_simp
    exact rfl
  simp only [Act.put, List.setIfInBounds_toArray, List.set_cons_zero, List.set_cons_succ]
  with_reducible apply wpV_light
  · simp only [lightOp]
  · intro W hU hF
    have f0 := CS.out W hU
    clear hU hF
    go_simp
    exact rfl
  simp only [Act.put, List.setIfInBounds_toArray, List.set_cons_zero, List.set_cons_succ]
  with_reducible apply wpV_light
  · simp only [lightOp]
  · intro W hU hF
    have f0 := CS.out W hU
    clear hU hF
    go_simp
    exact rfl
  simp only [Act.put, List.setIfInBounds_toArray, List.set_cons_zero, List.set_cons_succ]
  with_reducible apply wpV_light
  · simp only [lightOp]
  · intro W hU hF
    have f0 := CS.out W hU
    clear hU hF
    go_simp
    exact rfl
  simp only [Act.put, List.setIfInBounds_toArray, List.set_cons_zero, List.set_cons_succ]
  with_reducible apply wpV_light
  · simp only [lightOp]
  · intro W hU hF
    have f0 := CS.out W hU
    clear hU hF
    go_simp
    exact rfl
  simp only [Act.put, List.setIfInBounds_toArray, List.set_cons_zero, List.set_cons_succ]
  refine wpV_end (fun W hU _ hF => ?_)
  have UX : Hid (Upd [] w W) := Lib.hid (UA.out.trans ((Upd.refl [] w1).drew.trans hU))
  have BX : Hid (Blk W w.heap.size 40 _) := Lib.hid (XB.out.upd ((Upd.refl [] w1).drew.trans hU) (by simp))
  have e0 : W.cell? ⟨w.heap.size, 0, none⟩ = some (.int .i64 6) := BX.out.cell 0
  have e2 : W.cell? ⟨w.heap.size, 2, none⟩ = some (.int .i64 reg) := BX.out.cell 2
  clear hU hF
  refine wpT_end ?_
  go_wp2_with fail
  refine (tell_ok reg g W (HR.out.upd0 UX.out) HL.out.1.1 HL.out.1.2 (Nat.le_trans HL.out.2.1 UX.out.size) HL.out.2.2).mono ?_
  rintro e w4 ⟨rfl, hp⟩
  have HP := Lib.hid (hp.pre UX.out)
  clear hp e0 e2
  go_wp2_with fail
  go_ret
  exact ⟨rfl, HP.out⟩
set_option maxRecDepth 100000 in
set_option maxHeartbeats 4000000 in
theorem ask_ceil0 {H rb : Nat} {F : List Nat} {ks : List Int} {r : RS} (c reg ar an br bn : Int) (vb ve : Value) (w : World) (h : Run H rb F ks w r) (hc : isC r.s c = true) (h0 : 0 ≤ reg) (h8 : reg ≤ 8) (ha : 0 ≤ ar ∧ ar ≤ 8) (hb : 0 ≤ br ∧ br ≤ 8) (hk3 : oErr r.s c = 0) (hH : H ≤ w.heap.size) (hl : r.told.length + 1 ≤ 201 * 1000) (hg : ceilL (coll r.s c.toNat) (keyV r ar an) = none) :
    Calls Tryz.prog 71 #[.pointer (some ⟨rb, 0, none⟩), .agg #[.int .i64 6, .int .i64 c, .int .i64 reg, .int .i64 ar, .int .i64 an, .int .i64 br, .int .i64 bn, vb, ve]] w fun e w' => e = .returned .nilIface ∧ RunPost H rb F ks (tell r reg (-1)) w w' := by
  have HR := Lib.hid h
  obtain ⟨sb, FM, hM⟩ := h.mdl
  have HM := Lib.hid hM
  have HC := Lib.hid hc
  have H3 := Lib.hid hk3
  have HAB := Lib.hid (And.intro ha hb)
  have HL := Lib.hid (And.intro (And.intro h0 h8) (And.intro hH hl))
  obtain ⟨z, hz⟩ : ∃ z, keyV r ar an = z := ⟨_, rfl⟩
  have HZ := Lib.hid hz
  clear hz
  have HG : Hid (ceilC r.s c z = none) := Lib.hid (by unfold ceilC; rw [if_pos H3.out, ← HZ.out]; exact hg)
  clear hg
  have hrb := HR.out.lt
  clear h hM hc hk3 ha hb h0 h8 hH hl
  go_enter Tryz.func71, Tryz.ntmps71
  go_wp2_with fail
  have XB : Hid (Blk (w.alloc (.cells #[.int .i64 6, .int .i64 c, .int .i64 reg, .int .i64 ar, .int .i64 an, .int .i64 br, .int .i64 bn, vb, ve] 40)) w.heap.size 40 #[.int .i64 6, .int .i64 c, .int .i64 reg, .int .i64 ar, .int .i64 an, .int .i64 br, .int .i64 bn, vb, ve]) := Lib.hid (Blk.new w _ _)
  have UA : Hid (Upd [] w (w.alloc (.cells #[.int .i64 6, .int .i64 c, .int .i64 reg, .int .i64 ar, .int .i64 an, .int .i64 br, .int .i64 bn, vb, ve] 40))) := Lib.hid ((Upd.refl [] w).alloc _)
  generalize (w.alloc (.cells #[.int .i64 6, .int .i64 c, .int .i64 reg, .int .i64 ar, .int .i64 an, .int .i64 br, .int .i64 bn, vb, ve] 40)) = w1 at *
  have CS : Hid (∀ W, Upd [] w1.drew W → W.cell? ⟨w.heap.size, 1, none⟩ = some (.int .i64 c) ∧ W.cell? ⟨w.heap.size, 3, none⟩ = some (.int .i64 ar) ∧ W.cell? ⟨w.heap.size, 4, none⟩ = some (.int .i64 an) ∧ W.cell? ⟨w.heap.size, 5, none⟩ = some (.int .i64 br) ∧ W.cell? ⟨w.heap.size, 6, none⟩ = some (.int .i64 bn) ∧ W.cell? ⟨rb, 0, none⟩ = some (.pointer (some ⟨sb, 0, none⟩))) := Lib.hid (fun W hW => by
    have hu := (Upd.refl [] w1).drew.trans hW
    have hb := XB.out.upd hu (by simp)
    exact ⟨hb.cell 1, hb.cell 3, hb.cell 4, hb.cell 5, hb.cell 6, (HM.out W (UA.out.trans hu)).2⟩)
  refine wp_invN [(9, .det (.int .i64 z)), (10, .det (.tuple #[.int .i64 0, .bool false, .nilIface]))] [] (by kernel_rfl) (by kernel_rfl) (by kernel_rfl) ⟨lasts_det _, lasts_det _, trivial⟩ ?_
  with_reducible apply wpV_light
  · simp only [lightOp]
  · intro W hU hF
    have f0 := CS.out W hU
    clear hU hF
    go_simp
    exact rfl
  simp only [Act.put, List.setIfInBounds_toArray, List.set_cons_zero, List.set_cons_succ]
  with_reducible apply wpV_light
  · simp only [lightOp]
  · intro W hU hF
    have f0 := CS.out W hU
    clear hU hF
    go_simp
    exact rfl
  simp only [Act.put, List.setIfInBounds_toArray, List.set_cons_zero, List.set_cons_succ]
  with_reducible apply wpV_light
  · simp only [lightOp]
  · intro W hU hF
    have f0 := CS.out W hU
    clear hU hF
    go_simp
    exact rfl
  simp only [Act.put, List.setIfInBounds_toArray, List.set_cons_zero, List.set_cons_succ]
  with_reducible apply wpV_light
  · simp only [lightOp]
  · intro W hU hF
    have f0 := CS.out W hU
    clear hU hF
    go_simp
    exact rfl
  simp only [Act.put, List.setIfInBounds_toArray, List.set_cons_zero, List.set_cons_succ]
  with_reducible apply wpV_light
  · simp only [lightOp]
  · intro W hU hF
    have f0 := CS.out W hU
    clear hU hF
    go_simp
    exact rfl
  simp only [Act.put, List.setIfInBounds_toArray, List.set_cons_zero, List.set_cons_succ]
  with_reducible apply wpV_light
  · simp only [lightOp]
  · intro W hU hF
    have f0 := CS.out W hU
    clear hU hF
    go_simp
    exact rfl
  simp only [Act.put, List.setIfInBounds_toArray, List.set_cons_zero, List.set_cons_succ]
  with_reducible apply wpV_light
  · simp only [lightOp]
  · intro W hU hF
    have f0 := CS.out W hU
    clear hU hF
    go_simp
    exact rfl
  simp only [Act.put, List.setIfInBounds_toArray, List.set_cons_zero, List.set_cons_succ]
  with_reducible apply wpV_light
  · simp only [lightOp]
  · intro W hU hF
    have f0 := CS.out W hU
    clear hU hF
    go_simp
    exact rfl
  simp only [Act.put, List.setIfInBounds_toArray, List.set_cons_zero, List.set_cons_succ]
  with_reducible apply wpV_light
  · simp only [lightOp]
  · intro W hU hF
    have f0 := CS.out W hU
    clear hU hF
    go_simp
    exact rfl
  simp only [Act.put, List.setIfInBounds_toArray, List.set_cons_zero, List.set_cons_succ]
  refine wpV_heavy (by simp only [lightOp]) (by rfl) (fun W hU hk hF K hK => ?_) ?_
  · go_wp2_with fail
    refine (key_ok ar an W (HR.out.upd0 (UA.out.trans ((Upd.refl [] w1).drew.trans hU))) HAB.out.1).mono ?_
    rintro e wx ⟨rfl, ux⟩
    go_wp2_with fail
    rw [HZ.out]
    exact hK.out _ _ (outV_new rfl rfl (by intro b hb; cases hb) ux)
  rintro _ rfl
  simp only [Act.put, List.setIfInBounds_toArray, List.set_cons_zero, List.set_cons_succ]
  refine wpV_heavy (by simp only [lightOp]) (by rfl) (fun W hU hk hF K hK => ?_) ?_
  · go_wp2_with fail
    refine (m_ceil H sb FM r.s c z W (HM.out W (UA.out.trans ((Upd.refl [] w1).drew.trans hU))).1).mono ?_
    rintro e wx ⟨v, rfl, ev, ux⟩
    simp only [HC.out, H3.out, HG.out, Option.getD_some, Option.isSome_some, Option.getD_none, Option.isSome_none, if_true] at ev ⊢
    obtain rfl := errv_zero ev
    go_wp2_with fail
    exact hK.out _ _ (outV_new rfl rfl (by intro b hb; cases hb) ux)
  rintro _ rfl
  simp only [Act.put, List.setIfInBounds_toArray, List.set_cons_zero, List.set_cons_succ]
  with_reducible apply wpV_light
  · simp only [lightOp]
  · intro W hU hF
    have f0 := CS.out W hU
    clear hU hF
    go_simp
    exact rfl
  simp only [Act.put, List.setIfInBounds_toArray, List.set_cons_zero, List.set_cons_succ]
  with_reducible apply wpV_light
  · simp only [lightOp]
  · intro W hU hF
    have f0 := CS.out W hU
    clear hU hF
    go_simp
    exact rfl
  simp only [Act.put, List.setIfInBounds_toArray, List.set_cons_zero, List.set_cons_succ]
  with_reducible apply wpV_light
  · simp only [lightOp]
  · intro W hU hF
    have f0 := CS.out W hU
    clear hU hF
    go_simp
    exact rfl
  simp only [Act.put, List.setIfInBounds_toArray, List.set_cons_zero, List.set_cons_succ]
  with_reducible apply wpV_light
  · simp only [lightOp]
  · intro W hU hF
    have f0 := CS.out W hU
    clear hU hF
    go_simp
    exact rfl
  simp only [Act.put, List.setIfInBounds_toArray, List.set_cons_zero, List.set_cons_succ]
  with_reducible apply wpV_light
  · simp only [lightOp]
  · intro W hU hF
    have f0 := CS.out W hU
    clear hU hF
    go_simp
    exact rfl
  simp only [Act.put, List.setIfInBounds_toArray, List.set_cons_zero, List.set_cons_succ]
  with_reducible apply wpV_light
  · simp only [lightOp]
  · intro W hU hF
    have f0 := CS.out W hU
    clear hU hF
    go_simp
    exact rfl
  simp only [Act.put, List.setIfInBounds_toArray, List.set_cons_zero, List.set_cons_succ]
  with_reducible apply wpV_light
  · simp only [lightOp]
  · intro W hU hF
    have f0 := CS.out W hU
    clear hU hF
    go_simp
    exact rfl
  simp only [Act.put, List.setIfInBounds_toArray, List.set_cons_zero, List.set_cons_succ]
  refine wpV_end (fun W hU _ hF => ?_)
  have UX : Hid (Upd [] w W) := Lib.hid (UA.out.trans ((Upd.refl [] w1).drew.trans hU))
  have BX : Hid (Blk W w.heap.size 40 _) := Lib.hid (XB.out.upd ((Upd.refl [] w1).drew.trans hU) (by simp))
  have e0 : W.cell? ⟨w.heap.size, 0, none⟩ = some (.int .i64 6) := BX.out.cell 0
  have e2 : W.cell? ⟨w.heap.size, 2, none⟩ = some (.int .i64 reg) := BX.out.cell 2
  clear hU hF
  refine wpT_end ?_
  go_wp2_with fail
  refine (tell_ok reg (-1) W (HR.out.upd0 UX.out) HL.out.1.1 HL.out.1.2 (Nat.le_trans HL.out.2.1 UX.out.size) HL.out.2.2).mono ?_
  rintro e w4 ⟨rfl, hp⟩
  have HP := Lib.hid (hp.pre UX.out)
  clear hp e0 e2
  go_wp2_with fail
  go_ret
  exact ⟨rfl, HP.out⟩
set_option maxRecDepth 100000 in
set_option maxHeartbeats 4000000 in
theorem ask_size {H rb : Nat} {F : List Nat} {ks : List Int} {r : RS} (c reg ar an br bn : Int) (vb ve : Value) (w : World) (h : Run H rb F ks w r) (hc : isC r.s c = true) (h0 : 0 ≤ reg) (h8 : reg ≤ 8) (ha : 0 ≤ ar ∧ ar ≤ 8) (hb : 0 ≤ br ∧ br ≤ 8) (hk3 : True) (hH : H ≤ w.heap.size) (hl : r.told.length + 1 ≤ 201 * 1000) (g : Int) (hg : ((coll r.s c.toNat).length : Int) = g) :
    Calls Tryz.prog 71 #[.pointer (some ⟨rb, 0, none⟩), .agg #[.int .i64 5, .int .i64 c, .int .i64 reg, .int .i64 ar, .int .i64 an, .int .i64 br, .int .i64 bn, vb, ve]] w fun e w' => e = .returned .nilIface ∧ RunPost H rb F ks (tell r reg g) w w' := by
  have HR := Lib.hid h
  obtain ⟨sb, FM, hM⟩ := h.mdl
  have HM := Lib.hid hM
  have HC := Lib.hid hc
  have H3 := Lib.hid hk3
  have HAB := Lib.hid (And.intro ha hb)
  have HL := Lib.hid (And.intro (And.intro h0 h8) (And.intro hH hl))
  have HG := Lib.hid hg
  clear hg
  have hrb := HR.out.lt
  clear h hM hc hk3 ha hb h0 h8 hH hl
  go_enter Tryz.func71, Tryz.ntmps71
  go_wp2_with fail
  have XB : Hid (Blk (w.alloc (.cells #[.int .i64 5, .int .i64 c, .int .i64 reg, .int .i64 ar, .int .i64 an, .int .i64 br, .int .i64 bn, vb, ve] 40)) w.heap.size 40 #[.int .i64 5, .int .i64 c, .int .i64 reg, .int .i64 ar, .int .i64 an, .int .i64 br, .int .i64 bn, vb, ve]) := Lib.hid (Blk.new w _ _)
  have UA : Hid (Upd [] w (w.alloc (.cells #[.int .i64 5, .int .i64 c, .int .i64 reg, .int .i64 ar, .int .i64 an, .int .i64 br, .int .i64 bn, vb, ve] 40))) := Lib.hid ((Upd.refl [] w).alloc _)
  generalize (w.alloc (.cells #[.int .i64 5, .int .i64 c, .int .i64 reg, .int .i64 ar, .int .i64 an, .int .i64 br, .int .i64 bn, vb, ve] 40)) = w1 at *
  have CS : Hid (∀ W, Upd [] w1.drew W → W.cell? ⟨w.heap.size, 1, none⟩ = some (.int .i64 c) ∧ W.cell? ⟨w.heap.size, 3, none⟩ = some (.int .i64 ar) ∧ W.cell? ⟨w.heap.size, 4, none⟩ = some (.int .i64 an) ∧ W.cell? ⟨w.heap.size, 5, none⟩ = some (.int .i64 br) ∧ W.cell? ⟨w.heap.size, 6, none⟩ = some (.int .i64 bn) ∧ W.cell? ⟨rb, 0, none⟩ = some (.pointer (some ⟨sb, 0, none⟩))) := Lib.hid (fun W hW => by
    have hu := (Upd.refl [] w1).drew.trans hW
    have hb := XB.out.upd hu (by simp)
    exact ⟨hb.cell 1, hb.cell 3, hb.cell 4, hb.cell 5, hb.cell 6, (HM.out W (UA.out.trans hu)).2⟩)
  refine wp_invN [(6, .det (.tuple #[.int .i64 g, .nilIface]))] [] (by kernel_rfl) (by kernel_rfl) (by kernel_rfl) ⟨lasts_det _, trivial⟩ ?_
  with_reducible apply wpV_light
  · simp only [lightOp]
  · intro W hU hF
    have f0 := CS.out W hU
    clear hU hF
    go_simp
    exact rfl
  simp only [Act.put, List.setIfInBounds_toArray, List.set_cons_zero, List.set_cons_succ]
  with_reducible apply wpV_light
  · simp only [lightOp]
  · intro W hU hF
    have f0 := CS.out W hU
    clear hU hF
    go_simp
    exact rfl
  simp only [Act.put, List.setIfInBounds_toArray, List.set_cons_zero, List.set_cons_succ]
  with_reducible apply wpV_light
  · simp only [lightOp]
  · intro W hU hF
    have f0 := CS.out W hU
    clear hU hF
    go_simp
    exact rfl
  simp only [Act.put, List.setIfInBounds_toArray, List.set_cons_zero, List.set_cons_succ]
  with_reducible apply wpV_light
  · simp only [lightOp]
  · intro W hU hF
    have f0 := CS.out W hU
    clear hU hF
    go_simp
    exact rfl
  simp only [Act.put, List.setIfInBounds_toArray, List.set_cons_zero, List.set_cons_succ]
  with_reducible apply wpV_light
  · simp only [lightOp]
  · intro W hU hF
    have f0 := CS.out W hU
    clear hU hF
    go_simp
    exact rfl
  simp only [Act.put, List.setIfInBounds_toArray, List.set_cons_zero, List.set_cons_succ]
  with_reducible apply wpV_light
  · simp only [lightOp]
  · intro W hU hF
    have f0 := CS.out W hU
    clear hU hF
    go_simp
    exact rfl
  simp only [Act.put, List.setIfInBounds_toArray, List.set_cons_zero, List.set_cons_succ]
  refine wpV_heavy (by simp only [lightOp]) (by rfl) (fun W hU hk hF K hK => ?_) ?_
  · go_wp2_with fail
    refine (m_size H sb FM r.s c W (HM.out W (UA.out.trans ((Upd.refl [] w1).drew.trans hU))).1).mono ?_
    rintro e wx ⟨v, rfl, ev, ux⟩
    simp only [HC.out, HG.out, if_true] at ev ⊢
    obtain rfl := errv_zero ev
    go_wp2_with fail
    exact hK.out _ _ (outV_new rfl rfl (by intro b hb; cases hb) ux)
  rintro _ rfl
  simp only [Act.put, List.setIfInBounds_toArray, List.set_cons_zero, List.set_cons_succ]
  with_reducible apply wpV_light
  · simp only [lightOp]
  · intro W hU hF
    have f0 := CS.out W hU
    clear hU hF
    go_simp
    exact rfl
  simp only [Act.put, List.setIfInBounds_toArray, List.set_cons_zero, List.set_cons_succ]
  with_reducible apply wpV_light
  · simp only [lightOp]
  · intro W hU hF
    have f0 := CS.out W hU
    clear hU hF
    go_simp
    exact rfl
  simp only [Act.put, List.setIfInBounds_toArray, List.set_cons_zero, List.set_cons_succ]
  with_reducible apply wpV_light
  · simp only [lightOp]
  · intro W hU hF
    have f0 := CS.out W hU
    clear hU hF
    go_simp
    exact rfl
  simp only [Act.put, List.setIfInBounds_toArray, List.set_cons_zero, List.set_cons_succ]
  with_reducible apply wpV_light
  · simp only [lightOp]
  · intro W hU hF
    have f0 := CS.out W hU
    clear hU hF
    go_simp
    exact rfl
  simp only [Act.put, List.setIfInBounds_toArray, List.set_cons_zero, List.set_cons_succ]
  with_reducible apply wpV_light
  · simp only [lightOp]
  · intro W hU hF
    have f0 := CS.out W hU
    clear hU hF
    go_simp
    exact rfl
  simp only [Act.put, List.setIfInBounds_toArray, List.set_cons_zero, List.set_cons_succ]
  refine wpV_end (fun W hU _ hF => ?_)
  have UX : Hid (Upd [] w W) := Lib.hid (UA.out.trans ((Upd.refl [] w1).drew.trans hU))
  have BX : Hid (Blk W w.heap.size 40 _) := Lib.hid (XB.out.upd ((Upd.refl [] w1).drew.trans hU) (by simp))
  have e0 : W.cell? ⟨w.heap.size, 0, none⟩ = some (.int .i64 5) := BX.out.cell 0
  have e2 : W.cell? ⟨w.heap.size, 2, none⟩ = some (.int .i64 reg) := BX.out.cell 2
  clear hU hF
  refine wpT_end ?_
  go_wp2_with fail
  refine (tell_ok reg g W (HR.out.upd0 UX.out) HL.out.1.1 HL.out.1.2 (Nat.le_trans HL.out.2.1 UX.out.size) HL.out.2.2).mono ?_
  rintro e w4 ⟨rfl, hp⟩
  have HP := Lib.hid (hp.pre UX.out)
  clear hp e0 e2
  go_wp2_with fail
  go_ret
  exact ⟨rfl, HP.out⟩
set_option maxRecDepth 100000 in
set_option maxHeartbeats 4000000 in
theorem ask_range {H rb : Nat} {F : List Nat} {ks : List Int} {r : RS} (c reg ar an br bn : Int) (vb ve : Value) (w : World) (h : Run H rb F ks w r) (hc : isC r.s c = true) (h0 : 0 ≤ reg) (h8 : reg ≤ 8) (ha : 0 ≤ ar ∧ ar ≤ 8) (hb : 0 ≤ br ∧ br ≤ 8) (hk3 : oErr r.s c = 0) (hH : H ≤ w.heap.size) (hl : r.told.length + 1 ≤ 201 * 1000) (g : Int) (hg : (rangeL (coll r.s c.toNat) (keyV r ar an) (keyV r br bn) : Int) = g) :
    Calls Tryz.prog 71 #[.pointer (some ⟨rb, 0, none⟩), .agg #[.int .i64 7, .int .i64 c, .int .i64 reg, .int .i64 ar, .int .i64 an, .int .i64 br, .int .i64 bn, vb, ve]] w fun e w' => e = .returned .nilIface ∧ RunPost H rb F ks (tell r reg g) w w' := by
  have HR := Lib.hid h
  obtain ⟨sb, FM, hM⟩ := h.mdl
  have HM := Lib.hid hM
  have HC := Lib.hid hc
  have H3 := Lib.hid hk3
  have HAB := Lib.hid (And.intro ha hb)
  have HL := Lib.hid (And.intro (And.intro h0 h8) (And.intro hH hl))
  obtain ⟨z, hz⟩ : ∃ z, keyV r ar an = z := ⟨_, rfl⟩
  have HZ := Lib.hid hz
  clear hz
  obtain ⟨y, hy⟩ : ∃ y, keyV r br bn = y := ⟨_, rfl⟩
  have HY := Lib.hid hy
  have HG : Hid ((rangeC r.s c z y : Int) = g) := Lib.hid (by unfold rangeC; rw [if_pos H3.out, ← HZ.out, ← HY.out]; exact hg)
  clear hg hy
  have hrb := HR.out.lt
  clear h hM hc hk3 ha hb h0 h8 hH hl
  go_enter Tryz.func71, Tryz.ntmps71
  go_wp2_with fail
  have XB : Hid (Blk (w.alloc (.cells #[.int .i64 7, .int .i64 c, .int .i64 reg, .int .i64 ar, .int .i64 an, .int .i64 br, .int .i64 bn, vb, ve] 40)) w.heap.size 40 #[.int .i64 7, .int .i64 c, .int .i64 reg, .int .i64 ar, .int .i64 an, .int .i64 br, .int .i64 bn, vb, ve]) := Lib.hid (Blk.new w _ _)
  have UA : Hid (Upd [] w (w.alloc (.cells #[.int .i64 7, .int .i64 c, .int .i64 reg, .int .i64 ar, .int .i64 an, .int .i64 br, .int .i64 bn, vb, ve] 40))) := Lib.hid ((Upd.refl [] w).alloc _)
  generalize (w.alloc (.cells #[.int .i64 7, .int .i64 c, .int .i64 reg, .int .i64 ar, .int .i64 an, .int .i64 br, .int .i64 bn, vb, ve] 40)) = w1 at *
  have CS : Hid (∀ W, Upd [] w1.drew W → W.cell? ⟨w.heap.size, 1, none⟩ = some (.int .i64 c) ∧ W.cell? ⟨w.heap.size, 3, none⟩ = some (.int .i64 ar) ∧ W.cell? ⟨w.heap.size, 4, none⟩ = some (.int .i64 an) ∧ W.cell? ⟨w.heap.size, 5, none⟩ = some (.int .i64 br) ∧ W.cell? ⟨w.heap.size, 6, none⟩ = some (.int .i64 bn) ∧ W.cell? ⟨rb, 0, none⟩ = some (.pointer (some ⟨sb, 0, none⟩))) := Lib.hid (fun W hW => by
    have hu := (Upd.refl [] w1).drew.trans hW
    have hb := XB.out.upd hu (by simp)
    exact ⟨hb.cell 1, hb.cell 3, hb.cell 4, hb.cell 5, hb.cell 6, (HM.out W (UA.out.trans hu)).2⟩)
  refine wp_invN [(9, .det (.int .i64 z)), (13, .det (.int .i64 y)), (14, .det (.tuple #[.int .i64 g, .nilIface]))] [] (by kernel_rfl) (by kernel_rfl) (by kernel_rfl) ⟨lasts_det _, lasts_det _, lasts_det _, trivial⟩ ?_
  with_reducible apply wpV_light
  · simp only [lightOp]
  · intro W hU hF
    have f0 := CS.out W hU
    clear hU hF
    go_simp
    exact rfl
  simp only [Act.put, List.setIfInBounds_toArray, List.set_cons_zero, List.set_cons_succ]
  with_reducible apply wpV_light
  · simp only [lightOp]
  · intro W hU hF
    have f0 := CS.out W hU
    clear hU hF
    go_simp
    exact rfl
  simp only [Act.put, List.setIfInBounds_toArray, List.set_cons_zero, List.set_cons_succ]
  with_reducible apply wpV_light
  · simp only [lightOp]
  · intro W hU hF
    have f0 := CS.out W hU
    clear hU hF
    go_simp
    exact rfl
  simp only [Act.put, List.setIfInBounds_toArray, List.set_cons_zero, List.set_cons_succ]
  with_reducible apply wpV_light
  · simp only [lightOp]
  · intro W hU hF
    have f0 := CS.out W hU
    clear hU hF
    go_simp
    exact rfl
  simp only [Act.put, List.setIfInBounds_toArray, List.set_cons_zero, List.set_cons_succ]
  with_reducible apply wpV_light
  · simp only [lightOp]
  · intro W hU hF
    have f0 := CS.out W hU
    clear hU hF
    go_simp
    exact rfl
  simp only [Act.put, List.setIfInBounds_toArray, List.set_cons_zero, List.set_cons_succ]
  with_reducible apply wpV_light
  · simp only [lightOp]
  · intro W hU hF
    have f0 := CS.out W hU
    clear hU hF
    go_simp
    exact rfl
  simp only [Act.put, List.setIfInBounds_toArray, List.set_cons_zero, List.set_cons_succ]
  with_reducible apply wpV_light
  · simp only [lightOp]
  · intro W hU hF
    have f0 := CS.out W hU
    clear hU hF
    go_simp
    exact rfl
  simp only [Act.put, List.setIfInBounds_toArray, List.set_cons_zero, List.set_cons_succ]
  with_reducible apply wpV_light
  · simp only [lightOp]
  · intro W hU hF
    have f0 := CS.out W hU
    clear hU hF
    go_simp
    exact rfl
  simp only [Act.put, List.setIfInBounds_toArray, List.set_cons_zero, List.set_cons_succ]
  with_reducible apply wpV_light
  · simp only [lightOp]
  · intro W hU hF
    have f0 := CS.out W hU
    clear hU hF
    go_simp
    exact rfl
  simp only [Act.put, List.setIfInBounds_toArray, List.set_cons_zero, List.set_cons_succ]
  refine wpV_heavy (by simp only [lightOp]) (by rfl) (fun W hU hk hF K hK => ?_) ?_
  · go_wp2_with fail
    refine (key_ok ar an W (HR.out.upd0 (UA.out.trans ((Upd.refl [] w1).drew.trans hU))) HAB.out.1).mono ?_
    rintro e wx ⟨rfl, ux⟩
    go_wp2_with fail
    rw [HZ.out]
    exact hK.out _ _ (outV_new rfl rfl (by intro b hb; cases hb) ux)
  rintro _ rfl
  simp only [Act.put, List.setIfInBounds_toArray, List.set_cons_zero, List.set_cons_succ]
  with_reducible apply wpV_light
  · simp only [lightOp]
  · intro W hU hF
    have f0 := CS.out W hU
    clear hU hF
    go_simp
    exact rfl
  simp only [Act.put, List.setIfInBounds_toArray, List.set_cons_zero, List.set_cons_succ]
  with_reducible apply wpV_light
  · simp only [lightOp]
  · intro W hU hF
    have f0 := CS.out W hU
    clear hU hF
    go_simp
    exact rfl
  simp only [Act.put, List.setIfInBounds_toArray, List.set_cons_zero, List.set_cons_succ]
  with_reducible apply wpV_light
  · simp only [lightOp]
  · intro W hU hF
    have f0 := CS.out W hU
    clear hU hF
    go_simp
    exact rfl
  simp only [Act.put, List.setIfInBounds_toArray, List.set_cons_zero, List.set_cons_succ]
  refine wpV_heavy (by simp only [lightOp]) (by rfl) (fun W hU hk hF K hK => ?_) ?_
  · go_wp2_with fail
    refine (key_ok br bn W (HR.out.upd0 (UA.out.trans ((Upd.refl [] w1).drew.trans hU))) HAB.out.2).mono ?_
    rintro e wx ⟨rfl, ux⟩
    go_wp2_with fail
    rw [HY.out]
    exact hK.out _ _ (outV_new rfl rfl (by intro b hb; cases hb) ux)
  rintro _ rfl
  simp only [Act.put, List.setIfInBounds_toArray, List.set_cons_zero, List.set_cons_succ]
  refine wpV_heavy (by simp only [lightOp]) (by rfl) (fun W hU hk hF K hK => ?_) ?_
  · go_wp2_with fail
    refine (m_range H sb FM r.s c z y W (HM.out W (UA.out.trans ((Upd.refl [] w1).drew.trans hU))).1).mono ?_
    rintro e wx ⟨v, rfl, ev, ux⟩
    simp only [HC.out, H3.out, HG.out, if_true] at ev ⊢
    obtain rfl := errv_zero ev
    go_wp2_with fail
    exact hK.out _ _ (outV_new rfl rfl (by intro b hb; cases hb) ux)
  rintro _ rfl
  simp only [Act.put, List.setIfInBounds_toArray, List.set_cons_zero, List.set_cons_succ]
  with_reducible apply wpV_light
  · simp only [lightOp]
  · intro W hU hF
    have f0 := CS.out W hU
    clear hU hF
    go_simp
    exact rfl
  simp only [Act.put, List.setIfInBounds_toArray, List.set_cons_zero, List.set_cons_succ]
  with_reducible apply wpV_light
  · simp only [lightOp]
  · intro W hU hF
    have f0 := CS.out W hU
    clear hU hF
    go_simp
    exact rfl
  simp only [Act.put, List.setIfInBounds_toArray, List.set_cons_zero, List.set_cons_succ]
  with_reducible apply wpV_light
  · simp only [lightOp]
  · intro W hU hF
    have f0 := CS.out W hU
    clear hU hF
    go_simp
    exact rfl
  simp only [Act.put, List.setIfInBounds_toArray, List.set_cons_zero, List.set_cons_succ]
  with_reducible apply wpV_light
  · simp only [lightOp]
  · intro W hU hF
    have f0 := CS.out W hU
    clear hU hF
    go_simp
    exact rfl
  simp only [Act.put, List.setIfInBounds_toArray, List.set_cons_zero, List.set_cons_succ]
  with_reducible apply wpV_light
  · simp only [lightOp]
  · intro W hU hF
    have f0 := CS.out W hU
    clear hU hF
    go_simp
    exact rfl
  simp only [Act.put, List.setIfInBounds_toArray, List.set_cons_zero, List.set_cons_succ]
  refine wpV_end (fun W hU _ hF => ?_)
  have UX : Hid (Upd [] w W) := Lib.hid (UA.out.trans ((Upd.refl [] w1).drew.trans hU))
  have BX : Hid (Blk W w.heap.size 40 _) := Lib.hid (XB.out.upd ((Upd.refl [] w1).drew.trans hU) (by simp))
  have e0 : W.cell? ⟨w.heap.size, 0, none⟩ = some (.int .i64 7) := BX.out.cell 0
  have e2 : W.cell? ⟨w.heap.size, 2, none⟩ = some (.int .i64 reg) := BX.out.cell 2
  clear hU hF
  refine wpT_end ?_
  go_wp2_with fail
  refine (tell_ok reg g W (HR.out.upd0 UX.out) HL.out.1.1 HL.out.1.2 (Nat.le_trans HL.out.2.1 UX.out.size) HL.out.2.2).mono ?_
  rintro e w4 ⟨rfl, hp⟩
  have HP := Lib.hid (hp.pre UX.out)
  clear hp e0 e2
  go_wp2_with fail
  go_ret
  exact ⟨rfl, HP.out⟩
theorem isC_lt {s : MS} {c : Int} (h : isC s c = true) : c.toNat < s.L.length := by
  obtain ⟨i, rfl, hi⟩ := isC_form h
  simpa using hi
set_option maxRecDepth 100000 in
set_option maxHeartbeats 4000000 in
/-- Put where there is no room. -/
theorem m_full (B sb : Nat) (F : List Nat) (s : MS) (c k v : Int) (w : World) (h : Mdl B sb F w s) (hcc : isC s c = true) (h8 : putE (coll s c.toNat) k = 8) :
    Calls Tryz.prog 52 #[.pointer (some ⟨sb, 0, none⟩), .int .i64 c, .int .i64 k, .int .i64 v] w fun e w' => e = .returned (.iface 63 (.int .i64 8)) ∧ w = w' := by
  have h9 : (get (coll s c.toNat) k).isSome = false ∧ 100 ≤ (coll s c.toNat).length := by
    unfold putE at h8
    by_cases h0 : (get (coll s c.toNat) k).isSome = false ∧ 100 ≤ (coll s c.toNat).length
    · exact h0
    · rw [if_neg h0] at h8; omega
  have HQ := Lib.hid h9
  have HCC := Lib.hid hcc
  clear h8 h9 hcc
  have H := Lib.hid h
  obtain ⟨g, vk, gc, cc, ms, hF, h⟩ := h
  have HF := Lib.hid hF
  have HS := Lib.hid h
  have K8 := Lib.hid (show s.L.length ≤ 8 by have := g.k8; rw [g.kl] at this; exact this)
  clear g hF h
  go_enter Tryz.func52, Tryz.ntmps52
  go_wp2_with fail
  refine (m_coll B sb vk gc cc ms s c w HS.out K8.out).mono ?_
  rintro e w1 (⟨hc, rfl, i, m, rfl, hi, hm, rfl⟩ | ⟨hc, u1, gf, rfl, bf⟩)
  · obtain ⟨m', hm', him⟩ := HS.out.at_ hi
    obtain rfl : m' = m := by rw [hm] at hm'; exact (Option.some.inj hm').symm
    have HQ' := HQ.out
    rw [Int.toNat_natCast] at HQ'
    have hg : get (coll s i) k = none := by
      cases hx : get (coll s i) k with
      | none => rfl
      | some _ => rw [hx] at HQ'; simp at HQ'
    have l0 : (Instr.lookup 77 (.map (some m')) (.int .i64 k) true).run Tryz.prog w = .ok (.tuple #[.int .i64 0, .bool false]) w := by
      have hr := run_lookup_int (P := Tryz.prog) (z := .int .i64 0) (mt := 77) Tryz.underlying77 Tryz.underlying3 (w := w) (by kernel_rfl) him k
      rw [hr]
      unfold mapI
      rw [hg]
      rfl
    obtain ⟨N, hN⟩ : ∃ N, (coll s i).length = N := ⟨_, rfl⟩
    have ln : (Builtin.len_ #[77] 3 #[.map (some m')]).run Tryz.prog w = .ok (.int .i64 N) w := hN ▸ run_len_int Tryz.underlying77 him _
    have d : decide ((100 : Int) ≤ (N : Int)) = true := by have := HQ'.2; rw [hN] at this; simp; omega
    clear hm hm' hi hc him hN hg HQ'
    go_wp2_with fail
    go_ret
    exact ⟨rfl, rfl⟩
  · rw [HCC.out] at hc; simp at hc
theorem RunSt.setM {H rb sb : Nat} {FM : List Nat} {vt : Value} {ks : List Int} {w w' : World} {r : RS} {s' : MS} (h : RunSt H rb sb FM vt ks w r) (hm : Mdl H sb FM w' s') (hu : Upd FM w w') (hK : s'.K = r.s.K) :
    RunSt H rb sb FM vt ks w' { r with s := s' } ∧ Frm (fpR rb vt FM) (fpR rb vt FM) w w' :=
  ⟨⟨h.blk.upd hu h.rm, hm, own_upd h.told hu (fun b hb => h.tm b hb), h.low, h.rm, h.tm, ⟨hK.trans h.ok.K, h.ok.regs, h.ok.steps, h.ok.told⟩⟩, ⟨hu.mono (fun x hx => .inl (by unfold fpR; rw [List.mem_cons, List.mem_append]; exact .inr (.inr hx))), fun k hk => .inl hk⟩⟩
theorem kB_key (r : RS) (a n : Int) : kB (keyV r a n) := by
  have := modI_rng (argV r a n) 64 (by omega)
  unfold kB keyV
  omega
set_option maxRecDepth 100000 in
set_option maxHeartbeats 4000000 in
theorem ask_put {H rb : Nat} {F : List Nat} {ks : List Int} {r : RS} (c reg ar an br bn : Int) (vb ve : Value) (w : World) (h : Run H rb F ks w r) (hc : isC r.s c = true) (ha : 0 ≤ ar ∧ ar ≤ 8) (hb : 0 ≤ br ∧ br ≤ 8) (hp : putE (coll r.s c.toNat) (keyV r ar an) = 0) :
    Calls Tryz.prog 71 #[.pointer (some ⟨rb, 0, none⟩), .agg #[.int .i64 2, .int .i64 c, .int .i64 reg, .int .i64 ar, .int .i64 an, .int .i64 br, .int .i64 bn, vb, ve]] w fun e w' => e = .returned .nilIface ∧ RunPost H rb F ks { r with s := mPut r.s c.toNat (keyV r ar an) (valV r br bn) } w w' := by
  have HR := Lib.hid h
  obtain ⟨sb, FM, vt, hF, h⟩ := h
  have HFE : Hid (fpR rb vt FM = F) := Lib.hid hF.symm
  have HST := Lib.hid h
  have HM : Hid (∀ w', Upd [] w w' → Mdl H sb FM w' r.s ∧ w'.cell? ⟨rb, 0, none⟩ = some (.pointer (some ⟨sb, 0, none⟩))) := Lib.hid (fun w' hu => ⟨(HST.out.upd0 hu).mdl, (HST.out.upd0 hu).cells.1⟩)
  have HC := Lib.hid hc
  have HAB := Lib.hid (And.intro ha hb)
  have hM := trivial
  have hk3 := trivial
  have h0 := trivial
  have h8 := trivial
  have hH := trivial
  have hl := trivial
  clear hF
  have KBZ := Lib.hid (kB_key r ar an)
  obtain ⟨z, hz⟩ : ∃ z, keyV r ar an = z := ⟨_, rfl⟩
  obtain ⟨y, hy⟩ : ∃ y, valV r br bn = y := ⟨_, rfl⟩
  have HZ := Lib.hid hz
  have HY := Lib.hid hy
  rw [hz] at hp KBZ ⊢
  rw [hy]
  have HP := Lib.hid hp
  clear hz hy hp
  have hrb := HR.out.lt
  clear h hM hc hk3 ha hb h0 h8 hH hl
  go_enter Tryz.func71, Tryz.ntmps71
  go_wp2_with fail
  have XB : Hid (Blk (w.alloc (.cells #[.int .i64 2, .int .i64 c, .int .i64 reg, .int .i64 ar, .int .i64 an, .int .i64 br, .int .i64 bn, vb, ve] 40)) w.heap.size 40 #[.int .i64 2, .int .i64 c, .int .i64 reg, .int .i64 ar, .int .i64 an, .int .i64 br, .int .i64 bn, vb, ve]) := Lib.hid (Blk.new w _ _)
  have UA : Hid (Upd [] w (w.alloc (.cells #[.int .i64 2, .int .i64 c, .int .i64 reg, .int .i64 ar, .int .i64 an, .int .i64 br, .int .i64 bn, vb, ve] 40))) := Lib.hid ((Upd.refl [] w).alloc _)
  generalize (w.alloc (.cells #[.int .i64 2, .int .i64 c, .int .i64 reg, .int .i64 ar, .int .i64 an, .int .i64 br, .int .i64 bn, vb, ve] 40)) = w1 at *
  have CS : Hid (∀ W, Upd [] w1.drew W → W.cell? ⟨w.heap.size, 1, none⟩ = some (.int .i64 c) ∧ W.cell? ⟨w.heap.size, 3, none⟩ = some (.int .i64 ar) ∧ W.cell? ⟨w.heap.size, 4, none⟩ = some (.int .i64 an) ∧ W.cell? ⟨w.heap.size, 5, none⟩ = some (.int .i64 br) ∧ W.cell? ⟨w.heap.size, 6, none⟩ = some (.int .i64 bn) ∧ W.cell? ⟨rb, 0, none⟩ = some (.pointer (some ⟨sb, 0, none⟩))) := Lib.hid (fun W hW => by
    have hu := (Upd.refl [] w1).drew.trans hW
    have hb := XB.out.upd hu (by simp)
    exact ⟨hb.cell 1, hb.cell 3, hb.cell 4, hb.cell 5, hb.cell 6, (HM.out W (UA.out.trans hu)).2⟩)
  refine wp_invNT 14 [(9, .det (.int .i64 z)), (13, .det (.int .i64 y))] [] (by kernel_rfl) (by simp) (by kernel_rfl) (by kernel_rfl) ⟨lasts_det _, lasts_det _, trivial⟩ ?_
  simp only [List.take_succ_cons, List.take_zero, List.drop_succ_cons, List.drop_zero]
  with_reducible apply wpV_light
  · simp only [lightOp]
  · intro W hU hF
    have f0 := CS.out W hU
    clear hU hF
    go_simp
    exact rfl
  simp only [Act.put, List.setIfInBounds_toArray, List.set_cons_zero, List.set_cons_succ]
  with_reducible apply wpV_light
  · simp only [lightOp]
  · intro W hU hF
    have f0 := CS.out W hU
    clear hU hF
    go_simp
    exact rfl
  simp only [Act.put, List.setIfInBounds_toArray, List.set_cons_zero, List.set_cons_succ]
  with_reducible apply wpV_light
  · simp only [lightOp]
  · intro W hU hF
    have f0 := CS.out W hU
    clear hU hF
    go_simp
    exact rfl
  simp only [Act.put, List.setIfInBounds_toArray, List.set_cons_zero, List.set_cons_succ]
  with_reducible apply wpV_light
  · simp only [lightOp]
  · intro W hU hF
    have f0 := CS.out W hU
    clear hU hF
    go_simp
    exact rfl
  simp only [Act.put, List.setIfInBounds_toArray, List.set_cons_zero, List.set_cons_succ]
  with_reducible apply wpV_light
  · simp only [lightOp]
  · intro W hU hF
    have f0 := CS.out W hU
    clear hU hF
    go_simp
    exact rfl
  simp only [Act.put, List.setIfInBounds_toArray, List.set_cons_zero, List.set_cons_succ]
  with_reducible apply wpV_light
  · simp only [lightOp]
  · intro W hU hF
    have f0 := CS.out W hU
    clear hU hF
    go_simp
    exact rfl
  simp only [Act.put, List.setIfInBounds_toArray, List.set_cons_zero, List.set_cons_succ]
  with_reducible apply wpV_light
  · simp only [lightOp]
  · intro W hU hF
    have f0 := CS.out W hU
    clear hU hF
    go_simp
    exact rfl
  simp only [Act.put, List.setIfInBounds_toArray, List.set_cons_zero, List.set_cons_succ]
  with_reducible apply wpV_light
  · simp only [lightOp]
  · intro W hU hF
    have f0 := CS.out W hU
    clear hU hF
    go_simp
    exact rfl
  simp only [Act.put, List.setIfInBounds_toArray, List.set_cons_zero, List.set_cons_succ]
  with_reducible apply wpV_light
  · simp only [lightOp]
  · intro W hU hF
    have f0 := CS.out W hU
    clear hU hF
    go_simp
    exact rfl
  simp only [Act.put, List.setIfInBounds_toArray, List.set_cons_zero, List.set_cons_succ]
  refine wpV_heavy (by simp only [lightOp]) (by rfl) (fun W hU hk hF K hK => ?_) ?_
  · go_wp2_with fail
    refine (key_ok ar an W (HR.out.upd0 (UA.out.trans ((Upd.refl [] w1).drew.trans hU))) HAB.out.1).mono ?_
    rintro e wx ⟨rfl, ux⟩
    go_wp2_with fail
    rw [HZ.out]
    exact hK.out _ _ (outV_new rfl rfl (by intro b hb; cases hb) ux)
  rintro _ rfl
  simp only [Act.put, List.setIfInBounds_toArray, List.set_cons_zero, List.set_cons_succ]
  with_reducible apply wpV_light
  · simp only [lightOp]
  · intro W hU hF
    have f0 := CS.out W hU
    clear hU hF
    go_simp
    exact rfl
  simp only [Act.put, List.setIfInBounds_toArray, List.set_cons_zero, List.set_cons_succ]
  with_reducible apply wpV_light
  · simp only [lightOp]
  · intro W hU hF
    have f0 := CS.out W hU
    clear hU hF
    go_simp
    exact rfl
  simp only [Act.put, List.setIfInBounds_toArray, List.set_cons_zero, List.set_cons_succ]
  with_reducible apply wpV_light
  · simp only [lightOp]
  · intro W hU hF
    have f0 := CS.out W hU
    clear hU hF
    go_simp
    exact rfl
  simp only [Act.put, List.setIfInBounds_toArray, List.set_cons_zero, List.set_cons_succ]
  refine wpV_heavy (by simp only [lightOp]) (by rfl) (fun W hU hk hF K hK => ?_) ?_
  · go_wp2_with fail
    refine (value_ok br bn W (HR.out.upd0 (UA.out.trans ((Upd.refl [] w1).drew.trans hU))) HAB.out.2).mono ?_
    rintro e wx ⟨rfl, ux⟩
    go_wp2_with fail
    rw [HY.out]
    exact hK.out _ _ (outV_new rfl rfl (by intro b hb; cases hb) ux)
  rintro _ rfl
  simp only [Act.put, List.setIfInBounds_toArray, List.set_cons_zero, List.set_cons_succ]
  refine wpV_end (fun W hU _ hF => ?_)
  have UX : Hid (Upd [] w W) := Lib.hid (UA.out.trans ((Upd.refl [] w1).drew.trans hU))
  clear hU hF
  refine wpT_op (by rfl) (fun K hK => ?_)
  go_wp2_with fail
  refine (m_put H sb FM r.s c z y W (HM.out W UX.out).1 KBZ.out).mono ?_
  rintro e w5 ⟨u, rfl, ev, hm, hu⟩
  simp only [HC.out, HP.out, if_true] at ev hm
  obtain rfl := errv_zero ev
  have R5 := Lib.hid ((HST.out.upd0 UX.out).setM hm hu (by unfold mPut setC; split <;> rfl))
  clear ev hm hu
  go_wp2_with fail
  refine hK.out _ _ ?_
  clear hK K
  try simp only [Act.put, List.setIfInBounds_toArray, List.set_cons_zero, List.set_cons_succ]
  refine wpT_op (by rfl) (fun K hK => ?_)
  go_wp2_with fail
  refine hK.out _ _ ?_
  clear hK K
  try simp only [Act.put, List.setIfInBounds_toArray, List.set_cons_zero, List.set_cons_succ]
  refine wpT_end ?_
  go_wp2_with fail
  go_ret
  refine ⟨rfl, F, ?_, ?_⟩
  · rw [← HFE.out]; exact ⟨sb, FM, vt, rfl, R5.out.1⟩
  · rw [← HFE.out]; exact R5.out.2.pre UX.out
set_option maxRecDepth 100000 in
set_option maxHeartbeats 4000000 in
theorem ask_full {H rb : Nat} {F : List Nat} {ks : List Int} {r : RS} (c reg ar an br bn : Int) (vb ve : Value) (w : World) (h : Run H rb F ks w r) (hc : isC r.s c = true) (ha : 0 ≤ ar ∧ ar ≤ 8) (hb : 0 ≤ br ∧ br ≤ 8) (hp : putE (coll r.s c.toNat) (keyV r ar an) = 8) :
    Calls Tryz.prog 71 #[.pointer (some ⟨rb, 0, none⟩), .agg #[.int .i64 2, .int .i64 c, .int .i64 reg, .int .i64 ar, .int .i64 an, .int .i64 br, .int .i64 bn, vb, ve]] w fun e w' => e = .returned (.iface 63 (.int .i64 8)) ∧ RunPost H rb F ks r w w' := by
  have HR := Lib.hid h
  obtain ⟨sb, FM, vt, hF, h⟩ := h
  have HFE : Hid (fpR rb vt FM = F) := Lib.hid hF.symm
  have HST := Lib.hid h
  have HM : Hid (∀ w', Upd [] w w' → Mdl H sb FM w' r.s ∧ w'.cell? ⟨rb, 0, none⟩ = some (.pointer (some ⟨sb, 0, none⟩))) := Lib.hid (fun w' hu => ⟨(HST.out.upd0 hu).mdl, (HST.out.upd0 hu).cells.1⟩)
  have HC := Lib.hid hc
  have HAB := Lib.hid (And.intro ha hb)
  have hM := trivial
  have hk3 := trivial
  have h0 := trivial
  have h8 := trivial
  have hH := trivial
  have hl := trivial
  clear hF
  obtain ⟨z, hz⟩ : ∃ z, keyV r ar an = z := ⟨_, rfl⟩
  obtain ⟨y, hy⟩ : ∃ y, valV r br bn = y := ⟨_, rfl⟩
  have HZ := Lib.hid hz
  have HY := Lib.hid hy
  rw [hz] at hp
  have HP := Lib.hid hp
  clear hz hy hp
  have hrb := HR.out.lt
  clear h hM hc hk3 ha hb h0 h8 hH hl
  go_enter Tryz.func71, Tryz.ntmps71
  go_wp2_with fail
  have XB : Hid (Blk (w.alloc (.cells #[.int .i64 2, .int .i64 c, .int .i64 reg, .int .i64 ar, .int .i64 an, .int .i64 br, .int .i64 bn, vb, ve] 40)) w.heap.size 40 #[.int .i64 2, .int .i64 c, .int .i64 reg, .int .i64 ar, .int .i64 an, .int .i64 br, .int .i64 bn, vb, ve]) := Lib.hid (Blk.new w _ _)
  have UA : Hid (Upd [] w (w.alloc (.cells #[.int .i64 2, .int .i64 c, .int .i64 reg, .int .i64 ar, .int .i64 an, .int .i64 br, .int .i64 bn, vb, ve] 40))) := Lib.hid ((Upd.refl [] w).alloc _)
  generalize (w.alloc (.cells #[.int .i64 2, .int .i64 c, .int .i64 reg, .int .i64 ar, .int .i64 an, .int .i64 br, .int .i64 bn, vb, ve] 40)) = w1 at *
  have CS : Hid (∀ W, Upd [] w1.drew W → W.cell? ⟨w.heap.size, 1, none⟩ = some (.int .i64 c) ∧ W.cell? ⟨w.heap.size, 3, none⟩ = some (.int .i64 ar) ∧ W.cell? ⟨w.heap.size, 4, none⟩ = some (.int .i64 an) ∧ W.cell? ⟨w.heap.size, 5, none⟩ = some (.int .i64 br) ∧ W.cell? ⟨w.heap.size, 6, none⟩ = some (.int .i64 bn) ∧ W.cell? ⟨rb, 0, none⟩ = some (.pointer (some ⟨sb, 0, none⟩))) := Lib.hid (fun W hW => by
    have hu := (Upd.refl [] w1).drew.trans hW
    have hb := XB.out.upd hu (by simp)
    exact ⟨hb.cell 1, hb.cell 3, hb.cell 4, hb.cell 5, hb.cell 6, (HM.out W (UA.out.trans hu)).2⟩)
  refine wp_invNT 14 [(9, .det (.int .i64 z)), (13, .det (.int .i64 y))] [] (by kernel_rfl) (by simp) (by kernel_rfl) (by kernel_rfl) ⟨lasts_det _, lasts_det _, trivial⟩ ?_
  simp only [List.take_succ_cons, List.take_zero, List.drop_succ_cons, List.drop_zero]
  with_reducible apply wpV_light
  · simp only [lightOp]
  · intro W hU hF
    have f0 := CS.out W hU
    clear hU hF
    go_simp
    exact rfl
  simp only [Act.put, List.setIfInBounds_toArray, List.set_cons_zero, List.set_cons_succ]
  with_reducible apply wpV_light
  · simp only [lightOp]
  · intro W hU hF
    have f0 := CS.out W hU
    clear hU hF
    go_simp
    exact rfl
  simp only [Act.put, List.setIfInBounds_toArray, List.set_cons_zero, List.set_cons_succ]
  with_reducible apply wpV_light
  · simp only [lightOp]
  · intro W hU hF
    have f0 := CS.out W hU
    clear hU hF
    go_simp
    exact rfl
  simp only [Act.put, List.setIfInBounds_toArray, List.set_cons_zero, List.set_cons_succ]
  with_reducible apply wpV_light
  · simp only [lightOp]
  · intro W hU hF
    have f0 := CS.out W hU
    clear hU hF
    go_simp
    exact rfl
  simp only [Act.put, List.setIfInBounds_toArray, List.set_cons_zero, List.set_cons_succ]
  with_reducible apply wpV_light
  · simp only [lightOp]
  · intro W hU hF
    have f0 := CS.out W hU
    clear hU hF
    go_simp
    exact rfl
  simp only [Act.put, List.setIfInBounds_toArray, List.set_cons_zero, List.set_cons_succ]
  with_reducible apply wpV_light
  · simp only [lightOp]
  · intro W hU hF
    have f0 := CS.out W hU
    clear hU hF
    go_simp
    exact rfl
  simp only [Act.put, List.setIfInBounds_toArray, List.set_cons_zero, List.set_cons_succ]
  with_reducible apply wpV_light
  · simp only [lightOp]
  · intro W hU hF
    have f0 := CS.out W hU
    clear hU hF
    go_simp
    exact rfl
  simp only [Act.put, List.setIfInBounds_toArray, List.set_cons_zero, List.set_cons_succ]
  with_reducible apply wpV_light
  · simp only [lightOp]
  · intro W hU hF
    have f0 := CS.out W hU
    clear hU hF
    go_simp
    exact rfl
  simp only [Act.put, List.setIfInBounds_toArray, List.set_cons_zero, List.set_cons_succ]
  with_reducible apply wpV_light
  · simp only [lightOp]
  · intro W hU hF
    have f0 := CS.out W hU
    clear hU hF
    go_simp
    exact rfl
  simp only [Act.put, List.setIfInBounds_toArray, List.set_cons_zero, List.set_cons_succ]
  refine wpV_heavy (by simp only [lightOp]) (by rfl) (fun W hU hk hF K hK => ?_) ?_
  · go_wp2_with fail
    refine (key_ok ar an W (HR.out.upd0 (UA.out.trans ((Upd.refl [] w1).drew.trans hU))) HAB.out.1).mono ?_
    rintro e wx ⟨rfl, ux⟩
    go_wp2_with fail
    rw [HZ.out]
    exact hK.out _ _ (outV_new rfl rfl (by intro b hb; cases hb) ux)
  rintro _ rfl
  simp only [Act.put, List.setIfInBounds_toArray, List.set_cons_zero, List.set_cons_succ]
  with_reducible apply wpV_light
  · simp only [lightOp]
  · intro W hU hF
    have f0 := CS.out W hU
    clear hU hF
    go_simp
    exact rfl
  simp only [Act.put, List.setIfInBounds_toArray, List.set_cons_zero, List.set_cons_succ]
  with_reducible apply wpV_light
  · simp only [lightOp]
  · intro W hU hF
    have f0 := CS.out W hU
    clear hU hF
    go_simp
    exact rfl
  simp only [Act.put, List.setIfInBounds_toArray, List.set_cons_zero, List.set_cons_succ]
  with_reducible apply wpV_light
  · simp only [lightOp]
  · intro W hU hF
    have f0 := CS.out W hU
    clear hU hF
    go_simp
    exact rfl
  simp only [Act.put, List.setIfInBounds_toArray, List.set_cons_zero, List.set_cons_succ]
  refine wpV_heavy (by simp only [lightOp]) (by rfl) (fun W hU hk hF K hK => ?_) ?_
  · go_wp2_with fail
    refine (value_ok br bn W (HR.out.upd0 (UA.out.trans ((Upd.refl [] w1).drew.trans hU))) HAB.out.2).mono ?_
    rintro e wx ⟨rfl, ux⟩
    go_wp2_with fail
    rw [HY.out]
    exact hK.out _ _ (outV_new rfl rfl (by intro b hb; cases hb) ux)
  rintro _ rfl
  simp only [Act.put, List.setIfInBounds_toArray, List.set_cons_zero, List.set_cons_succ]
  refine wpV_end (fun W hU _ hF => ?_)
  have UX : Hid (Upd [] w W) := Lib.hid (UA.out.trans ((Upd.refl [] w1).drew.trans hU))
  clear hU hF
  refine wpT_op (by rfl) (fun K hK => ?_)
  go_wp2_with fail
  refine (m_full H sb FM r.s c z y W (HM.out W UX.out).1 HC.out HP.out).mono ?_
  rintro e w5 ⟨rfl, rfl⟩
  go_wp2_with fail
  refine hK.out _ _ ?_
  clear hK K
  try simp only [Act.put, List.setIfInBounds_toArray, List.set_cons_zero, List.set_cons_succ]
  refine wpT_op (by rfl) (fun K hK => ?_)
  go_wp2_with fail
  refine hK.out _ _ ?_
  clear hK K
  try simp only [Act.put, List.setIfInBounds_toArray, List.set_cons_zero, List.set_cons_succ]
  refine wpT_end ?_
  go_wp2_with fail
  go_ret
  exact ⟨rfl, F, HR.out.upd0 UX.out, (Frm.refl _ _).pre UX.out⟩
set_option maxRecDepth 100000 in
set_option maxHeartbeats 4000000 in
theorem ask_del {H rb : Nat} {F : List Nat} {ks : List Int} {r : RS} (c reg ar an br bn : Int) (vb ve : Value) (w : World) (h : Run H rb F ks w r) (hc : isC r.s c = true) (ha : 0 ≤ ar ∧ ar ≤ 8) (hb : 0 ≤ br ∧ br ≤ 8) :
    Calls Tryz.prog 71 #[.pointer (some ⟨rb, 0, none⟩), .agg #[.int .i64 3, .int .i64 c, .int .i64 reg, .int .i64 ar, .int .i64 an, .int .i64 br, .int .i64 bn, vb, ve]] w fun e w' => e = .returned .nilIface ∧ RunPost H rb F ks { r with s := mDel r.s c.toNat (keyV r ar an) } w w' := by
  have HR := Lib.hid h
  obtain ⟨sb, FM, vt, hF, h⟩ := h
  have HFE : Hid (fpR rb vt FM = F) := Lib.hid hF.symm
  have HST := Lib.hid h
  have HM : Hid (∀ w', Upd [] w w' → Mdl H sb FM w' r.s ∧ w'.cell? ⟨rb, 0, none⟩ = some (.pointer (some ⟨sb, 0, none⟩))) := Lib.hid (fun w' hu => ⟨(HST.out.upd0 hu).mdl, (HST.out.upd0 hu).cells.1⟩)
  have HC := Lib.hid hc
  have HAB := Lib.hid (And.intro ha hb)
  have hM := trivial
  have hk3 := trivial
  have h0 := trivial
  have h8 := trivial
  have hH := trivial
  have hl := trivial
  clear hF
  obtain ⟨z, hz⟩ : ∃ z, keyV r ar an = z := ⟨_, rfl⟩
  have HZ := Lib.hid hz
  rw [hz]
  clear hz
  have hrb := HR.out.lt
  clear h hM hc hk3 ha hb h0 h8 hH hl
  go_enter Tryz.func71, Tryz.ntmps71
  go_wp2_with fail
  have XB : Hid (Blk (w.alloc (.cells #[.int .i64 3, .int .i64 c, .int .i64 reg, .int .i64 ar, .int .i64 an, .int .i64 br, .int .i64 bn, vb, ve] 40)) w.heap.size 40 #[.int .i64 3, .int .i64 c, .int .i64 reg, .int .i64 ar, .int .i64 an, .int .i64 br, .int .i64 bn, vb, ve]) := Lib.hid (Blk.new w _ _)
  have UA : Hid (Upd [] w (w.alloc (.cells #[.int .i64 3, .int .i64 c, .int .i64 reg, .int .i64 ar, .int .i64 an, .int .i64 br, .int .i64 bn, vb, ve] 40))) := Lib.hid ((Upd.refl [] w).alloc _)
  generalize (w.alloc (.cells #[.int .i64 3, .int .i64 c, .int .i64 reg, .int .i64 ar, .int .i64 an, .int .i64 br, .int .i64 bn, vb, ve] 40)) = w1 at *
  have CS : Hid (∀ W, Upd [] w1.drew W → W.cell? ⟨w.heap.size, 1, none⟩ = some (.int .i64 c) ∧ W.cell? ⟨w.heap.size, 3, none⟩ = some (.int .i64 ar) ∧ W.cell? ⟨w.heap.size, 4, none⟩ = some (.int .i64 an) ∧ W.cell? ⟨w.heap.size, 5, none⟩ = some (.int .i64 br) ∧ W.cell? ⟨w.heap.size, 6, none⟩ = some (.int .i64 bn) ∧ W.cell? ⟨rb, 0, none⟩ = some (.pointer (some ⟨sb, 0, none⟩))) := Lib.hid (fun W hW => by
    have hu := (Upd.refl [] w1).drew.trans hW
    have hb := XB.out.upd hu (by simp)
    exact ⟨hb.cell 1, hb.cell 3, hb.cell 4, hb.cell 5, hb.cell 6, (HM.out W (UA.out.trans hu)).2⟩)
  refine wp_invNT 10 [(9, .det (.int .i64 z))] [] (by kernel_rfl) (by simp) (by kernel_rfl) (by kernel_rfl) ⟨lasts_det _, trivial⟩ ?_
  simp only [List.take_succ_cons, List.take_zero, List.drop_succ_cons, List.drop_zero]
  with_reducible apply wpV_light
  · simp only [lightOp]
  · intro W hU hF
    have f0 := CS.out W hU
    clear hU hF
    go_simp
    exact rfl
  simp only [Act.put, List.setIfInBounds_toArray, List.set_cons_zero, List.set_cons_succ]
  with_reducible apply wpV_light
  · simp only [lightOp]
  · intro W hU hF
    have f0 := CS.out W hU
    clear hU hF
    go_simp
    exact rfl
  simp only [Act.put, List.setIfInBounds_toArray, List.set_cons_zero, List.set_cons_succ]
  with_reducible apply wpV_light
  · simp only [lightOp]
  · intro W hU hF
    have f0 := CS.out W hU
    clear hU hF
    go_simp
    exact rfl
  simp only [Act.put, List.setIfInBounds_toArray, List.set_cons_zero, List.set_cons_succ]
  with_reducible apply wpV_light
  · simp only [lightOp]
  · intro W hU hF
    have f0 := CS.out W hU
    clear hU hF
    go_simp
    exact rfl
  simp only [Act.put, List.setIfInBounds_toArray, List.set_cons_zero, List.set_cons_succ]
  with_reducible apply wpV_light
  · simp only [lightOp]
  · intro W hU hF
    have f0 := CS.out W hU
    clear hU hF
    go_simp
    exact rfl
  simp only [Act.put, List.setIfInBounds_toArray, List.set_cons_zero, List.set_cons_succ]
  with_reducible apply wpV_light
  · simp only [lightOp]
  · intro W hU hF
    have f0 := CS.out W hU
    clear hU hF
    go_simp
    exact rfl
  simp only [Act.put, List.setIfInBounds_toArray, List.set_cons_zero, List.set_cons_succ]
  with_reducible apply wpV_light
  · simp only [lightOp]
  · intro W hU hF
    have f0 := CS.out W hU
    clear hU hF
    go_simp
    exact rfl
  simp only [Act.put, List.setIfInBounds_toArray, List.set_cons_zero, List.set_cons_succ]
  with_reducible apply wpV_light
  · simp only [lightOp]
  · intro W hU hF
    have f0 := CS.out W hU
    clear hU hF
    go_simp
    exact rfl
  simp only [Act.put, List.setIfInBounds_toArray, List.set_cons_zero, List.set_cons_succ]
  with_reducible apply wpV_light
  · simp only [lightOp]
  · intro W hU hF
    have f0 := CS.out W hU
    clear hU hF
    go_simp
    exact rfl
  simp only [Act.put, List.setIfInBounds_toArray, List.set_cons_zero, List.set_cons_succ]
  refine wpV_heavy (by simp only [lightOp]) (by rfl) (fun W hU hk hF K hK => ?_) ?_
  · go_wp2_with fail
    refine (key_ok ar an W (HR.out.upd0 (UA.out.trans ((Upd.refl [] w1).drew.trans hU))) HAB.out.1).mono ?_
    rintro e wx ⟨rfl, ux⟩
    go_wp2_with fail
    rw [HZ.out]
    exact hK.out _ _ (outV_new rfl rfl (by intro b hb; cases hb) ux)
  rintro _ rfl
  simp only [Act.put, List.setIfInBounds_toArray, List.set_cons_zero, List.set_cons_succ]
  refine wpV_end (fun W hU _ hF => ?_)
  have UX : Hid (Upd [] w W) := Lib.hid (UA.out.trans ((Upd.refl [] w1).drew.trans hU))
  clear hU hF
  refine wpT_op (by rfl) (fun K hK => ?_)
  go_wp2_with fail
  refine (m_del H sb FM r.s c z W (HM.out W UX.out).1).mono ?_
  rintro e w5 ⟨u, rfl, ev, hm, hu⟩
  simp only [HC.out, if_true] at ev hm
  obtain rfl := errv_zero ev
  have R5 := Lib.hid ((HST.out.upd0 UX.out).setM hm hu rfl)
  clear ev hm hu
  go_wp2_with fail
  refine hK.out _ _ ?_
  clear hK K
  try simp only [Act.put, List.setIfInBounds_toArray, List.set_cons_zero, List.set_cons_succ]
  refine wpT_op (by rfl) (fun K hK => ?_)
  go_wp2_with fail
  refine hK.out _ _ ?_
  clear hK K
  try simp only [Act.put, List.setIfInBounds_toArray, List.set_cons_zero, List.set_cons_succ]
  refine wpT_end ?_
  go_wp2_with fail
  go_ret
  refine ⟨rfl, F, ?_, ?_⟩
  · rw [← HFE.out]; exact ⟨sb, FM, vt, rfl, R5.out.1⟩
  · rw [← HFE.out]; exact R5.out.2.pre UX.out
set_option maxRecDepth 100000 in
set_option maxHeartbeats 4000000 in
theorem ask_list {H rb : Nat} {F : List Nat} {ks : List Int} {r : RS} (c reg ar an br bn : Int) (vb ve : Value) (w : World) (h : Run H rb F ks w r) (hc : isC r.s c = true) (hH : H ≤ w.heap.size) (hl : r.told.length + 201 ≤ 201 * 1000) :
    Calls Tryz.prog 71 #[.pointer (some ⟨rb, 0, none⟩), .agg #[.int .i64 8, .int .i64 c, .int .i64 reg, .int .i64 ar, .int .i64 an, .int .i64 br, .int .i64 bn, vb, ve]] w fun e w' => e = .returned .nilIface ∧ RunPost H rb F ks (tellL r (coll r.s c.toNat).length (coll r.s c.toNat)) w w' := by
  have HR := Lib.hid h
  have HC := Lib.hid hc
  have HL := Lib.hid (And.intro hH hl)
  have UA : Hid (Upd [] w (w.alloc (.cells #[.int .i64 8, .int .i64 c, .int .i64 reg, .int .i64 ar, .int .i64 an, .int .i64 br, .int .i64 bn, vb, ve] 40))) := Lib.hid ((Upd.refl [] w).alloc _)
  clear h hc hH hl
  go_enter Tryz.func71, Tryz.ntmps71
  go_wp2_with fail
  refine (list_ok c _ (HR.out.upd0 UA.out) HC.out (Nat.le_trans HL.out.1 UA.out.size) HL.out.2).mono ?_
  rintro e w4 ⟨rfl, hp⟩
  have HP := Lib.hid (hp.pre UA.out)
  clear hp
  go_wp2_with fail
  go_ret
  exact ⟨rfl, HP.out⟩
end Go.Proofs.YtfbeaklplefojaaGreatDoor.Ev

/-
  eval.runner: or.
-/
import Derived.Test.YtfbeaklplefojaaGreatDoorEvB20
import Derived.Test.YtfbeaklplefojaaGreatDoorEvB22
import Derived.BigRegion
set_option linter.unusedVariables false
namespace Go.Proofs.YtfbeaklplefojaaGreatDoor.Gr
open Go.RowKit Assoc MP Ev
attribute [local go_sem] litStep_value

def ints2 (B : Nat) (s : MS) (xs : List Int) : Spec2 := ⟨fun p v w => Ow encK 3 w B v xs ∧ ∃ sb F, p = .pointer (some ⟨sb, 0, none⟩) ∧ Mdl B sb F w s ∧ ∀ b, v.ownBlock = some b → b ∉ F, fun v => ∃ A n c, v = .slice A n c⟩
theorem lasts_ints2 (w0 : World) (B : Nat) (s : MS) (xs : List Int) : Lasts2 w0 (ints2 B s xs) :=
  ⟨fun p v w w' _ ⟨h1, sb, F, h2, h3, h4⟩ hu => ⟨h1.upd0 hu, sb, F, h2, h3.upd0 hu, h4⟩, ⟨_, none, 0, 0, rfl⟩, fun _ _ _ ⟨h, _⟩ => by obtain ⟨A, c, e, _⟩ := h.form; exact ⟨A, _, c, e⟩⟩
set_option maxRecDepth 100000 in
set_option maxHeartbeats 4000000 in
theorem or_ok {H rb : Nat} {F : List Nat} {ks : List Int} {r : RS} {b e : List Stm} (k c reg ar an br bn : Int) (vb ve : Value) (w : World) (hf : RF ks k c reg ar an br bn) (h : Run H rb F ks w r) (ht : r.told.length + 201 ≤ 201 * r.steps) (hb : Stms w H vb b) (he : Stms w H ve e) (hH : H ≤ w.heap.size) (hab : AllC ks b) (hae : AllC ks e) :
    Calls Tryz.prog 70 #[.pointer (some ⟨rb, 0, none⟩), .agg #[.int .i64 k, .int .i64 c, .int .i64 reg, .int .i64 ar, .int .i64 an, .int .i64 br, .int .i64 bn, vb, ve]] w (EvPost H rb F ks (if (evL b r).2 = 3 then evL e { r with steps := (evL b r).1.steps } else evL b r) w) := by
  have HR := Lib.hid h
  have HB := Lib.hid hb
  have HE := Lib.hid he
  have HTB := Lib.hid ht
  have HAB := Lib.hid (And.intro hf.a hf.b)
  have HRF := Lib.hid hf
  have HHH := Lib.hid hH
  obtain ⟨c11, cf, cl⟩ := h.cells
  have XB : Hid (Blk (w.alloc (.cells #[.int .i64 k, .int .i64 c, .int .i64 reg, .int .i64 ar, .int .i64 an, .int .i64 br, .int .i64 bn, vb, ve] 40)) w.heap.size 40 #[.int .i64 k, .int .i64 c, .int .i64 reg, .int .i64 ar, .int .i64 an, .int .i64 br, .int .i64 bn, vb, ve]) := Lib.hid (Blk.new w _ _)
  have UA : Hid (Upd [] w (w.alloc (.cells #[.int .i64 k, .int .i64 c, .int .i64 reg, .int .i64 ar, .int .i64 an, .int .i64 br, .int .i64 bn, vb, ve] 40))) := Lib.hid ((Upd.refl [] w).alloc _)
  clear h ht hb he hH hf
  have HA := Lib.hid hab
  have HAE := Lib.hid hae
  have HMO : Hid (r.steps ≤ (evL b r).1.steps) := Lib.hid (mono_evL b r)
  have HLT : Hid (∀ k ∈ F, H ≤ k ∧ k < w.heap.size) := Lib.hid HR.out.lt
  obtain ⟨X, hX⟩ : ∃ X, evL b r = X := ⟨_, rfl⟩
  have HX := Lib.hid hX
  rw [hX] at HMO ⊢
  obtain ⟨Y, hY⟩ : ∃ Y, (if X.2 = 3 then evL e { r with steps := X.1.steps } else X) = Y := ⟨_, rfl⟩
  have HY := Lib.hid hY
  rw [hY]
  have S1 : Hid (w.heap.size ≤ (w.alloc (.cells #[.int .i64 k, .int .i64 c, .int .i64 reg, .int .i64 ar, .int .i64 an, .int .i64 br, .int .i64 bn, vb, ve] 40)).heap.size) := Lib.hid UA.out.size
  obtain ⟨sb, FM, vt, hF, hrs⟩ := HR.out
  have HFE : Hid (fpR rb vt FM = F) := Lib.hid hF.symm
  have HRS := Lib.hid hrs
  obtain ⟨a0, a1, a2, a3, a4, a5, a6, a7, a8, hrg⟩ := nine hrs.ok.regs
  have HRG := Lib.hid hrg
  have OT : Hid (Ow encK 3 w H vt r.told) := Lib.hid (by unfold Ow; rw [flat_ints]; exact hrs.told)
  obtain ⟨At, ct, hvt, _, _⟩ := own_slice hrs.told
  have HVT := Lib.hid hvt
  have CC : Hid (∀ W, Upd [] w W → W.cell? ⟨rb, 0, none⟩ = some (.pointer (some ⟨sb, 0, none⟩)) ∧ W.cell? ⟨rb, 10, none⟩ = some vt ∧ W.cell? ⟨rb, 1, none⟩ = some (.int .i64 a0) ∧ W.cell? ⟨rb, 2, none⟩ = some (.int .i64 a1) ∧ W.cell? ⟨rb, 3, none⟩ = some (.int .i64 a2) ∧ W.cell? ⟨rb, 4, none⟩ = some (.int .i64 a3) ∧ W.cell? ⟨rb, 5, none⟩ = some (.int .i64 a4) ∧ W.cell? ⟨rb, 6, none⟩ = some (.int .i64 a5) ∧ W.cell? ⟨rb, 7, none⟩ = some (.int .i64 a6) ∧ W.cell? ⟨rb, 8, none⟩ = some (.int .i64 a7) ∧ W.cell? ⟨rb, 9, none⟩ = some (.int .i64 a8)) := Lib.hid (fun W hW => by
    have h1 := HRS.out.upd0 hW
    have h2 : ∀ {i x}, r.regs[i]? = some x → W.cell? ⟨rb, 1 + i, none⟩ = some (.int .i64 x) := fun hx => h1.reg hx
    rw [HRG.out] at h2
    exact ⟨h1.cells.1, h1.cells.2.1, h2 (i := 0) rfl, h2 (i := 1) rfl, h2 (i := 2) rfl, h2 (i := 3) rfl, h2 (i := 4) rfl, h2 (i := 5) rfl, h2 (i := 6) rfl, h2 (i := 7) rfl, h2 (i := 8) rfl⟩)
  have HCL : Hid (∀ W, Upd [] w W → Calls Tryz.prog 40 #[vt] W fun e w' => CloneKPost r.told W e w') := Lib.hid (fun W hW => by
    have h1 := (OT.out.upd0 hW).rd
    have h2 := HRS.out.ok.told
    rw [HVT.out] at h1 ⊢
    exact clone_big _ _ _ _ W h1 rfl (by omega))
  clear hab hae c11 cf hX hY hF hrs hrg hvt
  go_enter Tryz.func70, Tryz.ntmps70
  go_wp2_with fail
  generalize (w.alloc (.cells #[.int .i64 k, .int .i64 c, .int .i64 reg, .int .i64 ar, .int .i64 an, .int .i64 br, .int .i64 bn, vb, ve] 40)) = w1 at *
  have CS : Hid (∀ W, Upd [] w1.drew W → W.cell? ⟨rb, 0, none⟩ = some (.pointer (some ⟨sb, 0, none⟩)) ∧ W.cell? ⟨rb, 10, none⟩ = some vt ∧ W.cell? ⟨rb, 1, none⟩ = some (.int .i64 a0) ∧ W.cell? ⟨rb, 2, none⟩ = some (.int .i64 a1) ∧ W.cell? ⟨rb, 3, none⟩ = some (.int .i64 a2) ∧ W.cell? ⟨rb, 4, none⟩ = some (.int .i64 a3) ∧ W.cell? ⟨rb, 5, none⟩ = some (.int .i64 a4) ∧ W.cell? ⟨rb, 6, none⟩ = some (.int .i64 a5) ∧ W.cell? ⟨rb, 7, none⟩ = some (.int .i64 a6) ∧ W.cell? ⟨rb, 8, none⟩ = some (.int .i64 a7) ∧ W.cell? ⟨rb, 9, none⟩ = some (.int .i64 a8)) := Lib.hid (fun W hW => CC.out W (UA.out.trans ((Upd.refl [] w1).drew.trans hW)))
  refine wp_inv2 16 [(4, 4, .of (mdlN w1.heap.size r.s)), (13, 4, ints2 w1.heap.size r.s r.told), (14, 14, .of (boxN w1.heap.size 67 #[.int .i64 0, .int .i64 0, .int .i64 0, .int .i64 0, .int .i64 0, .int .i64 0, .int .i64 0, .int .i64 0, .int .i64 0]))] (by kernel_rfl) (by simp) (by kernel_rfl) (by kernel_rfl) (by kernel_rfl) ⟨lasts2_of (lasts_mdlN _ _ _), lasts_ints2 _ _ _ _, lasts2_of (lasts_boxN _ _ _ _), trivial⟩ ?_
  simp only [List.take_succ_cons, List.take_zero, List.drop_succ_cons, List.drop_zero]
  with_reducible apply wpV_light
  · simp only [lightOp]
  · intro W hU hF
    have f0 := CS.out W hU
    clear hU hF
    go_simp
    exact rfl
  simp only [Act.put, List.setIfInBounds_toArray, List.set_cons_zero, List.set_cons_succ]
  with_reducible apply wpV_light
  · simp only [lightOp]
  · intro W hU hF
    have f0 := CS.out W hU
    clear hU hF
    go_simp
    exact rfl
  simp only [Act.put, List.setIfInBounds_toArray, List.set_cons_zero, List.set_cons_succ]
  with_reducible apply wpV_light
  · simp only [lightOp]
  · intro W hU hF
    have f0 := CS.out W hU
    clear hU hF
    go_simp
    exact rfl
  simp only [Act.put, List.setIfInBounds_toArray, List.set_cons_zero, List.set_cons_succ]
  with_reducible apply wpV_light
  · simp only [lightOp]
  · intro W hU hF
    have f0 := CS.out W hU
    clear hU hF
    go_simp
    exact rfl
  simp only [Act.put, List.setIfInBounds_toArray, List.set_cons_zero, List.set_cons_succ]
  refine wpV_heavy (by simp only [lightOp]) (by rfl) (fun W hU hk hF K hK => ?_) ?_
  · go_wp2_with fail
    have UH := (UA.out.trans ((Upd.refl [] w1).drew.trans hU))
    refine (m_copy H sb FM r.s W (HRS.out.upd0 UH).mdl).mono ?_
    rintro e' wx ⟨sb', F', rfl, hm, ux⟩
    go_wp2_with fail
    exact hK.out _ _ (outV_new rfl ⟨sb', F', rfl, mdl_base hm ((Upd.refl [] w1).drew.trans hU).size⟩ (by intro b hb; cases hb) ux)
  rintro _ ⟨sb', rfl⟩
  simp only [Act.put, List.setIfInBounds_toArray, List.set_cons_zero, List.set_cons_succ]
  with_reducible apply wpV_light
  · simp only [lightOp]
  · intro W hU hF
    have f0 := CS.out W hU
    clear hU hF
    go_simp
    exact rfl
  simp only [Act.put, List.setIfInBounds_toArray, List.set_cons_zero, List.set_cons_succ]
  with_reducible apply wpV_light
  · simp only [lightOp]
  · intro W hU hF
    have f0 := CS.out W hU
    clear hU hF
    go_simp
    exact rfl
  simp only [Act.put, List.setIfInBounds_toArray, List.set_cons_zero, List.set_cons_succ]
  with_reducible apply wpV_light
  · simp only [lightOp]
  · intro W hU hF
    have f0 := CS.out W hU
    clear hU hF
    go_simp
    exact rfl
  simp only [Act.put, List.setIfInBounds_toArray, List.set_cons_zero, List.set_cons_succ]
  with_reducible apply wpV_light
  · simp only [lightOp]
  · intro W hU hF
    have f0 := CS.out W hU
    clear hU hF
    go_simp
    exact rfl
  simp only [Act.put, List.setIfInBounds_toArray, List.set_cons_zero, List.set_cons_succ]
  with_reducible apply wpV_light
  · simp only [lightOp]
  · intro W hU hF
    have f0 := CS.out W hU
    clear hU hF
    go_simp
    exact rfl
  simp only [Act.put, List.setIfInBounds_toArray, List.set_cons_zero, List.set_cons_succ]
  with_reducible apply wpV_light
  · simp only [lightOp]
  · intro W hU hF
    have f0 := CS.out W hU
    clear hU hF
    go_simp
    exact rfl
  simp only [Act.put, List.setIfInBounds_toArray, List.set_cons_zero, List.set_cons_succ]
  with_reducible apply wpV_light
  · simp only [lightOp]
  · intro W hU hF
    have f0 := CS.out W hU
    clear hU hF
    go_simp
    exact rfl
  simp only [Act.put, List.setIfInBounds_toArray, List.set_cons_zero, List.set_cons_succ]
  with_reducible apply wpV_light
  · simp only [lightOp]
  · intro W hU hF
    have f0 := CS.out W hU
    clear hU hF
    go_simp
    exact rfl
  simp only [Act.put, List.setIfInBounds_toArray, List.set_cons_zero, List.set_cons_succ]
  refine wpV_heavy (by simp only [lightOp]) (by rfl) (fun W hU hk hF K hK => ?_) ?_
  · obtain ⟨sb4, F4, e4, hm4⟩ := hF.out.1 (by kernel_rfl)
    injection e4 with e4
    injection e4 with e4
    injection e4 with e4
    subst e4
    have HM4 := Lib.hid hm4
    clear hm4
    go_wp2_with fail
    refine (HCL.out W (UA.out.trans ((Upd.refl [] w1).drew.trans hU))).mono ?_
    rintro e' wx ⟨v, rfl, ho, ux⟩
    go_wp2_with fail
    exact hK.out _ _ (outV_new rfl ⟨own_base ho ((Upd.refl [] w1).drew.trans hU).size, sb', F4, rfl, HM4.out.upd0 ux, fun b hb hm => by have h1 := (own_lt ho hb).1; have h2 := (HM4.out.lt b hm).2; omega⟩ (by intro b hb; cases hb) ux)
  rintro _ ⟨A', n', c', rfl⟩
  simp only [Act.put, List.setIfInBounds_toArray, List.set_cons_zero, List.set_cons_succ]
  refine wpV_heavy (by simp only [lightOp]) (by rfl) (fun W hU hk hF K hK => ?_) ?_
  · go_wp2_with fail
    exact hK.out _ _ (outV_new rfl ⟨_, rfl, ((Upd.refl [] w1).drew.trans hU).size, Blk.new _ _ _⟩ (by intro b hb; cases hb) ((Upd.refl [] _).alloc _))
  rintro _ ⟨g, rfl⟩
  simp only [Act.put, List.setIfInBounds_toArray, List.set_cons_zero, List.set_cons_succ]
  with_reducible apply wpV_light
  · simp only [lightOp]
  · intro W hU hF
    have f0 := CS.out W hU
    clear hU hF
    go_simp
    exact rfl
  simp only [Act.put, List.setIfInBounds_toArray, List.set_cons_zero, List.set_cons_succ]
  refine wpV_end (fun W hU _ hF => ?_)
  obtain ⟨ho13, sb2, FC, e4, hm4, hsep⟩ := hF.out.2.1 (by kernel_rfl)
  injection e4 with e4
  injection e4 with e4
  injection e4 with e4
  subst e4
  have O13 := Lib.hid ho13
  have SEP := Lib.hid hsep
  obtain ⟨g2, e14, hg2, hb14⟩ := hF.out.2.2.1 (by kernel_rfl)
  injection e14 with e14
  injection e14 with e14
  injection e14 with e14
  subst e14
  have MC := Lib.hid hm4
  have B14 := Lib.hid hb14
  have HG2 := Lib.hid hg2
  have UX : Hid (Upd [] w W) := Lib.hid (UA.out.trans ((Upd.refl [] w1).drew.trans hU))
  have BX := Lib.hid (XB.out.upd ((Upd.refl [] w1).drew.trans hU) (by simp))
  clear hU hF hm4 hb14 hg2 ho13 hsep
  have x0 : W.cell? ⟨g, 0, none⟩ = some (.int .i64 0) := B14.out.cell 0
  have x1 : W.cell? ⟨g, 1, none⟩ = some (.int .i64 0) := B14.out.cell 1
  have x2 : W.cell? ⟨g, 2, none⟩ = some (.int .i64 0) := B14.out.cell 2
  have x3 : W.cell? ⟨g, 3, none⟩ = some (.int .i64 0) := B14.out.cell 3
  have x4 : W.cell? ⟨g, 4, none⟩ = some (.int .i64 0) := B14.out.cell 4
  have x5 : W.cell? ⟨g, 5, none⟩ = some (.int .i64 0) := B14.out.cell 5
  have x6 : W.cell? ⟨g, 6, none⟩ = some (.int .i64 0) := B14.out.cell 6
  have x7 : W.cell? ⟨g, 7, none⟩ = some (.int .i64 0) := B14.out.cell 7
  have x8 : W.cell? ⟨g, 8, none⟩ = some (.int .i64 0) := B14.out.cell 8
  have xf := B14.out.frozen
  have xl := B14.out.lt
  refine wpT_op (by rfl) (fun K hK => ?_)
  go_wp2_with fail
  refine hK.out _ _ ?_
  clear hK K
  try simp only [Act.put, List.setIfInBounds_toArray, List.set_cons_zero, List.set_cons_succ]
  refine wpT_op (by rfl) (fun K hK => ?_)
  go_wp2_with fail
  refine hK.out _ _ ?_
  clear hK K
  try simp only [Act.put, List.setIfInBounds_toArray, List.set_cons_zero, List.set_cons_succ]
  refine wpT_end ?_
  have P9 := Lib.hid (put9 B14.out (.int .i64 a0) (.int .i64 a1) (.int .i64 a2) (.int .i64 a3) (.int .i64 a4) (.int .i64 a5) (.int .i64 a6) (.int .i64 a7) (.int .i64 a8))
  clear x0 x1 x2 x3 x4 x5 x6 x7 x8 xf xl
  generalize (((((((((W.setCell ⟨g, 0, none⟩ (.int .i64 a0)).setCell ⟨g, 1, none⟩ (.int .i64 a1)).setCell ⟨g, 2, none⟩ (.int .i64 a2)).setCell ⟨g, 3, none⟩ (.int .i64 a3)).setCell ⟨g, 4, none⟩ (.int .i64 a4)).setCell ⟨g, 5, none⟩ (.int .i64 a5)).setCell ⟨g, 6, none⟩ (.int .i64 a6)).setCell ⟨g, 7, none⟩ (.int .i64 a7)).setCell ⟨g, 8, none⟩ (.int .i64 a8)) = W9 at P9 ⊢
  have GW : Hid (w.heap.size < g ∧ w1.heap.size ≤ g) := Lib.hid ⟨Nat.lt_of_lt_of_le XB.out.lt HG2.out, HG2.out⟩
  have U9 : Hid (Upd [] w W9) := Lib.hid (UX.out.trans' P9.out.2 (fun x hx => by simp at hx; subst hx; exact .inr (Nat.le_of_lt GW.out.1)))
  have BX9 := Lib.hid (BX.out.upd P9.out.2 (by simp; have := GW.out.1; omega))
  have MC9 := Lib.hid (MC.out.upd P9.out.2 (fun k hk => by simp; rintro rfl; exact MC.out.off B14.out (by decide) (by decide) (by decide) hk))
  have O9 := Lib.hid (O13.out.upd P9.out.2 (fun q hq => by simp; rintro rfl; exact own_type O13.out B14.out (by decide) hq))
  have e7 : W9.cell? ⟨w.heap.size, 7, none⟩ = some vb := BX9.out.cell 7
  have HC := Lib.hid (HA.out H rb F vb r W9 (HR.out.upd0 U9.out) (tb_le HTB.out) (HB.out.belowW (U9.out.below HHH.out (by simp))) (Nat.le_trans HHH.out U9.out.size))
  rw [HX.out] at HC
  go_wp2_with fail
  refine HC.out.mono ?_
  rintro e' w5 ⟨u, rfl, hsv, ⟨F5, h5, f5⟩, t5⟩
  have H5 := Lib.hid h5
  have T5 := Lib.hid t5
  have F95 := Lib.hid f5
  have G5 := Lib.hid (f5.pre U9.out)
  have HSV := Lib.hid hsv
  have L9 : Hid (∀ k ∈ F, k < w1.heap.size ∧ k < W9.heap.size) := Lib.hid (fun k hk => ⟨Nat.lt_of_lt_of_le (HLT.out k hk).2 S1.out, Nat.lt_of_lt_of_le (HLT.out k hk).2 U9.out.size⟩)
  have M5 := Lib.hid ((mdl_base MC9.out (Nat.le_trans HHH.out S1.out)).upd f5.upd (fun k hk hm => by have h1 := (MC9.out.lt k hk).1; have h2 := (L9.out _ hm).1; omega))
  have B5 := Lib.hid (P9.out.1.upd f5.upd (fun hm => by have h1 := (HLT.out _ hm).2; have h2 := GW.out.1; omega))
  have BX5 := Lib.hid (BX9.out.upd f5.upd (fun hm => by have h1 := (HLT.out _ hm).2; omega))
  have O5 := Lib.hid (O9.out.upd f5.upd (fun q hq hm => by have h1 := (own_lt O9.out hq).1; have h2 := (L9.out _ hm).1; omega))
  have D5 : Hid (∀ k ∈ F5, w1.heap.size ≤ k → W9.heap.size ≤ k) := Lib.hid (fun k hk hm => by
    rcases f5.sub k hk with h | h
    · have h2 := (L9.out _ h).1; omega
    · exact h)
  have MK : Hid (r.s.K = ks) := Lib.hid HR.out.ok.K
  have IS := Lib.hid (is_stopv HSV.out 13 3 (.inr ⟨rfl, rfl⟩))
  have HU : Hid (u = .nilIface ∨ (∃ x, u = .iface 63 x) ∨ ∃ x, u = .iface 106 x) := Lib.hid (by
    rcases hsv with ⟨_, h⟩ | ⟨_, h⟩ | ⟨g, _, _, h, _⟩
    · exact .inl h
    · exact .inr (.inl ⟨_, h⟩)
    · exact .inr (.inr ⟨_, h⟩))
  clear h5 f5 t5 HC e7
  by_cases h3 : X.2 = 3
  · have d3 : (X.2 == 3) = true := by simpa using h3
    rw [d3] at IS
    have HYY : Hid (Y = evL e { r with steps := X.1.steps }) := Lib.hid (by rw [← HY.out, if_pos h3])
    clear hsv d3 h3
    go_wp2_with fail
    refine IS.out.mono ?_
    rintro e' w6 ⟨rfl, rfl⟩
    obtain ⟨sb5, FM5, vt5, hF5, hr5⟩ := H5.out
    have HF5 := Lib.hid hF5
    have HR5 := Lib.hid hr5
    obtain ⟨b0, b1, b2, b3, b4, b5, b6, b7, b8, hb5⟩ := nine hr5.ok.regs
    have h2 : ∀ {i x}, X.1.regs[i]? = some x → w5.cell? ⟨rb, 1 + i, none⟩ = some (.int .i64 x) := fun hx => hr5.reg hx
    rw [hb5] at h2
    have y1 := h2 (i := 0) rfl
    have y2 := h2 (i := 1) rfl
    have y3 := h2 (i := 2) rfl
    have y4 := h2 (i := 3) rfl
    have y5 := h2 (i := 4) rfl
    have y6 := h2 (i := 5) rfl
    have y7 := h2 (i := 6) rfl
    have y8 := h2 (i := 7) rfl
    have y9 := h2 (i := 8) rfl
    obtain ⟨y0, y10, _, yf, yl⟩ := hr5.cells
    have x0 : w5.cell? ⟨g, 0, none⟩ = some (.int .i64 a0) := B5.out.cell 0
    have x1 : w5.cell? ⟨g, 1, none⟩ = some (.int .i64 a1) := B5.out.cell 1
    have x2 : w5.cell? ⟨g, 2, none⟩ = some (.int .i64 a2) := B5.out.cell 2
    have x3 : w5.cell? ⟨g, 3, none⟩ = some (.int .i64 a3) := B5.out.cell 3
    have x4 : w5.cell? ⟨g, 4, none⟩ = some (.int .i64 a4) := B5.out.cell 4
    have x5 : w5.cell? ⟨g, 5, none⟩ = some (.int .i64 a5) := B5.out.cell 5
    have x6 : w5.cell? ⟨g, 6, none⟩ = some (.int .i64 a6) := B5.out.cell 6
    have x7 : w5.cell? ⟨g, 7, none⟩ = some (.int .i64 a7) := B5.out.cell 7
    have x8 : w5.cell? ⟨g, 8, none⟩ = some (.int .i64 a8) := B5.out.cell 8
    have GR : Hid (g ≠ rb) := Lib.hid (by have := GW.out.1; rintro rfl; omega)
    have gr := GR.out
    have rg := gr.symm
    simp only [Nat.reduceAdd] at y1 y2 y3 y4 y5 y6 y7 y8 y9
    clear h2 hb5 hr5 hF5
    go_wp2_with fail
    go_region
    obtain ⟨hr6, u6⟩ := HR5.out.whole M5.out (v' := .slice A' n' c') (td := r.told) (by have := O5.out; unfold Ow at this; rw [flat_ints] at this; exact own_base this (Nat.le_trans HHH.out S1.out)) (fun hm => by have h1 := (MC9.out.lt _ hm).1; have h2 := S1.out; omega) SEP.out MK.out (by have := HR.out.ok.told; exact this) a0 a1 a2 a3 a4 a5 a6 a7 a8 _ rfl
    have R6 := Lib.hid (hr6.upd0 (Upd.refl [] _).drew)
    have U6 := Lib.hid u6.drew
    clear hr6 u6 x0 x1 x2 x3 x4 x5 x6 x7 x8 y0 y1 y2 y3 y4 y5 y6 y7 y8 y9 y10 yf yl gr rg
    generalize (((((((((((w5.setCell ⟨rb, 0, none⟩ (.pointer (some ⟨sb', 0, none⟩))).setCell ⟨rb, 1, none⟩ (.int .i64 a0)).setCell ⟨rb, 2, none⟩ (.int .i64 a1)).setCell ⟨rb, 3, none⟩ (.int .i64 a2)).setCell ⟨rb, 4, none⟩ (.int .i64 a3)).setCell ⟨rb, 5, none⟩ (.int .i64 a4)).setCell ⟨rb, 6, none⟩ (.int .i64 a5)).setCell ⟨rb, 7, none⟩ (.int .i64 a6)).setCell ⟨rb, 8, none⟩ (.int .i64 a7)).setCell ⟨rb, 9, none⟩ (.int .i64 a8)).setCell ⟨rb, 10, none⟩ (.slice A' n' c')).drew = W6 at R6 U6 ⊢
    have BX6 := Lib.hid (BX5.out.upd U6.out (by simp; omega))
    have e8 : W6.cell? ⟨w.heap.size, 8, none⟩ = some ve := BX6.out.cell 8
    have RR : Hid (Run H rb (fpR rb (.slice A' n' c') FC) ks W6 { r with steps := X.1.steps }) := Lib.hid ⟨sb', FC, _, rfl, by have := R6.out; rw [← HRG.out] at this; exact this⟩
    have G6 : Hid (Frm F (fpR rb (.slice A' n' c') FC) w W6) := Lib.hid ⟨G5.out.upd.trans' U6.out (fun x hx => .inl (by simp at hx; subst hx; rw [← HFE.out]; exact List.mem_cons_self ..)), fun q hq => by
      unfold fpR at hq
      rw [List.mem_cons, List.mem_append] at hq
      rcases hq with rfl | hq | hq
      · exact .inl (by rw [← HFE.out]; exact List.mem_cons_self ..)
      · right; have h1 := (own_lt O5.out (by simpa using hq)).1; have h2 := S1.out; omega
      · right; have h1 := (MC9.out.lt _ hq).1; have h2 := S1.out; omega⟩
    have HC6 := Lib.hid (HAE.out H rb (fpR rb (.slice A' n' c') FC) ve { r with steps := X.1.steps } W6 RR.out (by have h1 := HTB.out; have h2 := HMO.out; unfold TB; simp only; omega) (HE.out.frm G6.out (fun q hq => (HLT.out q hq).1) HHH.out) (Nat.le_trans HHH.out G6.out.upd.size))
    go_wp2_with fail
    refine HC6.out.mono ?_
    rintro e' w7 ⟨u7, rfl, hp7⟩
    have HP := Lib.hid (EvPost.preF ⟨u7, rfl, hp7⟩ G6.out)
    clear hp7 e8
    go_wp2_with fail
    go_ret
    rw [HYY.out]
    exact HP.out
  · have d3 : (X.2 == 3) = false := by simpa using h3
    rw [d3] at IS
    have HYY : Hid (Y = X) := Lib.hid (by rw [← HY.out, if_neg h3])
    clear hsv d3 h3
    go_wp2_with fail
    refine IS.out.mono ?_
    rintro e' w6 ⟨rfl, rfl⟩
    go_wp2_with fail
    go_ret
    rw [HYY.out]
    exact ⟨_, rfl, HSV.out, ⟨F5, H5.out, G5.out⟩, T5.out⟩
set_option maxRecDepth 100000 in
set_option maxHeartbeats 4000000 in
theorem one_or {H rb : Nat} {F : List Nat} {ks : List Int} {r : RS} {b e : List Stm} (c reg ar an br bn : Int) (vb ve : Value) (w : World) (hf : RF ks 14 c reg ar an br bn) (h : Run H rb F ks w r) (ht : r.told.length + 201 ≤ 201 * r.steps) (hb : Stms w H vb b) (he : Stms w H ve e) (hH : H ≤ w.heap.size) (hab : AllC ks b) (hae : AllC ks e) :
    Calls Tryz.prog 45 #[.pointer (some ⟨rb, 0, none⟩), .agg #[.int .i64 14, .int .i64 c, .int .i64 reg, .int .i64 ar, .int .i64 an, .int .i64 br, .int .i64 bn, vb, ve]] w (EvPost H rb F ks (if (evL b r).2 = 3 then evL e { r with steps := (evL b r).1.steps } else evL b r) w) := by
  have HR := Lib.hid h
  have HB := Lib.hid hb
  have HE := Lib.hid he
  have HTB := Lib.hid ht
  have HAB := Lib.hid (And.intro hf.a hf.b)
  have HRF := Lib.hid hf
  have HHH := Lib.hid hH
  obtain ⟨c11, cf, cl⟩ := h.cells
  have XB : Hid (Blk (w.alloc (.cells #[.int .i64 14, .int .i64 c, .int .i64 reg, .int .i64 ar, .int .i64 an, .int .i64 br, .int .i64 bn, vb, ve] 40)) w.heap.size 40 #[.int .i64 14, .int .i64 c, .int .i64 reg, .int .i64 ar, .int .i64 an, .int .i64 br, .int .i64 bn, vb, ve]) := Lib.hid (Blk.new w _ _)
  have UA : Hid (Upd [] w (w.alloc (.cells #[.int .i64 14, .int .i64 c, .int .i64 reg, .int .i64 ar, .int .i64 an, .int .i64 br, .int .i64 bn, vb, ve] 40))) := Lib.hid ((Upd.refl [] w).alloc _)
  clear h ht hb he hH hf
  obtain ⟨Y, hY⟩ : ∃ Y, (if (evL b r).2 = 3 then evL e { r with steps := (evL b r).1.steps } else evL b r) = Y := ⟨_, rfl⟩
  have HC := Lib.hid (or_ok 14 c reg ar an br bn vb ve (w.alloc (.cells #[.int .i64 14, .int .i64 c, .int .i64 reg, .int .i64 ar, .int .i64 an, .int .i64 br, .int .i64 bn, vb, ve] 40)) HRF.out (HR.out.upd0 UA.out) HTB.out (HB.out.belowW (UA.out.below HHH.out (by simp))) (HE.out.belowW (UA.out.below HHH.out (by simp))) (Nat.le_trans HHH.out UA.out.size) hab hae)
  rw [hY] at HC ⊢
  clear hab hae c11 cf cl hY
  go_enter Tryz.func45, Tryz.ntmps45
  go_wp2_with fail
  refine HC.out.mono ?_
  rintro e' w4 ⟨u, rfl, hp⟩
  have HP := Lib.hid (EvPost.pre ⟨u, rfl, hp⟩ UA.out)
  clear hp
  go_wp2_with fail
  go_ret
  exact HP.out
end Go.Proofs.YtfbeaklplefojaaGreatDoor.Gr

/-
 concordref11.Run: one, but for wholes and ors.
-/
import Derived.Test.YtmjnmpifibemjaaGreatDoorJtB19
import Derived.Test.YtmjnmpifibemjaaGreatDoorJtB15
import Derived.Test.YtmjnmpifibemjaaGreatDoorJtB14
import Derived.Test.YtmjnmpifibemjaaGreatDoorJtB10
import Derived.BigRegion
import Derived.Test.YtmjnmpifibemjaaGreatDoorJtB7
import Derived.Test.YtmjnmpifibemjaaGreatDoorJtB16
import Derived.Test.YtmjnmpifibemjaaGreatDoorJtB6
set_option linter.unusedVariables false
set_option linter.unusedSimpArgs false
set_option maxRecDepth 100000
set_option maxHeartbeats 16000000
namespace Go.Proofs.YtmjnmpifibemjaaGreatDoor.Rv
open Go.RowKit Assoc MP Ev
attribute [local go_sem] litStep_value
theorem one_set {H rb:Nat} {F:List Nat} {ks:List Int} {r:RS} {b e:List Stm} (c reg ar an br bn:Int) (vb ve:Value) (w:World) (hf:RF ks 9 c reg ar an br bn) (h:Rn H rb F ks w r) (ht:r.told.length + 201≤201 * r.steps) (hb:Stms w H vb b) (he:Stms w H ve e) (hH:H≤w.heap.size) :
 Calls Tryz.prog 48 #[.pointer (some ⟨rb,0,none⟩),.agg #[.int .i64 9,.int .i64 c,.int .i64 reg,.int .i64 ar,.int .i64 an,.int .i64 br,.int .i64 bn,vb,ve]] w (EvPR H rb F ks ({ r with regs:=r.regs.set reg.toNat (valV r ar an) },0) w):=by
 have HR:=Zh h
 have HB:=Zh hb
 have HE:=Zh he
 have HTB:=Zh ht
 have HAB:=Zh (And.intro hf.a hf.b)
 have HRF:=Zh hf
 have HHH:=Zh hH
 have XB:Hid (Blk (w.alloc (.cells #[.int .i64 9,.int .i64 c,.int .i64 reg,.int .i64 ar,.int .i64 an,.int .i64 br,.int .i64 bn,vb,ve] 62)) w.heap.size 62 #[.int .i64 9,.int .i64 c,.int .i64 reg,.int .i64 ar,.int .i64 an,.int .i64 br,.int .i64 bn,vb,ve]):=Zh (Blk.new w _ _)
 have UA:Hid (Upd [] w (w.alloc (.cells #[.int .i64 9,.int .i64 c,.int .i64 reg,.int .i64 ar,.int .i64 an,.int .i64 br,.int .i64 bn,vb,ve] 62))):=Zh ((Upd.refl [] w).alloc _)
 clear h ht hb he hH hf
 obtain ⟨x,hx⟩:∃ x,argV r ar an=x:=⟨_,rfl⟩
 have HAx:=Zh hx
 obtain ⟨z,hz⟩:∃ y,modI x 1000=y:=⟨_,rfl⟩
 have HMz:=Zh hz
 have HVz:Hid (valV r ar an=z):=Zh (by rw [← hz,← hx]; rfl)
 clear hx hz
 go_enter Tryz.func48,Tryz.ntmps48
 go_wp2_with fail
 generalize (w.alloc (.cells #[.int .i64 9,.int .i64 c,.int .i64 reg,.int .i64 ar,.int .i64 an,.int .i64 br,.int .i64 bn,vb,ve] 62))=w1 at *
 have CS:Hid (∀ W,Upd [] w1.drew W→W.cell? ⟨w.heap.size,2,none⟩=some (.int .i64 reg)∧W.cell? ⟨w.heap.size,3,none⟩=some (.int .i64 ar)∧W.cell? ⟨w.heap.size,4,none⟩=some (.int .i64 an)∧W.cell? ⟨w.heap.size,5,none⟩=some (.int .i64 br)∧W.cell? ⟨w.heap.size,6,none⟩=some (.int .i64 bn)):=Zh (fun W hW => by
  have hu:=(Upd.refl [] w1).drew.trans hW
  have hb:=XB.out.upd hu (by simp)
  exact ⟨hb.cell 2,hb.cell 3,hb.cell 4,hb.cell 5,hb.cell 6⟩)
 refine wp_invNT 8 [(6,.det (.int .i64 x)),(7,.det (.int .i64 z))] [] (by kernel_rfl) (by simp) (by kernel_rfl) (by kernel_rfl) ⟨lasts_det _,lasts_det _,trivial⟩ ?_
 simp only [List.take_succ_cons,List.take_zero,List.drop_succ_cons,List.drop_zero]
 iterate 6 (
  with_reducible apply wpV_light
  ·simp only [lightOp]
  ·intro W hU hF
   have f0:=CS.out W hU
   clear hU hF
   go_simp
   exact rfl
  simp only [aP])
 refine wpV_heavy (by simp only [lightOp]) (by rfl) (fun W hU hk hF K hK => ?_) ?_
 ·go_wp2_with fail
  refine (arg_r ar an W (HR.out.upd0 (UA.out.trans ((Upd.refl [] w1).drew.trans hU))) HAB.out.1).mono ?_
  rintro e' wx ⟨rfl,ux⟩
  go_wp2_with fail
  rw [HAx.out]
  exact hK.out _ _ (outV_new rfl rfl (by intro b hb; cases hb) ux)
 rintro _ rfl
 simp only [aP]
 refine wpV_heavy (by simp only [lightOp]) (by rfl) (fun W hU hk hF K hK => ?_) ?_
 ·go_wp2_with fail
  refine (mod_r x 1000 W (by omega) (by omega)).mono ?_
  rintro e' _ ⟨rfl,rfl⟩
  rw [HMz.out]
  go_wp2_with fail
  exact hK.out _ _ (outV_new rfl rfl (by intro b hb; cases hb) (.refl _ _))
 rintro _ rfl
 simp only [aP]
 refine wpV_end (fun W hU _ hF => ?_)
 have UX:Hid (Upd [] w W):=Zh (UA.out.trans ((Upd.refl [] w1).drew.trans hU))
 clear hU hF
 refine wpT_op (by rfl) (fun K hK => ?_)
 go_wp2_with fail
 refine (set_ok reg z W (HR.out.upd0 UX.out) HRF.out.hreg.1 HRF.out.hreg.2).mono ?_
 rintro e' w5 ⟨rfl,hp⟩
 have HP:=Zh (hp.pre UX.out)
 clear hp
 go_wp2_with fail
 refine hK.out _ _ ?_
 clear hK K
 try simp only [aP]
 refine wpT_end ?_
 go_wp2_with fail
 go_ret
 rw [HVz.out]
 exact ⟨rfl,HP.out,tb_le HTB.out⟩
theorem one_add {H rb:Nat} {F:List Nat} {ks:List Int} {r:RS} {b e:List Stm} (c reg ar an br bn:Int) (vb ve:Value) (w:World) (hf:RF ks 10 c reg ar an br bn) (h:Rn H rb F ks w r) (ht:r.told.length + 201≤201 * r.steps) (hb:Stms w H vb b) (he:Stms w H ve e) (hH:H≤w.heap.size) :
 Calls Tryz.prog 48 #[.pointer (some ⟨rb,0,none⟩),.agg #[.int .i64 10,.int .i64 c,.int .i64 reg,.int .i64 ar,.int .i64 an,.int .i64 br,.int .i64 bn,vb,ve]] w (EvPR H rb F ks ({ r with regs:=r.regs.set reg.toNat (modI (IntKind.i64.wrap (argV r ar an + argV r br bn)) 1000) },0) w):=by
 have HR:=Zh h
 have HB:=Zh hb
 have HE:=Zh he
 have HTB:=Zh ht
 have HAB:=Zh (And.intro hf.a hf.b)
 have HRF:=Zh hf
 have HHH:=Zh hH
 have XB:Hid (Blk (w.alloc (.cells #[.int .i64 10,.int .i64 c,.int .i64 reg,.int .i64 ar,.int .i64 an,.int .i64 br,.int .i64 bn,vb,ve] 62)) w.heap.size 62 #[.int .i64 10,.int .i64 c,.int .i64 reg,.int .i64 ar,.int .i64 an,.int .i64 br,.int .i64 bn,vb,ve]):=Zh (Blk.new w _ _)
 have UA:Hid (Upd [] w (w.alloc (.cells #[.int .i64 10,.int .i64 c,.int .i64 reg,.int .i64 ar,.int .i64 an,.int .i64 br,.int .i64 bn,vb,ve] 62))):=Zh ((Upd.refl [] w).alloc _)
 clear h ht hb he hH hf
 obtain ⟨x,hx⟩:∃ x,argV r ar an=x:=⟨_,rfl⟩
 have HAx:=Zh hx
 obtain ⟨y,hy⟩:∃ x,argV r br bn=x:=⟨_,rfl⟩
 have HAy:=Zh hy
 rw [hx,hy]
 obtain ⟨s,hs⟩:∃ s,IntKind.i64.wrap (x + y)=s:=⟨_,rfl⟩
 rw [hs]
 obtain ⟨m,hm⟩:∃ m,modI s 1000=m:=⟨_,rfl⟩
 have HMm:=Zh hm
 rw [hm]
 clear hx hy hm
 go_enter Tryz.func48,Tryz.ntmps48
 go_wp2_with fail
 generalize (w.alloc (.cells #[.int .i64 10,.int .i64 c,.int .i64 reg,.int .i64 ar,.int .i64 an,.int .i64 br,.int .i64 bn,vb,ve] 62))=w1 at *
 have CS:Hid (∀ W,Upd [] w1.drew W→W.cell? ⟨w.heap.size,2,none⟩=some (.int .i64 reg)∧W.cell? ⟨w.heap.size,3,none⟩=some (.int .i64 ar)∧W.cell? ⟨w.heap.size,4,none⟩=some (.int .i64 an)∧W.cell? ⟨w.heap.size,5,none⟩=some (.int .i64 br)∧W.cell? ⟨w.heap.size,6,none⟩=some (.int .i64 bn)):=Zh (fun W hW => by
  have hu:=(Upd.refl [] w1).drew.trans hW
  have hb:=XB.out.upd hu (by simp)
  exact ⟨hb.cell 2,hb.cell 3,hb.cell 4,hb.cell 5,hb.cell 6⟩)
 refine wp_invNT 13 [(6,.det (.int .i64 x)),(10,.det (.int .i64 y)),(12,.det (.int .i64 m))] [] (by kernel_rfl) (by simp) (by kernel_rfl) (by kernel_rfl) ⟨lasts_det _,lasts_det _,lasts_det _,trivial⟩ ?_
 simp only [List.take_succ_cons,List.take_zero,List.drop_succ_cons,List.drop_zero]
 iterate 6 (
  with_reducible apply wpV_light
  ·simp only [lightOp]
  ·intro W hU hF
   have f0:=CS.out W hU
   clear hU hF
   go_simp
   exact rfl
  simp only [aP])
 refine wpV_heavy (by simp only [lightOp]) (by rfl) (fun W hU hk hF K hK => ?_) ?_
 ·go_wp2_with fail
  refine (arg_r ar an W (HR.out.upd0 (UA.out.trans ((Upd.refl [] w1).drew.trans hU))) HAB.out.1).mono ?_
  rintro e' wx ⟨rfl,ux⟩
  go_wp2_with fail
  rw [HAx.out]
  exact hK.out _ _ (outV_new rfl rfl (by intro b hb; cases hb) ux)
 rintro _ rfl
 simp only [aP]
 iterate 3 (
  with_reducible apply wpV_light
  ·simp only [lightOp]
  ·intro W hU hF
   have f0:=CS.out W hU
   clear hU hF
   go_simp
   exact rfl
  simp only [aP])
 refine wpV_heavy (by simp only [lightOp]) (by rfl) (fun W hU hk hF K hK => ?_) ?_
 ·go_wp2_with fail
  refine (arg_r br bn W (HR.out.upd0 (UA.out.trans ((Upd.refl [] w1).drew.trans hU))) HAB.out.2).mono ?_
  rintro e' wx ⟨rfl,ux⟩
  go_wp2_with fail
  rw [HAy.out]
  exact hK.out _ _ (outV_new rfl rfl (by intro b hb; cases hb) ux)
 rintro _ rfl
 simp only [aP]
 with_reducible apply wpV_light
 ·simp only [lightOp]
 ·intro W hU hF
  have f0:=CS.out W hU
  clear hU hF
  go_simp
  exact rfl
 simp only [aP]
 refine wpV_heavy (by simp only [lightOp]) (by rfl) (fun W hU hk hF K hK => ?_) ?_
 ·go_wp2_with fail
  refine (mod_r s 1000 W (by omega) (by omega)).mono ?_
  rintro e' _ ⟨rfl,rfl⟩
  rw [HMm.out]
  go_wp2_with fail
  exact hK.out _ _ (outV_new rfl rfl (by intro b hb; cases hb) (.refl _ _))
 rintro _ rfl
 simp only [aP]
 refine wpV_end (fun W hU _ hF => ?_)
 have UX:Hid (Upd [] w W):=Zh (UA.out.trans ((Upd.refl [] w1).drew.trans hU))
 clear hU hF
 refine wpT_op (by rfl) (fun K hK => ?_)
 go_wp2_with fail
 refine (set_ok reg m W (HR.out.upd0 UX.out) HRF.out.hreg.1 HRF.out.hreg.2).mono ?_
 rintro e' w5 ⟨rfl,hp⟩
 have HP:=Zh (hp.pre UX.out)
 clear hp
 go_wp2_with fail
 refine hK.out _ _ ?_
 clear hK K
 try simp only [aP]
 refine wpT_end ?_
 go_wp2_with fail
 go_ret
 exact ⟨rfl,HP.out,tb_le HTB.out⟩
theorem one_then {H rb:Nat} {F:List Nat} {ks:List Int} {r:RS} {b e:List Stm} (c reg ar an br bn:Int) (vb ve:Value) (w:World) (hf:RF ks 11 c reg ar an br bn) (h:Rn H rb F ks w r) (ht:r.told.length + 201≤201 * r.steps) (hb:Stms w H vb b) (he:Stms w H ve e) (hH:H≤w.heap.size) (hab:AllR ks b) (hv:valV r ar an < valV r br bn) :
 Calls Tryz.prog 48 #[.pointer (some ⟨rb,0,none⟩),.agg #[.int .i64 11,.int .i64 c,.int .i64 reg,.int .i64 ar,.int .i64 an,.int .i64 br,.int .i64 bn,vb,ve]] w (EvPR H rb F ks (evL b r) w):=by
 have HR:=Zh h
 have HB:=Zh hb
 have HE:=Zh he
 have HTB:=Zh ht
 have HAB:=Zh (And.intro hf.a hf.b)
 have HRF:=Zh hf
 have HHH:=Zh hH
 have XB:Hid (Blk (w.alloc (.cells #[.int .i64 11,.int .i64 c,.int .i64 reg,.int .i64 ar,.int .i64 an,.int .i64 br,.int .i64 bn,vb,ve] 62)) w.heap.size 62 #[.int .i64 11,.int .i64 c,.int .i64 reg,.int .i64 ar,.int .i64 an,.int .i64 br,.int .i64 bn,vb,ve]):=Zh (Blk.new w _ _)
 have UA:Hid (Upd [] w (w.alloc (.cells #[.int .i64 11,.int .i64 c,.int .i64 reg,.int .i64 ar,.int .i64 an,.int .i64 br,.int .i64 bn,vb,ve] 62))):=Zh ((Upd.refl [] w).alloc _)
 clear h ht hb he hH hf
 obtain ⟨x,hx⟩:∃ x,argV r ar an=x:=⟨_,rfl⟩
 have HAx:=Zh hx
 obtain ⟨z,hz⟩:∃ y,modI x 1000=y:=⟨_,rfl⟩
 have HMz:=Zh hz
 have HVz:Hid (valV r ar an=z):=Zh (by rw [← hz,← hx]; rfl)
 clear hx hz
 obtain ⟨x2,hx2⟩:∃ x,argV r br bn=x:=⟨_,rfl⟩
 have HAx2:=Zh hx2
 obtain ⟨z2,hz2⟩:∃ y,modI x2 1000=y:=⟨_,rfl⟩
 have HMz2:=Zh hz2
 have HVz2:Hid (valV r br bn=z2):=Zh (by rw [← hz2,← hx2]; rfl)
 clear hx2 hz2
 go_enter Tryz.func48,Tryz.ntmps48
 go_wp2_with fail
 generalize (w.alloc (.cells #[.int .i64 11,.int .i64 c,.int .i64 reg,.int .i64 ar,.int .i64 an,.int .i64 br,.int .i64 bn,vb,ve] 62))=w1 at *
 have CS:Hid (∀ W,Upd [] w1.drew W→W.cell? ⟨w.heap.size,2,none⟩=some (.int .i64 reg)∧W.cell? ⟨w.heap.size,3,none⟩=some (.int .i64 ar)∧W.cell? ⟨w.heap.size,4,none⟩=some (.int .i64 an)∧W.cell? ⟨w.heap.size,5,none⟩=some (.int .i64 br)∧W.cell? ⟨w.heap.size,6,none⟩=some (.int .i64 bn)):=Zh (fun W hW => by
  have hu:=(Upd.refl [] w1).drew.trans hW
  have hb:=XB.out.upd hu (by simp)
  exact ⟨hb.cell 2,hb.cell 3,hb.cell 4,hb.cell 5,hb.cell 6⟩)
 refine wp_invN [(3,.det (.int .i64 x)),(4,.det (.int .i64 z)),(8,.det (.int .i64 x2)),(9,.det (.int .i64 z2))] [] (by kernel_rfl) (by kernel_rfl) (by kernel_rfl) ⟨lasts_det _,lasts_det _,lasts_det _,lasts_det _,trivial⟩ ?_
 iterate 3 (
  with_reducible apply wpV_light
  ·simp only [lightOp]
  ·intro W hU hF
   have f0:=CS.out W hU
   clear hU hF
   go_simp
   exact rfl
  simp only [aP])
 refine wpV_heavy (by simp only [lightOp]) (by rfl) (fun W hU hk hF K hK => ?_) ?_
 ·go_wp2_with fail
  refine (arg_r ar an W (HR.out.upd0 (UA.out.trans ((Upd.refl [] w1).drew.trans hU))) HAB.out.1).mono ?_
  rintro e' wx ⟨rfl,ux⟩
  go_wp2_with fail
  rw [HAx.out]
  exact hK.out _ _ (outV_new rfl rfl (by intro b hb; cases hb) ux)
 rintro _ rfl
 simp only [aP]
 refine wpV_heavy (by simp only [lightOp]) (by rfl) (fun W hU hk hF K hK => ?_) ?_
 ·go_wp2_with fail
  refine (mod_r x 1000 W (by omega) (by omega)).mono ?_
  rintro e' _ ⟨rfl,rfl⟩
  rw [HMz.out]
  go_wp2_with fail
  exact hK.out _ _ (outV_new rfl rfl (by intro b hb; cases hb) (.refl _ _))
 rintro _ rfl
 simp only [aP]
 iterate 3 (
  with_reducible apply wpV_light
  ·simp only [lightOp]
  ·intro W hU hF
   have f0:=CS.out W hU
   clear hU hF
   go_simp
   exact rfl
  simp only [aP])
 refine wpV_heavy (by simp only [lightOp]) (by rfl) (fun W hU hk hF K hK => ?_) ?_
 ·go_wp2_with fail
  refine (arg_r br bn W (HR.out.upd0 (UA.out.trans ((Upd.refl [] w1).drew.trans hU))) HAB.out.2).mono ?_
  rintro e' wx ⟨rfl,ux⟩
  go_wp2_with fail
  rw [HAx2.out]
  exact hK.out _ _ (outV_new rfl rfl (by intro b hb; cases hb) ux)
 rintro _ rfl
 simp only [aP]
 refine wpV_heavy (by simp only [lightOp]) (by rfl) (fun W hU hk hF K hK => ?_) ?_
 ·go_wp2_with fail
  refine (mod_r x2 1000 W (by omega) (by omega)).mono ?_
  rintro e' _ ⟨rfl,rfl⟩
  rw [HMz2.out]
  go_wp2_with fail
  exact hK.out _ _ (outV_new rfl rfl (by intro b hb; cases hb) (.refl _ _))
 rintro _ rfl
 simp only [aP]
 with_reducible apply wpV_light
 ·simp only [lightOp]
 ·intro W hU hF
  have f0:=CS.out W hU
  clear hU hF
  go_simp
  exact rfl
 simp only [aP]
 refine wpV_end (fun W hU _ hF => ?_)
 have UX:Hid (Upd [] w W):=Zh (UA.out.trans ((Upd.refl [] w1).drew.trans hU))
 have BX:=Zh (XB.out.upd ((Upd.refl [] w1).drew.trans hU) (by simp))
 clear hU hF
 refine wpT_end ?_
 have e7:W.cell? ⟨w.heap.size,7,none⟩=some vb:=BX.out.cell 7
 have d1:decide (z < z2)=true:=by simpa [HVz.out,HVz2.out] using hv
 have HC:=Zh (hab H rb F vb r W (HR.out.upd0 UX.out) (tb_le HTB.out) (HB.out.belowW (UX.out.below HHH.out (by simp))) (Nat.le_trans HHH.out UX.out.size))
 clear hab hv
 rw [d1]
 clear d1
 go_wp2_with fail
 refine HC.out.mono ?_
 rintro e' w5 ⟨rfl,hp⟩
 have HP:=Zh (EvPR.pre ⟨rfl,hp⟩ UX.out)
 clear hp
 go_wp2_with fail
 go_ret
 exact HP.out
theorem one_else {H rb:Nat} {F:List Nat} {ks:List Int} {r:RS} {b e:List Stm} (c reg ar an br bn:Int) (vb ve:Value) (w:World) (hf:RF ks 11 c reg ar an br bn) (h:Rn H rb F ks w r) (ht:r.told.length + 201≤201 * r.steps) (hb:Stms w H vb b) (he:Stms w H ve e) (hH:H≤w.heap.size) (hab:AllR ks e) (hv:¬ valV r ar an < valV r br bn) :
 Calls Tryz.prog 48 #[.pointer (some ⟨rb,0,none⟩),.agg #[.int .i64 11,.int .i64 c,.int .i64 reg,.int .i64 ar,.int .i64 an,.int .i64 br,.int .i64 bn,vb,ve]] w (EvPR H rb F ks (evL e r) w):=by
 have HR:=Zh h
 have HB:=Zh hb
 have HE:=Zh he
 have HTB:=Zh ht
 have HAB:=Zh (And.intro hf.a hf.b)
 have HRF:=Zh hf
 have HHH:=Zh hH
 have XB:Hid (Blk (w.alloc (.cells #[.int .i64 11,.int .i64 c,.int .i64 reg,.int .i64 ar,.int .i64 an,.int .i64 br,.int .i64 bn,vb,ve] 62)) w.heap.size 62 #[.int .i64 11,.int .i64 c,.int .i64 reg,.int .i64 ar,.int .i64 an,.int .i64 br,.int .i64 bn,vb,ve]):=Zh (Blk.new w _ _)
 have UA:Hid (Upd [] w (w.alloc (.cells #[.int .i64 11,.int .i64 c,.int .i64 reg,.int .i64 ar,.int .i64 an,.int .i64 br,.int .i64 bn,vb,ve] 62))):=Zh ((Upd.refl [] w).alloc _)
 clear h ht hb he hH hf
 obtain ⟨x,hx⟩:∃ x,argV r ar an=x:=⟨_,rfl⟩
 have HAx:=Zh hx
 obtain ⟨z,hz⟩:∃ y,modI x 1000=y:=⟨_,rfl⟩
 have HMz:=Zh hz
 have HVz:Hid (valV r ar an=z):=Zh (by rw [← hz,← hx]; rfl)
 clear hx hz
 obtain ⟨x2,hx2⟩:∃ x,argV r br bn=x:=⟨_,rfl⟩
 have HAx2:=Zh hx2
 obtain ⟨z2,hz2⟩:∃ y,modI x2 1000=y:=⟨_,rfl⟩
 have HMz2:=Zh hz2
 have HVz2:Hid (valV r br bn=z2):=Zh (by rw [← hz2,← hx2]; rfl)
 clear hx2 hz2
 go_enter Tryz.func48,Tryz.ntmps48
 go_wp2_with fail
 generalize (w.alloc (.cells #[.int .i64 11,.int .i64 c,.int .i64 reg,.int .i64 ar,.int .i64 an,.int .i64 br,.int .i64 bn,vb,ve] 62))=w1 at *
 have CS:Hid (∀ W,Upd [] w1.drew W→W.cell? ⟨w.heap.size,2,none⟩=some (.int .i64 reg)∧W.cell? ⟨w.heap.size,3,none⟩=some (.int .i64 ar)∧W.cell? ⟨w.heap.size,4,none⟩=some (.int .i64 an)∧W.cell? ⟨w.heap.size,5,none⟩=some (.int .i64 br)∧W.cell? ⟨w.heap.size,6,none⟩=some (.int .i64 bn)):=Zh (fun W hW => by
  have hu:=(Upd.refl [] w1).drew.trans hW
  have hb:=XB.out.upd hu (by simp)
  exact ⟨hb.cell 2,hb.cell 3,hb.cell 4,hb.cell 5,hb.cell 6⟩)
 refine wp_invN [(3,.det (.int .i64 x)),(4,.det (.int .i64 z)),(8,.det (.int .i64 x2)),(9,.det (.int .i64 z2))] [] (by kernel_rfl) (by kernel_rfl) (by kernel_rfl) ⟨lasts_det _,lasts_det _,lasts_det _,lasts_det _,trivial⟩ ?_
 iterate 3 (
  with_reducible apply wpV_light
  ·simp only [lightOp]
  ·intro W hU hF
   have f0:=CS.out W hU
   clear hU hF
   go_simp
   exact rfl
  simp only [aP])
 refine wpV_heavy (by simp only [lightOp]) (by rfl) (fun W hU hk hF K hK => ?_) ?_
 ·go_wp2_with fail
  refine (arg_r ar an W (HR.out.upd0 (UA.out.trans ((Upd.refl [] w1).drew.trans hU))) HAB.out.1).mono ?_
  rintro e' wx ⟨rfl,ux⟩
  go_wp2_with fail
  rw [HAx.out]
  exact hK.out _ _ (outV_new rfl rfl (by intro b hb; cases hb) ux)
 rintro _ rfl
 simp only [aP]
 refine wpV_heavy (by simp only [lightOp]) (by rfl) (fun W hU hk hF K hK => ?_) ?_
 ·go_wp2_with fail
  refine (mod_r x 1000 W (by omega) (by omega)).mono ?_
  rintro e' _ ⟨rfl,rfl⟩
  rw [HMz.out]
  go_wp2_with fail
  exact hK.out _ _ (outV_new rfl rfl (by intro b hb; cases hb) (.refl _ _))
 rintro _ rfl
 simp only [aP]
 iterate 3 (
  with_reducible apply wpV_light
  ·simp only [lightOp]
  ·intro W hU hF
   have f0:=CS.out W hU
   clear hU hF
   go_simp
   exact rfl
  simp only [aP])
 refine wpV_heavy (by simp only [lightOp]) (by rfl) (fun W hU hk hF K hK => ?_) ?_
 ·go_wp2_with fail
  refine (arg_r br bn W (HR.out.upd0 (UA.out.trans ((Upd.refl [] w1).drew.trans hU))) HAB.out.2).mono ?_
  rintro e' wx ⟨rfl,ux⟩
  go_wp2_with fail
  rw [HAx2.out]
  exact hK.out _ _ (outV_new rfl rfl (by intro b hb; cases hb) ux)
 rintro _ rfl
 simp only [aP]
 refine wpV_heavy (by simp only [lightOp]) (by rfl) (fun W hU hk hF K hK => ?_) ?_
 ·go_wp2_with fail
  refine (mod_r x2 1000 W (by omega) (by omega)).mono ?_
  rintro e' _ ⟨rfl,rfl⟩
  rw [HMz2.out]
  go_wp2_with fail
  exact hK.out _ _ (outV_new rfl rfl (by intro b hb; cases hb) (.refl _ _))
 rintro _ rfl
 simp only [aP]
 with_reducible apply wpV_light
 ·simp only [lightOp]
 ·intro W hU hF
  have f0:=CS.out W hU
  clear hU hF
  go_simp
  exact rfl
 simp only [aP]
 refine wpV_end (fun W hU _ hF => ?_)
 have UX:Hid (Upd [] w W):=Zh (UA.out.trans ((Upd.refl [] w1).drew.trans hU))
 have BX:=Zh (XB.out.upd ((Upd.refl [] w1).drew.trans hU) (by simp))
 clear hU hF
 refine wpT_end ?_
 have e7:W.cell? ⟨w.heap.size,8,none⟩=some ve:=BX.out.cell 8
 have d1:decide (z < z2)=false:=by simpa [HVz.out,HVz2.out] using hv
 have HC:=Zh (hab H rb F ve r W (HR.out.upd0 UX.out) (tb_le HTB.out) (HE.out.belowW (UX.out.below HHH.out (by simp))) (Nat.le_trans HHH.out UX.out.size))
 clear hab hv
 rw [d1]
 clear d1
 go_wp2_with fail
 refine HC.out.mono ?_
 rintro e' w5 ⟨rfl,hp⟩
 have HP:=Zh (EvPR.pre ⟨rfl,hp⟩ UX.out)
 clear hp
 go_wp2_with fail
 go_ret
 exact HP.out
theorem one_retry {H rb:Nat} {F:List Nat} {ks:List Int} {r:RS} {b e:List Stm} (c reg ar an br bn:Int) (vb ve:Value) (w:World) (hf:RF ks 15 c reg ar an br bn) (h:Rn H rb F ks w r) (ht:r.told.length + 201≤201 * r.steps) (hb:Stms w H vb b) (he:Stms w H ve e) (hH:H≤w.heap.size) :
 Calls Tryz.prog 48 #[.pointer (some ⟨rb,0,none⟩),.agg #[.int .i64 15,.int .i64 c,.int .i64 reg,.int .i64 ar,.int .i64 an,.int .i64 br,.int .i64 bn,vb,ve]] w (EvPR H rb F ks (r,3) w):=by
 have HR:=Zh h
 have HB:=Zh hb
 have HE:=Zh he
 have HTB:=Zh ht
 have HAB:=Zh (And.intro hf.a hf.b)
 have HRF:=Zh hf
 have HHH:=Zh hH
 have XB:Hid (Blk (w.alloc (.cells #[.int .i64 15,.int .i64 c,.int .i64 reg,.int .i64 ar,.int .i64 an,.int .i64 br,.int .i64 bn,vb,ve] 62)) w.heap.size 62 #[.int .i64 15,.int .i64 c,.int .i64 reg,.int .i64 ar,.int .i64 an,.int .i64 br,.int .i64 bn,vb,ve]):=Zh (Blk.new w _ _)
 have UA:Hid (Upd [] w (w.alloc (.cells #[.int .i64 15,.int .i64 c,.int .i64 reg,.int .i64 ar,.int .i64 an,.int .i64 br,.int .i64 bn,vb,ve] 62))):=Zh ((Upd.refl [] w).alloc _)
 clear h ht hb he hH hf
 go_enter Tryz.func48,Tryz.ntmps48
 go_wp2_with fail
 generalize (w.alloc (.cells #[.int .i64 15,.int .i64 c,.int .i64 reg,.int .i64 ar,.int .i64 an,.int .i64 br,.int .i64 bn,vb,ve] 62))=w1 at *
 go_ret
 exact ⟨rfl,⟨F,HR.out.upd0 UA.out,(Frm.refl _ _).pre UA.out⟩,tb_le HTB.out⟩
theorem one_abort {H rb:Nat} {F:List Nat} {ks:List Int} {r:RS} {b e:List Stm} (c reg ar an br bn:Int) (vb ve:Value) (w:World) (hf:RF ks 16 c reg ar an br bn) (h:Rn H rb F ks w r) (ht:r.told.length + 201≤201 * r.steps) (hb:Stms w H vb b) (he:Stms w H ve e) (hH:H≤w.heap.size) :
 Calls Tryz.prog 48 #[.pointer (some ⟨rb,0,none⟩),.agg #[.int .i64 16,.int .i64 c,.int .i64 reg,.int .i64 ar,.int .i64 an,.int .i64 br,.int .i64 bn,vb,ve]] w (EvPR H rb F ks (r,2) w):=by
 have HR:=Zh h
 have HB:=Zh hb
 have HE:=Zh he
 have HTB:=Zh ht
 have HAB:=Zh (And.intro hf.a hf.b)
 have HRF:=Zh hf
 have HHH:=Zh hH
 have XB:Hid (Blk (w.alloc (.cells #[.int .i64 16,.int .i64 c,.int .i64 reg,.int .i64 ar,.int .i64 an,.int .i64 br,.int .i64 bn,vb,ve] 62)) w.heap.size 62 #[.int .i64 16,.int .i64 c,.int .i64 reg,.int .i64 ar,.int .i64 an,.int .i64 br,.int .i64 bn,vb,ve]):=Zh (Blk.new w _ _)
 have UA:Hid (Upd [] w (w.alloc (.cells #[.int .i64 16,.int .i64 c,.int .i64 reg,.int .i64 ar,.int .i64 an,.int .i64 br,.int .i64 bn,vb,ve] 62))):=Zh ((Upd.refl [] w).alloc _)
 clear h ht hb he hH hf
 go_enter Tryz.func48,Tryz.ntmps48
 go_wp2_with fail
 generalize (w.alloc (.cells #[.int .i64 16,.int .i64 c,.int .i64 reg,.int .i64 ar,.int .i64 an,.int .i64 br,.int .i64 bn,vb,ve] 62))=w1 at *
 go_ret
 exact ⟨rfl,⟨F,HR.out.upd0 UA.out,(Frm.refl _ _).pre UA.out⟩,tb_le HTB.out⟩
theorem one_ask {H rb:Nat} {F:List Nat} {ks:List Int} {r:RS} {b e:List Stm} (k c reg ar an br bn:Int) (vb ve:Value) (w:World) (hf:RF ks k c reg ar an br bn) (h:Rn H rb F ks w r) (ht:r.told.length + 201≤201 * r.steps) (hb:Stms w H vb b) (he:Stms w H ve e) (hH:H≤w.heap.size) (hk:k≤8) :
 Calls Tryz.prog 48 #[.pointer (some ⟨rb,0,none⟩),.agg #[.int .i64 k,.int .i64 c,.int .i64 reg,.int .i64 ar,.int .i64 an,.int .i64 br,.int .i64 bn,vb,ve]] w (EvPR H rb F ks (askR k c reg ar an br bn r) w):=by
 have HR:=Zh h
 have HB:=Zh hb
 have HE:=Zh he
 have HTB:=Zh ht
 have HAB:=Zh (And.intro hf.a hf.b)
 have HRF:=Zh hf
 have HHH:=Zh hH
 have XB:Hid (Blk (w.alloc (.cells #[.int .i64 k,.int .i64 c,.int .i64 reg,.int .i64 ar,.int .i64 an,.int .i64 br,.int .i64 bn,vb,ve] 62)) w.heap.size 62 #[.int .i64 k,.int .i64 c,.int .i64 reg,.int .i64 ar,.int .i64 an,.int .i64 br,.int .i64 bn,vb,ve]):=Zh (Blk.new w _ _)
 have UA:Hid (Upd [] w (w.alloc (.cells #[.int .i64 k,.int .i64 c,.int .i64 reg,.int .i64 ar,.int .i64 an,.int .i64 br,.int .i64 bn,vb,ve] 62))):=Zh ((Upd.refl [] w).alloc _)
 clear h ht hb he hH hf
 have HK8:=Zh hk
 have d9:(k == 9)=false:=by simp; omega
 have d10:(k == 10)=false:=by simp; omega
 have d11:(k == 11)=false:=by simp; omega
 have d12:(k == 12)=false:=by simp; omega
 have d13:(k == 13)=false:=by simp; omega
 have d14:(k == 14)=false:=by simp; omega
 have d15:(k == 15)=false:=by simp; omega
 have d16:(k == 16)=false:=by simp; omega
 clear hk
 go_enter Tryz.func48,Tryz.ntmps48
 go_wp2_with fail
 generalize (w.alloc (.cells #[.int .i64 k,.int .i64 c,.int .i64 reg,.int .i64 ar,.int .i64 an,.int .i64 br,.int .i64 bn,vb,ve] 62))=w1 at *
 have HC:=Zh (ask_r k c reg ar an br bn vb ve w1 HK8.out HRF.out (HR.out.upd0 UA.out) HTB.out)
 refine HC.out.mono ?_
 rintro e' w4 ⟨rfl,hp⟩
 have HP:=Zh (EvPR.pre ⟨rfl,hp⟩ UA.out)
 clear hp HC
 go_wp2_with fail
 go_ret
 exact HP.out
theorem one_loop {H rb:Nat} {F:List Nat} {ks:List Int} {r:RS} {b e:List Stm} (c reg ar an br bn:Int) (vb ve:Value) (w:World) (hf:RF ks 12 c reg ar an br bn) (h:Rn H rb F ks w r) (ht:r.told.length + 201≤201 * r.steps) (hb:Stms w H vb b) (he:Stms w H ve e) (hH:H≤w.heap.size) (hab:AllR ks b) :
 Calls Tryz.prog 48 #[.pointer (some ⟨rb,0,none⟩),.agg #[.int .i64 12,.int .i64 c,.int .i64 reg,.int .i64 ar,.int .i64 an,.int .i64 br,.int .i64 bn,vb,ve]] w (EvPR H rb F ks (iterR (evL b) an.toNat r) w):=by
 have HR:=Zh h
 have HB:=Zh hb
 have HE:=Zh he
 have HTB:=Zh ht
 have HAB:=Zh (And.intro hf.a hf.b)
 have HRF:=Zh hf
 have HHH:=Zh hH
 have XB:Hid (Blk (w.alloc (.cells #[.int .i64 12,.int .i64 c,.int .i64 reg,.int .i64 ar,.int .i64 an,.int .i64 br,.int .i64 bn,vb,ve] 62)) w.heap.size 62 #[.int .i64 12,.int .i64 c,.int .i64 reg,.int .i64 ar,.int .i64 an,.int .i64 br,.int .i64 bn,vb,ve]):=Zh (Blk.new w _ _)
 have UA:Hid (Upd [] w (w.alloc (.cells #[.int .i64 12,.int .i64 c,.int .i64 reg,.int .i64 ar,.int .i64 an,.int .i64 br,.int .i64 bn,vb,ve] 62))):=Zh ((Upd.refl [] w).alloc _)
 clear h ht hb he hH hf
 have HA:=Zh hab
 obtain ⟨har,han,han5⟩:=HRF.out.loop rfl
 obtain ⟨n,rfl⟩:∃ n:Nat,an=n:=⟨an.toNat,by omega⟩
 rw [Int.toNat_natCast]
 obtain ⟨X,hX⟩:∃ X,iterR (evL b) n r=X:=⟨_,rfl⟩
 have HX:=Zh hX
 rw [hX]
 have hn5:n≤5:=by omega
 have HLT:Hid (∀ k ∈ F,H≤k∧k < w.heap.size):=Zh HR.out.lt
 clear har han han5 hX hab
 have S0:Hid (∃ Fk rk,Rn H rb Fk ks (w.alloc (.cells #[.int .i64 12,.int .i64 c,.int .i64 reg,.int .i64 ar,.int .i64 n,.int .i64 br,.int .i64 bn,vb,ve] 62)) rk∧Frm F Fk (w.alloc (.cells #[.int .i64 12,.int .i64 c,.int .i64 reg,.int .i64 ar,.int .i64 n,.int .i64 br,.int .i64 bn,vb,ve] 62)) (w.alloc (.cells #[.int .i64 12,.int .i64 c,.int .i64 reg,.int .i64 ar,.int .i64 n,.int .i64 br,.int .i64 bn,vb,ve] 62))∧TB rk∧X=iterR (evL b) (n - 0) rk):=Zh ⟨F,r,HR.out.upd0 UA.out,Frm.refl _ _,tb_le HTB.out,HX.out.symm⟩
 go_enter Tryz.func48,Tryz.ntmps48
 go_wp2_with fail
 generalize (w.alloc (.cells #[.int .i64 12,.int .i64 c,.int .i64 reg,.int .i64 ar,.int .i64 n,.int .i64 br,.int .i64 bn,vb,ve] 62))=w1 at *
 go_loopw [5] (fun i wr => ∃ k:Nat,i=.int .i64 k∧k≤n∧Hid (∃ Fk rk,Rn H rb Fk ks wr rk∧Frm F Fk w1 wr∧TB rk∧X=iterR (evL b) (n - k) rk)) (fun i _ => n - (intOf i).toNat)
 case atStart => exact ⟨0,rfl,by omega,S0⟩
 case round =>
  obtain ⟨k,rfl,hk,HK⟩:=hrel
  rename World => wr
  obtain ⟨Fk,rk,hr,hf,ht,he⟩:=HK.out
  have HBX:=Zh (XB.out.upd hf.upd (fun hm => by have:=HLT.out _ hm; omega))
  have e4:wr.cell? ⟨w.heap.size,4,none⟩=some (.int .i64 n):=HBX.out.cell 4
  by_cases hkn:k < n
  ·rw [show n - k=(n - (k + 1)) + 1 by omega,iterR_succ] at he
   have HEV:=Zh he
   have HFR:=Zh hf
   have UW:Hid (Below H w wr):=Zh (by
    have h1:=UA.out.below HHH.out (by simp)
    have h2:=hf.upd.below (Nat.le_trans HHH.out UA.out.size) (fun k hk => (HLT.out k hk).1)
    exact h1.trans h2)
   have e7:wr.cell? ⟨w.heap.size,7,none⟩=some vb:=HBX.out.cell 7
   have HC:=Zh (HA.out H rb Fk vb rk wr hr ht (HB.out.belowW UW.out) (Nat.le_trans HHH.out (Nat.le_trans UA.out.size hf.upd.size)))
   clear hr hf ht he HK
   go_wp2_with fail
   refine HC.out.mono ?_
   rintro e' w5 ⟨rfl,⟨F5,h5,f5⟩,t5⟩
   have H5:=Zh h5
   have T5:=Zh t5
   have G5:=Zh (HFR.out.trans f5)
   clear h5 f5 t5 HC e7 e4
   obtain ⟨EV,hEV⟩:∃ EV,evL b rk=EV:=⟨_,rfl⟩
   rw [hEV] at H5 T5 HEV ⊢
   obtain ⟨EV1,EV2⟩:=EV
   simp only at H5 T5 HEV ⊢
   clear hEV
   by_cases h0:EV2=0
   ·have HY:Hid (X=iterR (evL b) (n - (k + 1)) EV1):=Zh (by rw [HEV.out,if_pos h0])
    subst h0
    go_wp2_with fail
    go_roundw
    case rel => exact ⟨k + 1,by go_num,by omega,Zh ⟨F5,EV1,H5.out,G5.out,T5.out,HY.out⟩⟩
    case measure => simp [intOf]; omega
   ·have HY:Hid (X=(EV1,EV2)):=Zh (by rw [HEV.out,if_neg h0])
    have d0:(EV2 != 0)=true:=by simpa using h0
    clear h0
    go_wp2_with fail
    go_ret
    rw [HY.out]
    exact EvPR.pre ⟨rfl,⟨F5,H5.out,G5.out⟩,T5.out⟩ UA.out
  ·obtain rfl:k=n:=by omega
   rw [Nat.sub_self,iterR_zero] at he
   have HQ:=Zh (And.intro hr (And.intro hf (And.intro ht he)))
   clear hr hf ht he HK
   go_wp2_with fail
   go_ret
   rw [HQ.out.2.2.2]
   exact EvPR.pre ⟨rfl,⟨Fk,HQ.out.1,HQ.out.2.1⟩,HQ.out.2.2.1⟩ UA.out
end Go.Proofs.YtmjnmpifibemjaaGreatDoor.Rv
namespace Go.Proofs.YtmjnmpifibemjaaGreatDoor.Rv
open Go.RowKit Assoc MP Ev
attribute [local go_sem] litStep_value
theorem one_atomic {H rb:Nat} {F:List Nat} {ks:List Int} {r:RS} {b e:List Stm} (c reg ar an br bn:Int) (vb ve:Value) (w:World) (hf:RF ks 13 c reg ar an br bn) (h:Rn H rb F ks w r) (ht:r.told.length + 201≤201 * r.steps) (hb:Stms w H vb b) (he:Stms w H ve e) (hH:H≤w.heap.size) (hab:AllR ks b) :
 Calls Tryz.prog 48 #[.pointer (some ⟨rb,0,none⟩),.agg #[.int .i64 13,.int .i64 c,.int .i64 reg,.int .i64 ar,.int .i64 an,.int .i64 br,.int .i64 bn,vb,ve]] w (EvPR H rb F ks (if (evL b r).2=2 then ({ (evL b r).1 with s:=r.s },0) else evL b r) w):=by
 have HR:=Zh h
 have HB:=Zh hb
 have HE:=Zh he
 have HTB:=Zh ht
 have HAB:=Zh (And.intro hf.a hf.b)
 have HRF:=Zh hf
 have HHH:=Zh hH
 have XB:Hid (Blk (w.alloc (.cells #[.int .i64 13,.int .i64 c,.int .i64 reg,.int .i64 ar,.int .i64 an,.int .i64 br,.int .i64 bn,vb,ve] 62)) w.heap.size 62 #[.int .i64 13,.int .i64 c,.int .i64 reg,.int .i64 ar,.int .i64 an,.int .i64 br,.int .i64 bn,vb,ve]):=Zh (Blk.new w _ _)
 have UA:Hid (Upd [] w (w.alloc (.cells #[.int .i64 13,.int .i64 c,.int .i64 reg,.int .i64 ar,.int .i64 an,.int .i64 br,.int .i64 bn,vb,ve] 62))):=Zh ((Upd.refl [] w).alloc _)
 clear h ht hb he hH hf
 have HA:=Zh hab
 obtain ⟨sb,vt,hF,hrs⟩:=HR.out
 have HFE:Hid ([rb,sb]=F):=Zh hF.symm
 have HRS:=Zh hrs
 have HLT:Hid (∀ k ∈ F,H≤k∧k < w.heap.size):=Zh HR.out.lt
 obtain ⟨X,hX⟩:∃ X,evL b r=X:=⟨_,rfl⟩
 have HX:=Zh hX
 rw [hX]
 obtain ⟨Y,hY⟩:∃ Y,(if X.2=2 then ({ X.1 with s:=r.s },0) else X)=Y:=⟨_,rfl⟩
 have HY:=Zh hY
 rw [hY]
 have c0:=(hrs.upd0 UA.out).cells.1
 have hrb:=hrs.blk.lt
 clear hab hX hY hrs hF
 go_enter Tryz.func48,Tryz.ntmps48
 go_wp2_with fail
 generalize (w.alloc (.cells #[.int .i64 13,.int .i64 c,.int .i64 reg,.int .i64 ar,.int .i64 an,.int .i64 br,.int .i64 bn,vb,ve] 62))=w1 at *
 refine (copy_r sb r.s w1 (HRS.out.upd0 UA.out).st).mono ?_
 rintro e' w2 ⟨wb,rfl,hs,hu,hge⟩
 have WS:=Zh hs
 have U12:=Zh hu
 have U2:=Zh (UA.out.trans hu)
 have WB:Hid (w.heap.size≤wb):=Zh (Nat.le_trans UA.out.size hge)
 have e7:w2.cell? ⟨w.heap.size,7,none⟩=some vb:=(XB.out.upd hu (by simp)).cell 7
 have HC:=Zh (HA.out H rb F vb r w2 (HR.out.upd0 U2.out) (tb_le HTB.out) (HB.out.belowW (U2.out.below HHH.out (by simp))) (Nat.le_trans HHH.out U2.out.size))
 rw [HX.out] at HC
 have HOD:Hid (∀ k ∈ F,k≠wb∧Odd w2 k):=Zh (fun k hk => ⟨by have h1:=(HLT.out k hk).2; have h2:=WB.out; omega,(HR.out.upd0 U2.out).odd k hk⟩)
 clear hs hu hge c0
 go_wp2_with fail
 refine HC.out.mono ?_
 rintro e' w5 ⟨rfl,⟨F5,h5,f5⟩,t5⟩
 have H5:=Zh h5
 have T5:=Zh t5
 have G5:=Zh (f5.pre U2.out)
 have M5:=Zh (WS.out.odd f5.upd HOD.out)
 clear h5 f5 t5 HC e7
 obtain ⟨X1,X2⟩:=X
 simp only at H5 T5 HY ⊢
 by_cases h2:X2=2
 ·have HYY:Hid (Y=({ X1 with s:=r.s },0)):=Zh (by rw [← HY.out,if_pos h2])
  subst h2
  obtain ⟨sb5,vt5,hF5,hr5⟩:=H5.out
  have R6:=Zh (hr5.setS M5.out (Nat.le_trans HHH.out WB.out) HR.out.ok.K)
  obtain ⟨c0,_,_,cf,cl⟩:=hr5.cells
  clear hF5 hr5
  go_wp2_with fail
  go_ret
  rw [HYY.out]
  refine ⟨rfl,⟨[rb,wb],⟨wb,vt5,rfl,R6.out.1⟩,⟨G5.out.upd.trans' R6.out.2 (fun x hx => .inl (by simp at hx; subst hx; rw [← HFE.out]; simp)),fun k hk => ?_⟩⟩,T5.out⟩
  simp at hk
  rcases hk with rfl | rfl
  ·exact .inl (by rw [← HFE.out]; simp)
  ·exact .inr WB.out
 ·have d2:(X2 == 2)=false:=by simpa using h2
  have HYY:Hid (Y=(X1,X2)):=Zh (by rw [← HY.out,if_neg h2])
  clear h2
  go_wp2_with fail
  go_ret
  rw [HYY.out]
  exact ⟨rfl,⟨F5,H5.out,G5.out⟩,T5.out⟩
theorem one_or {H rb:Nat} {F:List Nat} {ks:List Int} {r:RS} {b e:List Stm} (c reg ar an br bn:Int) (vb ve:Value) (w:World) (hf:RF ks 14 c reg ar an br bn) (h:Rn H rb F ks w r) (ht:r.told.length + 201≤201 * r.steps) (hb:Stms w H vb b) (he:Stms w H ve e) (hH:H≤w.heap.size) (hab:AllR ks b) (hae:AllR ks e) :
 Calls Tryz.prog 48 #[.pointer (some ⟨rb,0,none⟩),.agg #[.int .i64 14,.int .i64 c,.int .i64 reg,.int .i64 ar,.int .i64 an,.int .i64 br,.int .i64 bn,vb,ve]] w (EvPR H rb F ks (if (evL b r).2=3 then evL e { r with steps:=(evL b r).1.steps } else evL b r) w):=by
 have HR:=Zh h
 have HB:=Zh hb
 have HE:=Zh he
 have HTB:=Zh ht
 have HAB:=Zh (And.intro hf.a hf.b)
 have HRF:=Zh hf
 have HHH:=Zh hH
 have XB:Hid (Blk (w.alloc (.cells #[.int .i64 14,.int .i64 c,.int .i64 reg,.int .i64 ar,.int .i64 an,.int .i64 br,.int .i64 bn,vb,ve] 62)) w.heap.size 62 #[.int .i64 14,.int .i64 c,.int .i64 reg,.int .i64 ar,.int .i64 an,.int .i64 br,.int .i64 bn,vb,ve]):=Zh (Blk.new w _ _)
 have UA:Hid (Upd [] w (w.alloc (.cells #[.int .i64 14,.int .i64 c,.int .i64 reg,.int .i64 ar,.int .i64 an,.int .i64 br,.int .i64 bn,vb,ve] 62))):=Zh ((Upd.refl [] w).alloc _)
 clear h ht hb he hH hf
 have HA:=Zh hab
 have HAE:=Zh hae
 obtain ⟨sb,vt,hF,hrs⟩:=HR.out
 have HFE:Hid ([rb,sb]=F):=Zh hF.symm
 obtain ⟨At,ct,rfl,_,_⟩:=own_slice hrs.told
 have HRS:=Zh hrs
 have HLT:Hid (∀ k ∈ F,H≤k∧k < w.heap.size):=Zh HR.out.lt
 have HMO:Hid (r.steps≤(evL b r).1.steps):=Zh (mono_evL b r)
 obtain ⟨X,hX⟩:∃ X,evL b r=X:=⟨_,rfl⟩
 have HX:=Zh hX
 rw [hX] at HMO ⊢
 obtain ⟨Y,hY⟩:∃ Y,(if X.2=3 then evL e { r with steps:=X.1.steps } else X)=Y:=⟨_,rfl⟩
 have HY:=Zh hY
 rw [hY]
 have c0:=(hrs.upd0 UA.out).cells.1
 have hrb:=hrs.blk.lt
 obtain ⟨a0,a1,a2,a3,a4,a5,a6,a7,a8,hr9,hc9⟩:=hrs.nine
 have HR9:=Zh hr9
 have HC9:=Zh hc9
 clear hab hae hX hY hrs hF hr9 hc9
 go_enter Tryz.func48,Tryz.ntmps48
 go_wp2_with fail
 generalize (w.alloc (.cells #[.int .i64 14,.int .i64 c,.int .i64 reg,.int .i64 ar,.int .i64 an,.int .i64 br,.int .i64 bn,vb,ve] 62))=w1 at *
 refine (copy_r sb r.s w1 (HRS.out.upd0 UA.out).st).mono ?_
 rintro e' w2 ⟨wb,rfl,hs,hu,hge⟩
 have WS:=Zh hs
 have U12:=Zh hu
 have U2:=Zh (UA.out.trans hu)
 have WB:Hid (w.heap.size≤wb∧wb < w2.heap.size):=Zh ⟨Nat.le_trans UA.out.size hge,hs.lt⟩
 obtain ⟨y1,y2,y3,y4,y5,y6,y7,y8,y9⟩:=HC9.out w2 U2.out
 have c10:=(HRS.out.upd0 U2.out).cells.2.1
 have BX2:=Zh (XB.out.upd hu (by simp))
 have x7:w2.cell? ⟨w.heap.size,7,none⟩=some vb:=BX2.out.cell 7
 have wlt:=BX2.out.lt
 have rlt:=(HRS.out.upd0 U2.out).blk.lt
 clear hs hu hge c0
 go_wp2_with fail
 have B9:Hid (Blk (w2.alloc (.cells #[.int .i64 a0,.int .i64 a1,.int .i64 a2,.int .i64 a3,.int .i64 a4,.int .i64 a5,.int .i64 a6,.int .i64 a7,.int .i64 a8] 69)) w2.heap.size 69 #[.int .i64 a0,.int .i64 a1,.int .i64 a2,.int .i64 a3,.int .i64 a4,.int .i64 a5,.int .i64 a6,.int .i64 a7,.int .i64 a8]):=Zh (Blk.new _ _ _)
 have U29:Hid (Upd [] w2 (w2.alloc (.cells #[.int .i64 a0,.int .i64 a1,.int .i64 a2,.int .i64 a3,.int .i64 a4,.int .i64 a5,.int .i64 a6,.int .i64 a7,.int .i64 a8] 69))):=Zh ((Upd.refl [] w2).alloc _)
 generalize (w2.alloc (.cells #[.int .i64 a0,.int .i64 a1,.int .i64 a2,.int .i64 a3,.int .i64 a4,.int .i64 a5,.int .i64 a6,.int .i64 a7,.int .i64 a8] 69))=W9 at *
 have U9:Hid (Upd [] w W9):=Zh (U2.out.trans U29.out)
 have GW:Hid (wb < w2.heap.size∧w.heap.size < w2.heap.size∧rb < w.heap.size):=Zh ⟨WB.out.2,wlt,hrb⟩
 have HC:=Zh (HA.out H rb F vb r W9 (HR.out.upd0 U9.out) (tb_le HTB.out) (HB.out.belowW (U9.out.below HHH.out (by simp))) (Nat.le_trans HHH.out U9.out.size))
 rw [HX.out] at HC
 have HOD:Hid (∀ k ∈ F,k < w.heap.size∧Odd W9 k):=Zh (fun k hk => ⟨(HLT.out k hk).2,(HR.out.upd0 U9.out).odd k hk⟩)
 have BX9:=Zh (BX2.out.upd U29.out (by simp))
 clear y1 y2 y3 y4 y5 y6 y7 y8 y9 c10 x7 wlt rlt
 refine HC.out.mono ?_
 rintro e' w5 ⟨rfl,⟨F5,h5,f5⟩,t5⟩
 have H5:=Zh h5
 have T5:=Zh t5
 have G5:=Zh (f5.pre U9.out)
 have M5:=Zh ((WS.out.upd0 U29.out).odd f5.upd (fun k hk => ⟨by have h1:=(HOD.out k hk).1; have h2:=WB.out.1; omega,(HOD.out k hk).2⟩))
 have O5:=Zh (own_odd (own_upd0 HRS.out.told U9.out) (.inl rfl) f5.upd (fun k hk => (HOD.out k hk).2))
 have B5:=Zh (B9.out.upd f5.upd (fun hm => by have h1:=(HOD.out _ hm).1; have h2:=GW.out; omega))
 have BX5:=Zh (BX9.out.upd f5.upd (fun hm => by have h1:=(HOD.out _ hm).1; omega))
 clear h5 f5 t5 HC
 obtain ⟨X1,X2⟩:=X
 simp only at H5 T5 HY HMO ⊢
 by_cases h3:X2=3
 ·have HYY:Hid (Y=evL e { r with steps:=X1.steps }):=Zh (by rw [← HY.out,if_pos h3])
  subst h3
  obtain ⟨sb5,vt5,hF5,hr5⟩:=H5.out
  have HR5:=Zh hr5
  have HF5:=Zh hF5
  obtain ⟨y0,y10,_,yf,yl⟩:=hr5.cells
  obtain ⟨b0,b1,b2,b3,b4,b5,b6,b7,b8,_,hb9⟩:=hr5.nine
  obtain ⟨y1,y2,y3,y4,y5,y6,y7,y8,y9⟩:=hb9 w5 (.refl _ _)
  have x0:w5.cell? ⟨w2.heap.size,0,none⟩=some (.int .i64 a0):=B5.out.cell 0
  have x1:w5.cell? ⟨w2.heap.size,1,none⟩=some (.int .i64 a1):=B5.out.cell 1
  have x2:w5.cell? ⟨w2.heap.size,2,none⟩=some (.int .i64 a2):=B5.out.cell 2
  have x3:w5.cell? ⟨w2.heap.size,3,none⟩=some (.int .i64 a3):=B5.out.cell 3
  have x4:w5.cell? ⟨w2.heap.size,4,none⟩=some (.int .i64 a4):=B5.out.cell 4
  have x5:w5.cell? ⟨w2.heap.size,5,none⟩=some (.int .i64 a5):=B5.out.cell 5
  have x6:w5.cell? ⟨w2.heap.size,6,none⟩=some (.int .i64 a6):=B5.out.cell 6
  have x7:w5.cell? ⟨w2.heap.size,7,none⟩=some (.int .i64 a7):=B5.out.cell 7
  have x8:w5.cell? ⟨w2.heap.size,8,none⟩=some (.int .i64 a8):=B5.out.cell 8
  have gr:w2.heap.size≠rb:=by have:=GW.out; omega
  have rg:=gr.symm
  have nb:w.heap.size≠rb:=by have:=GW.out; omega
  have e8:w5.cell? ⟨w.heap.size,8,none⟩=some ve:=BX5.out.cell 8
  clear hb9 hr5 hF5
  go_wp2_with fail
  have WH:H≤wb:=Nat.le_trans HHH.out WB.out.1
  obtain ⟨s6,u6⟩:=HR5.out.setS M5.out WH HR.out.ok.K
  obtain ⟨s7,u7⟩:=s6.regs9 a0 a1 a2 a3 a4 a5 a6 a7 a8 _ rfl
  have o7:=own_odd O5.out (.inl rfl) (u6.trans u7) (fun k hk => by simp at hk; subst hk; exact odd_run HR5.out.blk)
  obtain ⟨s8,u8⟩:=s7.setT (v:=.slice At r.told.length ct) (td:=r.told) o7 HR.out.ok.told
  have U8:=Zh ((u6.trans u7).trans u8)
  have S8:=Zh s8
  clear s6 u6 s7 u7 o7 s8 u8 x0 x1 x2 x3 x4 x5 x6 x7 x8 y0 y1 y2 y3 y4 y5 y6 y7 y8 y9 y10 yf yl gr rg nb e8
  generalize ((((((((((w5.setCell ⟨rb,0,none⟩ (.pointer (some ⟨wb,0,none⟩))).setCell ⟨rb,1,none⟩ (.int .i64 a0)).setCell ⟨rb,2,none⟩ (.int .i64 a1)).setCell ⟨rb,3,none⟩ (.int .i64 a2)).setCell ⟨rb,4,none⟩ (.int .i64 a3)).setCell ⟨rb,5,none⟩ (.int .i64 a4)).setCell ⟨rb,6,none⟩ (.int .i64 a5)).setCell ⟨rb,7,none⟩ (.int .i64 a6)).setCell ⟨rb,8,none⟩ (.int .i64 a7)).setCell ⟨rb,9,none⟩ (.int .i64 a8)).setCell ⟨rb,10,none⟩ (.slice At r.told.length ct)=W6 at U8 S8 ⊢
  have RR:Hid (Rn H rb [rb,wb] ks W6 { r with steps:=X1.steps }):=Zh ⟨wb,_,rfl,by have:=S8.out; rw [← HR9.out] at this; exact this⟩
  have G6:Hid (Frm F [rb,wb] w W6):=Zh ⟨G5.out.upd.trans' U8.out (fun x hx => .inl (by simp at hx; subst hx; rw [← HFE.out]; simp)),fun k hk => by
   simp at hk
   rcases hk with rfl | rfl
   ·exact .inl (by rw [← HFE.out]; simp)
   ·exact .inr WB.out.1⟩
  have HC6:=Zh (HAE.out H rb [rb,wb] ve { r with steps:=X1.steps } W6 RR.out (by have h1:=HTB.out; have h2:=HMO.out; unfold TB; simp only; omega) (HE.out.frm G6.out (fun q hq => (HLT.out q hq).1) HHH.out) (Nat.le_trans HHH.out G6.out.upd.size))
  refine HC6.out.mono ?_
  rintro e' w7 ⟨rfl,hp7⟩
  have HP:=Zh (EvPR.preF ⟨rfl,hp7⟩ G6.out)
  clear hp7
  go_wp2_with fail
  go_ret
  rw [HYY.out]
  exact HP.out
 ·have d3:(X2 != 3)=true:=by simpa using h3
  have HYY:Hid (Y=(X1,X2)):=Zh (by rw [← HY.out,if_neg h3])
  clear h3
  go_wp2_with fail
  go_ret
  rw [HYY.out]
  exact ⟨rfl,⟨F5,H5.out,G5.out⟩,T5.out⟩
theorem one_right_r (ks:List Int) (k c reg ar an br bn:Int) (b e:List Stm) (hr:rightS ks (.mk k c reg ar an br bn b e)=true) (hb:AllR ks b) (he:AllR ks e):OneR ks (.mk k c reg ar an br bn b e):=by
 intro H rb F vb ve r w h ht sb se hH
 have hf:=right_facts hr
 rw [ev_mk]
 by_cases h9:k=9
 ·subst h9
  rw [if_pos rfl]
  exact one_set c reg ar an br bn vb ve w hf h ht sb se hH
 rw [if_neg h9]
 by_cases h10:k=10
 ·subst h10
  rw [if_pos rfl]
  exact one_add c reg ar an br bn vb ve w hf h ht sb se hH
 rw [if_neg h10]
 by_cases h11:k=11
 ·subst h11
  rw [if_pos rfl]
  by_cases hv:valV r ar an < valV r br bn
  ·rw [if_pos hv]
   exact one_then c reg ar an br bn vb ve w hf h ht sb se hH hb hv
  ·rw [if_neg hv]
   exact one_else c reg ar an br bn vb ve w hf h ht sb se hH he hv
 rw [if_neg h11]
 by_cases h12:k=12
 ·subst h12
  rw [if_pos rfl]
  exact one_loop c reg ar an br bn vb ve w hf h ht sb se hH hb
 rw [if_neg h12]
 by_cases h13:k=13
 ·subst h13
  rw [if_pos rfl]
  exact one_atomic c reg ar an br bn vb ve w hf h ht sb se hH hb
 rw [if_neg h13]
 by_cases h14:k=14
 ·subst h14
  rw [if_pos rfl]
  exact one_or c reg ar an br bn vb ve w hf h ht sb se hH hb he
 rw [if_neg h14]
 by_cases h15:k=15
 ·subst h15
  rw [if_pos rfl]
  exact one_retry c reg ar an br bn vb ve w hf h ht sb se hH
 rw [if_neg h15]
 by_cases h16:k=16
 ·subst h16
  rw [if_pos rfl]
  exact one_abort c reg ar an br bn vb ve w hf h ht sb se hH
 rw [if_neg h16]
 have h1:=hf.hk
 exact one_ask k c reg ar an br bn vb ve w hf h ht sb se hH (by omega)
mutual
theorem ones_right_r (ks:List Int):∀ x:Stm,rtS ks x=true→OneR ks x
 | .mk k c reg ar an br bn b e,h => by
   rw [rtS_mk,Bool.and_eq_true,Bool.and_eq_true] at h
   exact one_right_r ks k c reg ar an br bn b e h.1.1 (all_r ks b (list_right_r ks b h.1.2)) (all_r ks e (list_right_r ks e h.2))
theorem list_right_r (ks:List Int):∀ l:List Stm,rtL ks l=true→∀ x ∈ l,OneR ks x
 | [],_,_,hx => by simp at hx
 | y :: l,h,x,hx => by
   rw [rtL_cons,Bool.and_eq_true] at h
   have h1:=ones_right_r ks y h.1
   have h2:=list_right_r ks l h.2
   rcases List.mem_cons.1 hx with e | hx
   ·exact e ▸ h1
   ·exact h2 x hx
end
theorem all_right_r (ks:List Int) (l:List Stm) (h:rtL ks l=true):AllR ks l:=all_r ks l (list_right_r ks l h)
end Go.Proofs.YtmjnmpifibemjaaGreatDoor.Rv
namespace Go.Proofs.YtmjnmpifibemjaaGreatDoor.Rv
open Go.RowKit Assoc MP Ev Jd
attribute [local go_sem] litStep_value
def DoG (s:MS) (l:List Stm) (w:World) (e:Ending) (w':World):Prop :=
 ∃ (nb:Nat) (v:Value),e=.returned (.tuple #[.pointer (some ⟨nb,0,none⟩),.agg #[.int .i64 (endE s l),v],.int .i64 0,.int .i64 0])∧Upd [] w w'∧(toldE s l).length≤201000∧w'.ownsRow 0 3 1 v (toldE s l).length (Ev.ints (toldE s l))∧RSt nb w' (finE s l)
theorem do_ok (sb:Nat) (s:MS) (l:List Stm) (v:Value) (w:World) (h:RSt sb w s) (hv:Stms w w.heap.size v l) (hl:sizes l≤900000) (hk:KO s) (hr:(rightR s.K l).1=0) :
 Calls Tryz.prog 9 #[.pointer (some ⟨sb,0,none⟩),v] w (DoG s l w):=by
 have HS:=Zh h
 have HV:=Zh hv
 have HL:=Zh hl
 have HR:=Zh hr
 have he:=err_none hk hr
 have h5:=(kor_evL l (r0 s) hk).2
 have e1:endE s l=endC (evL l (r0 s)).2:=by unfold endE; rw [if_pos he]
 have e2:toldE s l=(evL l (r0 s)).1.told:=by unfold toldE; rw [if_pos he]
 have HE:=Zh (And.intro e1 e2)
 have H5:=Zh h5
 obtain ⟨F0,g0,vk,vl,ms,hF0,hst⟩:=h
 have HST:=Zh hst
 obtain ⟨Ak,ck,rfl,_,_⟩:=own_slice hst.k
 obtain ⟨nk,hnk⟩:∃ n,s.K.length=n:=⟨_,rfl⟩
 have HNK:=Zh hnk
 have nk8:nk≤8:=by rw [← hnk]; exact g0.k8
 have UA:Hid (Upd [] w (w.alloc (.cells #[.int .i64 0,.slice none 0 0] 34))):=Zh ((Upd.refl [] w).alloc _)
 have EB:Hid (Blk (w.alloc (.cells #[.int .i64 0,.slice none 0 0] 34)) w.heap.size 34 #[.int .i64 0,.slice none 0 0]):=Zh (Blk.new w _ _)
 have c0:(w.alloc (.cells #[.int .i64 0,.slice none 0 0] 34)).cell? ⟨sb,0,none⟩=some (.slice Ak nk ck):=by
  have hb:=(hst.box.upd UA.out (by simp)).cell 0
  rw [hnk] at hb
  exact hb
 have hsb:=hst.box.lt
 clear hv hl hk hr he h5 e1 e2 hF0 hst g0 hnk
 go_enter Tryz.func9,Tryz.ntmps9
 go_wp2_with fail
 generalize (w.alloc (.cells #[.int .i64 0,.slice none 0 0] 34))=w1 at *
 have SK:Hid (Src w1 1 (.slice Ak nk ck) nk (s.K.map (Value.int .i64))):=Zh (by
  have:=Src.of_own (own_upd0 HST.out.k UA.out)
  rw [flat_ints] at this
  rwa [HNK.out] at this)
 refine (Old.ref_right_ok l v Ak nk ck s.K w1 ((HV.out.belowW (UA.out.below (Nat.le_refl _) (by simp))).more UA.out.size) SK.out (by omega) HL.out).mono ?_
 rintro e w2 ⟨rfl,u2⟩
 rw [HR.out]
 obtain ⟨x2,hx2⟩:∃ x,(rightR s.K l).2=x:=⟨_,rfl⟩
 rw [hx2]
 have U2:=Zh (UA.out.trans u2)
 have EB2:=Zh (EB.out.upd u2 (by simp))
 clear u2 c0 hx2
 go_wp2_with fail
 refine (copy_r sb s w2 (HS.out.upd0 U2.out)).mono ?_
 rintro e w3 ⟨sb3,rfl,hs3,u3,hge⟩
 have WS:=Zh hs3
 have U3:=Zh (U2.out.trans u3)
 have EB3:=Zh (EB2.out.upd u3 (by simp))
 have WB:Hid (w.heap.size≤sb3):=Zh (Nat.le_trans U2.out.size hge)
 clear hs3 u3 hge
 go_wp2_with fail
 have R5:Hid (Rn w.heap.size w3.heap.size [w3.heap.size,sb3] s.K (w3.alloc (.cells #[.pointer (some ⟨sb3,0,none⟩),.int .i64 0,.int .i64 0,.int .i64 0,.int .i64 0,.int .i64 0,.int .i64 0,.int .i64 0,.int .i64 0,.int .i64 0,.slice none 0 0,.int .i64 0] 71)) (r0 s)):=Zh (by
  have hu:=(Upd.refl [] w3).alloc (.cells #[.pointer (some ⟨sb3,0,none⟩),.int .i64 0,.int .i64 0,.int .i64 0,.int .i64 0,.int .i64 0,.int .i64 0,.int .i64 0,.int .i64 0,.int .i64 0,.slice none 0 0,.int .i64 0] 71)
  exact ⟨sb3,_,rfl,⟨Blk.new w3 _ _,WS.out.upd0 hu,own_nil _ _ _ _,U3.out.size,WB.out,⟨rfl,rfl,by simp [r0],by simp [r0]⟩⟩⟩)
 have U5:Hid (Upd [] w (w3.alloc (.cells #[.pointer (some ⟨sb3,0,none⟩),.int .i64 0,.int .i64 0,.int .i64 0,.int .i64 0,.int .i64 0,.int .i64 0,.int .i64 0,.int .i64 0,.int .i64 0,.slice none 0 0,.int .i64 0] 71))):=Zh (U3.out.alloc _)
 have EB5:Hid (Blk (w3.alloc (.cells #[.pointer (some ⟨sb3,0,none⟩),.int .i64 0,.int .i64 0,.int .i64 0,.int .i64 0,.int .i64 0,.int .i64 0,.int .i64 0,.int .i64 0,.int .i64 0,.slice none 0 0,.int .i64 0] 71)) w.heap.size 34 #[.int .i64 0,.slice none 0 0]):=Zh (EB3.out.alloc _)
 have NE:Hid (w.heap.size≠w3.heap.size∧w.heap.size≠sb3):=Zh ⟨by have:=EB3.out.lt; omega,by obtain ⟨vk,vl,hb⟩:=WS.out.box; exact EB3.out.ne_ hb (by decide)⟩
 generalize (w3.alloc (.cells #[.pointer (some ⟨sb3,0,none⟩),.int .i64 0,.int .i64 0,.int .i64 0,.int .i64 0,.int .i64 0,.int .i64 0,.int .i64 0,.int .i64 0,.int .i64 0,.slice none 0 0,.int .i64 0] 71))=w5 at *
 have HC:=Zh (all_right_r s.K l (rt_of_right HR.out) _ _ _ v _ _ R5.out (by unfold TB; simp [r0]) (HV.out.belowW (U5.out.below (Nat.le_refl _) (by simp))) U5.out.size)
 refine HC.out.mono ?_
 rintro e w6 ⟨rfl,⟨F6,h6,f6⟩,t6⟩
 obtain ⟨X,hX⟩:∃ X,evL l (r0 s)=X:=⟨_,rfl⟩
 have HX:=Zh hX
 rw [hX] at h6 H5 HE ⊢
 obtain ⟨X1,X2⟩:=X
 simp only at h6 H5 HE ⊢
 obtain ⟨sb6,vt6,rfl,h6⟩:=h6
 have H6:=Zh h6
 obtain ⟨At,ct,rfl,_,_⟩:=own_slice h6.told
 obtain ⟨tn,htn⟩:∃ tn,X1.told.length=tn:=⟨_,rfl⟩
 have HTN:=Zh htn
 have LT5:=Zh R5.out.lt
 have U6:Hid (Upd [] w w6):=Zh (U5.out.trans' f6.upd (fun x hx => .inr (LT5.out x hx).1))
 have EB6:Hid (Blk w6 w.heap.size 34 #[.int .i64 0,.slice none 0 0]):=Zh (EB5.out.upd f6.upd (by simp; have:=NE.out; omega))
 have NE6:Hid (w.heap.size≠w3.heap.size∧w.heap.size≠sb6):=Zh ⟨NE.out.1,by obtain ⟨vk,vl,hb⟩:=h6.st.box; exact EB6.out.ne_ hb (by decide)⟩
 have T6:Hid (w6.ownsRow 0 3 1 (.slice At tn ct) tn (Ev.ints X1.told)):=Zh (by rw [← HTN.out]; exact h6.told)
 have k0:w6.cell? ⟨w3.heap.size,0,none⟩=some (.pointer (some ⟨sb6,0,none⟩)):=h6.cells.1
 have k10:w6.cell? ⟨w3.heap.size,10,none⟩=some (.slice At tn ct):=by rw [← htn]; exact h6.cells.2.1
 have e0:w6.cell? ⟨w.heap.size,0,none⟩=some (.int .i64 0):=EB6.out.cell 0
 have e1:w6.cell? ⟨w.heap.size,1,none⟩=some (.slice none 0 0):=EB6.out.cell 1
 have ef:=EB6.out.frozen
 have el:=EB6.out.lt
 have d5:(X2 == 5)=false:=by simpa using H5.out
 have LEN:Hid (X1.told.length≤201000):=Zh h6.ok.told
 clear h6 f6 t6 hX htn HC
 by_cases h0:X2=0
 ·subst h0
  go_wp2_with fail
  go_region
  have E9:Hid (Blk (((w6.setCell ⟨w.heap.size,0,none⟩ (.int .i64 1)).setCell ⟨w.heap.size,1,none⟩ (.slice At tn ct)).drew) w.heap.size 34 #[.int .i64 1,.slice At tn ct]):=Zh ((EB6.out.set_eq (i:=0) rfl).set_eq (i:=1) rfl).drew
  have U9:Hid (Upd [w.heap.size] w6 (((w6.setCell ⟨w.heap.size,0,none⟩ (.int .i64 1)).setCell ⟨w.heap.size,1,none⟩ (.slice At tn ct)).drew)):=Zh ((((Upd.refl [w.heap.size] w6).setCell (p:=⟨w.heap.size,0,none⟩) (.inl (by simp)) _).setCell (p:=⟨w.heap.size,1,none⟩) (.inl (by simp)) _)).drew
  clear k0 k10 e0 e1 ef el
  generalize (((w6.setCell ⟨w.heap.size,0,none⟩ (.int .i64 1)).setCell ⟨w.heap.size,1,none⟩ (.slice At tn ct)).drew)=W9 at E9 U9 ⊢
  go_wp2_with fail
  have d0:W9.cell? ⟨w.heap.size,0,none⟩=some (.int .i64 1):=E9.out.cell 0
  have d1:W9.cell? ⟨w.heap.size,1,none⟩=some (.slice At tn ct):=E9.out.cell 1
  have V9:Hid (Upd [] w W9):=Zh (U6.out.trans' U9.out (fun x hx => by simp at hx; subst hx; exact .inr (Nat.le_refl _)))
  have OD:∀ k ∈ [w.heap.size],Odd w6 k:=fun k hk => by simp at hk; subst hk; exact ⟨_,_,EB6.out,by decide,by decide,by decide⟩
  have T9:=own_odd T6.out (.inl rfl) U9.out OD
  refine bodyPost_ret (v:=.tuple #[.pointer (some ⟨sb6,0,none⟩),.agg #[.int .i64 1,.slice At tn ct],.int .i64 0,.int .i64 0]) (by simp [results,Tryz.results9,go_sem,d0,d1]) rfl ?_
  refine ⟨sb6,_,by rw [HE.out.1]; rfl,V9.out,by rw [HE.out.2]; exact LEN.out,by rw [HE.out.2,HTN.out]; exact T9,?_⟩
  unfold finE
  rw [HX.out,if_pos rfl]
  exact H6.out.st.odd U9.out (fun k hk => ⟨by simp at hk; subst hk; exact NE6.out.2,OD k hk⟩)
 ·have d0:(X2 == 0)=false:=by simpa using h0
  have H0:=Zh h0
  clear h0
  go_wp2_with fail
  go_region
  have E9:Hid (Blk (((w6.setCell ⟨w.heap.size,0,none⟩ (.int .i64 X2)).setCell ⟨w.heap.size,1,none⟩ (.slice At tn ct)).drew) w.heap.size 34 #[.int .i64 X2,.slice At tn ct]):=Zh ((EB6.out.set_eq (i:=0) rfl).set_eq (i:=1) rfl).drew
  have U9:Hid (Upd [w.heap.size] w6 (((w6.setCell ⟨w.heap.size,0,none⟩ (.int .i64 X2)).setCell ⟨w.heap.size,1,none⟩ (.slice At tn ct)).drew)):=Zh ((((Upd.refl [w.heap.size] w6).setCell (p:=⟨w.heap.size,0,none⟩) (.inl (by simp)) _).setCell (p:=⟨w.heap.size,1,none⟩) (.inl (by simp)) _)).drew
  clear k0 k10 e0 e1 ef el
  generalize (((w6.setCell ⟨w.heap.size,0,none⟩ (.int .i64 X2)).setCell ⟨w.heap.size,1,none⟩ (.slice At tn ct)).drew)=W9 at E9 U9 ⊢
  go_wp2_with fail
  have d0:W9.cell? ⟨w.heap.size,0,none⟩=some (.int .i64 X2):=E9.out.cell 0
  have d1:W9.cell? ⟨w.heap.size,1,none⟩=some (.slice At tn ct):=E9.out.cell 1
  have V9:Hid (Upd [] w W9):=Zh (U6.out.trans' U9.out (fun x hx => by simp at hx; subst hx; exact .inr (Nat.le_refl _)))
  have OD:∀ k ∈ [w.heap.size],Odd w6 k:=fun k hk => by simp at hk; subst hk; exact ⟨_,_,EB6.out,by decide,by decide,by decide⟩
  have T9:=own_odd T6.out (.inl rfl) U9.out OD
  refine bodyPost_ret (v:=.tuple #[.pointer (some ⟨sb,0,none⟩),.agg #[.int .i64 X2,.slice At tn ct],.int .i64 0,.int .i64 0]) (by simp [results,Tryz.results9,go_sem,d0,d1]) rfl ?_
  refine ⟨sb,_,by rw [HE.out.1]; unfold endC; rw [if_neg H0.out,if_neg H5.out],V9.out,by rw [HE.out.2]; exact LEN.out,by rw [HE.out.2,HTN.out]; exact T9,?_⟩
  unfold finE
  rw [HX.out,if_neg H0.out]
  exact HS.out.upd0 V9.out
end Go.Proofs.YtmjnmpifibemjaaGreatDoor.Rv
namespace Go.Proofs.YtmjnmpifibemjaaGreatDoor.Rt
open Go.RowKit St Jd
attribute [local go_sem] litStep_value
theorem ints_src (A A':Option Addr) (n c m c':Nat) (L M:List Int) (w:World) (hv:Src w 1 (.slice A n c) n (L.map (Value.int .i64))) (hu:Src w 1 (.slice A' m c') m (M.map (Value.int .i64))) (hL:n≤1000000) (hM:m≤1000000) :
 Calls Tryz.prog 39 #[.slice A n c,.slice A' m c'] w fun e w' => e=.returned (.bool (decide (L=M)))∧Upd [] w w':=by
 have hn:L.length=n:=by simpa using hv.1
 have hm:M.length=m:=by simpa using hu.1
 obtain ⟨_,A1,c1,e1,hv2⟩:=hv
 injection e1 with e1 _ _
 subst e1
 obtain ⟨_,A1',c1',e2,hu2⟩:=hu
 injection e2 with e2 _ _
 subst e2
 have HV:=Zh hv2
 have HU:=Zh hu2
 have HN:=Zh hn
 have HM:=Zh hm
 clear hv2 hu2 hn hm
 obtain ⟨r,hr⟩:∃ r,decide (L=M)=r:=⟨_,rfl⟩
 have HR:=Zh hr
 rw [hr]
 clear hr
 go_enter Tryz.func39,Tryz.ntmps39
 by_cases hnm:n=m
 ·subst hnm
  have d:((n:Int) != (n:Int))=false:=by simp
  go_wp2_with fail
  go_loopw [5] (fun v wr => ∃ k:Nat,v=.int .i64 k∧k≤n∧Hid (sameToK L M k)∧Hid (Upd [] w wr)) (fun v _ => n - (intOf v).toNat)
  case atStart => exact ⟨0,rfl,by omega,Zh (fun j hj => by omega),Zh (.refl _ _)⟩
  case round =>
   obtain ⟨k,rfl,hk,HS,U1⟩:=hrel
   by_cases hkn:k < n
   ·obtain ⟨x,hx⟩:∃ x,L[k]?=some x:=⟨_,List.getElem?_eq_getElem (by rw [HN.out]; omega)⟩
    obtain ⟨y,hy⟩:∃ y,M[k]?=some y:=⟨_,List.getElem?_eq_getElem (by rw [HM.out]; omega)⟩
    have HX:=Zh hx
    have HY:=Zh hy
    obtain ⟨ad,hA1,hl1,hc1⟩:=HV.out k (.int .i64 x) (by rw [List.getElem?_map,hx]; rfl)
    obtain ⟨ad',hA2,hl2,hc2⟩:=HU.out k (.int .i64 y) (by rw [List.getElem?_map,hy]; rfl)
    have CS:Hid (∀ W,Upd [] wr.drew W→W.cell? (ad.add k)=some (.int .i64 x)∧W.cell? (ad'.add k)=some (.int .i64 y)):=Zh (fun W hW => by
     have hu:Upd [] w W:=U1.out.drew.trans hW
     exact ⟨((hu.below (Nat.le_refl _) (by simp)).cell (by rw [block_add]; exact hl1)).trans hc1,((hu.below (Nat.le_refl _) (by simp)).cell (by rw [block_add]; exact hl2)).trans hc2⟩)
    clear hl1 hc1 hl2 hc2
    subst hA1 hA2
    have q1:(0:Int)≤(k:Int):=by omega
    have q2:(k:Int) < (n:Int):=by omega
    clear hx hy
    go_wp2_with fail
    refine wp_invN [] [] (by kernel_rfl) (by kernel_rfl) (by kernel_rfl) trivial ?_
    iterate 9 (
     with_reducible apply wpV_light
     ·simp only [lightOp]
     ·intro W hU hF
      have f0:=CS.out W hU
      clear hU hF
      go_simp
      exact rfl
     simp only [aP])
    refine wpV_end (fun W hU _ _ => ?_)
    have U2:Hid (Upd [] w W):=Zh (U1.out.drew.trans hU)
    clear hU
    refine wpT_end ?_
    by_cases hxy:x=y
    ·have dd:(x != y)=false:=by simpa using hxy
     have HS2:Hid (sameToK L M (k + 1)):=Zh (fun j hj => by
      rcases Nat.lt_or_ge j k with h1 | h1
      ·exact HS.out j h1
      ·obtain rfl:j=k:=by omega
       rw [List.getD_eq_getElem?_getD,List.getD_eq_getElem?_getD,HX.out,HY.out,hxy])
     clear hxy
     go_wp2_with fail
     go_roundw
     case rel => exact ⟨k + 1,by go_num,by omega,HS2,U2⟩
     case measure => simp [intOf]; omega
    ·have dd:(x != y)=true:=by simpa using hxy
     have HZ:Hid (r=false):=Zh (by
      rw [← HR.out,decide_eq_false_iff_not]
      intro e
      have h1:=HX.out
      rw [e,HY.out] at h1
      injection h1 with h1
      exact hxy h1.symm)
     clear hxy
     go_wp2_with fail
     go_ret
     exact ⟨by rw [HZ.out]; rfl,U2.out⟩
   ·obtain rfl:k=n:=by omega
    have HZ:Hid (r=true):=Zh (by rw [← HR.out,decide_eq_true_iff]; exact sameK_all HN.out HM.out HS.out)
    go_wp2_with fail
    go_ret
    exact ⟨by rw [HZ.out]; rfl,U1.out⟩
 ·have d:((n:Int) != (m:Int))=true:=by simp; omega
  have HZ:Hid (r=false):=Zh (by rw [← HR.out,decide_eq_false_iff_not]; intro e; exact hnm (by rw [← HN.out,← HM.out,e]))
  go_wp2_with fail
  go_ret
  exact ⟨by rw [HZ.out]; rfl,.refl _ _⟩
theorem attempts_r (A:Option Addr) (n c:Nat) (M:List En) (w:World) (h:Rd encE w (.slice A n c) M) (hn:M.length=n) (hm:n≤100) :
 Calls Tryz.prog 63 #[.slice A n c] w fun e w' => ∃ v,e=.returned v∧Ow encA 39 w' w.heap.size v (M.map attE)∧Upd [] w w':=by
 have HR:=Zh h
 have HN:=Zh hn
 have HM:=Zh hm
 have hn3:(n:Int)≤100:=by omega
 clear h hn hm
 go_enter Tryz.func63,Tryz.ntmps63
 go_wp2_with fail
 go_loopw [3,4] (fun u3 u4 wr => ∃ k:Nat,u4=.int .i64 k∧k≤n∧Hid (Upd [] w wr∧Ow encA 39 wr w.heap.size u3 ((M.take k).map attE))) (fun _ u _ => n - (intOf u).toNat)
 case atStart => exact ⟨0,rfl,by omega,Zh ⟨.refl _ _,Ow.nil _ _ _ _⟩⟩
 case round =>
  obtain ⟨k,rfl,hk,KX⟩:=hrel
  by_cases hlt:k < n
  ·have hki:(k:Int) < n:=by omega
   obtain ⟨m,hmm⟩:∃ m,M[k]?=some m:=⟨_,List.getElem?_eq_getElem (by rw [HN.out]; exact hlt)⟩
   obtain ⟨ad,hA,hl,hc⟩:=(HR.out.upd0 KX.out.1).at_ hmm
   have e:∀ j,ad.add (k * 9 + (j + 1))=⟨(ad.add (k * 9)).block,(ad.add (k * 9)).off + (j + 1),none⟩:=fun j => add_more ad (k * 9) j
   have c0:wr.cell? (ad.add (k * 9))=some (.int .i64 m.th):=hc 0 _ rfl
   have c1:wr.cell? ⟨(ad.add (k * 9)).block,(ad.add (k * 9)).off + 1,none⟩=some (.int .i64 m.ix):=by rw [← e 0]; exact hc 1 _ rfl
   have c2:wr.cell? ⟨(ad.add (k * 9)).block,(ad.add (k * 9)).off + 2,none⟩=some (.int .i64 m.st):=by rw [← e 1]; exact hc 2 _ rfl
   have c3:wr.cell? ⟨(ad.add (k * 9)).block,(ad.add (k * 9)).off + 3,none⟩=some (.bool m.wr):=by rw [← e 2]; exact hc 3 _ rfl
   have c4:wr.cell? ⟨(ad.add (k * 9)).block,(ad.add (k * 9)).off + 4,none⟩=some (.int .i64 m.be):=by rw [← e 3]; exact hc 4 _ rfl
   have c5:wr.cell? ⟨(ad.add (k * 9)).block,(ad.add (k * 9)).off + 5,none⟩=some (.int .i64 m.en):=by rw [← e 4]; exact hc 5 _ rfl
   have c6:wr.cell? ⟨(ad.add (k * 9)).block,(ad.add (k * 9)).off + 6,none⟩=some (.int .i64 m.kd):=by rw [← e 5]; exact hc 6 _ rfl
   have c7:wr.cell? ⟨(ad.add (k * 9)).block,(ad.add (k * 9)).off + 7,none⟩=some (.slice m.ta m.tn m.tc):=by rw [← e 6]; exact hc 7 _ rfl
   have c8:wr.cell? ⟨(ad.add (k * 9)).block,(ad.add (k * 9)).off + 8,none⟩=some (.int .i64 m.er):=by rw [← e 7]; exact hc 8 _ rfl
   have hb:(ad.add (k * 9)).block < wr.heap.size:=by rw [block_add]; exact hl
   have HMM:Hid (M[k]?=some m∧k < n):=Zh ⟨hmm,hlt⟩
   clear hmm hc e hl hk hlt
   subst hA
   go_wp2_with (at_builtin; refine stoppedJ ?_)
   refine Zh ?_
   refine wpList_app _ (by rfl) (.tmp 11) (.tmp 17) _ (by rfl) att_elem u3 _ (by rfl) (by rfl) (own_upd0 KX.out.2 ((Upd.refl [] wr).alloc _)) (.of_blk (Blk.newAt _ _ (by simp)) (m:=1) 1 rfl) (by intro u hu; simp at hu; rcases hu with rfl | rfl | rfl | rfl | rfl | rfl <;> rfl) (by have:=HM.out; have:=HMM.out.2; simp only [maxLen,List.length_map,List.length_take]; omega) (by have:=HM.out; have:=HMM.out.2; simp only [List.length_map,List.length_take]; omega) (by have:=KX.out.1.size; simp; omega) ?_
   intro v5 w5 o5 u5 b5
   have X5:Hid (Upd [] w w5∧Ow encA 39 w5 w.heap.size v5 ((M.take (k + 1)).map attE)):=Zh (by
    refine ⟨(KX.out.1.alloc _).trans' u5 (fun y hy => .inr (own_lt KX.out.2 (b:=y) (by simpa using hy)).1),?_⟩
    unfold Ow
    rw [List.take_add_one,HMM.out.1]
    simp only [Option.toList_some,List.map_append,List.map_cons,List.map_nil]
    rw [flat_append,List.length_append]
    exact o5)
   clear o5 u5 b5
   go_wp2_with fail
   go_round
   case rel => exact ⟨k + 1,by simp,by have:=HMM.out.2; omega,X5⟩
   case measure => have:=HMM.out.2; simp [intOf]; omega
  ·have hki:¬ ((k:Int) < n):=by omega
   have KX2:Hid (Upd [] w wr∧Ow encA 39 wr w.heap.size u3 (M.map attE)):=Zh (by
    have h:=KX.out
    rwa [List.take_of_length_le (by rw [HN.out]; omega)] at h)
   go_wp2_with fail
   go_ret
   exact ⟨_,rfl,KX2.out.2,KX2.out.1⟩
theorem done_r (A:Option Addr) (n c:Nat) (M:List En) (w:World) (h:Rd encE w (.slice A n c) M) (hn:M.length=n) (hm:n≤100) :
 Calls Tryz.prog 35 #[.slice A n c] w fun e w' => ∃ v,e=.returned v∧Ow encE 42 w' w.heap.size v (M.filter dnE)∧Upd [] w w':=by
 have HR:=Zh h
 have HN:=Zh hn
 have HM:=Zh hm
 have hn3:(n:Int)≤100:=by omega
 clear h hn hm
 go_enter Tryz.func35,Tryz.ntmps35
 go_wp2_with fail
 go_loopw [3,4] (fun u3 u4 wr => ∃ k:Nat,u4=.int .i64 k∧k≤n∧Hid (Upd [] w wr∧Ow encE 42 wr w.heap.size u3 ((M.take k).filter dnE))) (fun _ u _ => n - (intOf u).toNat)
 case atStart => exact ⟨0,rfl,by omega,Zh ⟨.refl _ _,Ow.nil _ _ _ _⟩⟩
 case round =>
  obtain ⟨k,rfl,hk,KX⟩:=hrel
  rename World => wr
  by_cases hlt:k < n
  ·have hki:(k:Int) < n:=by omega
   obtain ⟨m,hmm⟩:∃ m,M[k]?=some m:=⟨_,List.getElem?_eq_getElem (by rw [HN.out]; exact hlt)⟩
   obtain ⟨ad,hA,hl,hc⟩:=(HR.out.upd0 KX.out.1).at_ hmm
   obtain ⟨c0,c1,c2,c3,c4,c5,c6,c7,c8⟩:=en_cells hc
   have hb:(ad.add (k * 9)).block < wr.heap.size:=by rw [block_add]; exact hl
   have HMM:Hid (M[k]?=some m∧k < n):=Zh ⟨hmm,hlt⟩
   have LEN:Hid (((M.take k).filter dnE).length≤k):=Zh (by
    have h1:=List.length_filter_le dnE (M.take k)
    simp only [List.length_take] at h1
    omega)
   have ET:Hid ((M.take (k + 1)).filter dnE=(M.take k).filter dnE ++ if dnE m then [m] else []):=Zh (by
    rw [List.take_add_one,hmm,Option.toList_some,List.filter_append]
    congr 1
    by_cases hd:dnE m=true <;> simp [hd])
   clear hmm hc hl hk hlt
   subst hA
   by_cases hd:m.kd=1
   ·have HD:Hid (dnE m=true):=Zh (by simp [dnE,hd])
    have hd2:(m.kd == 1)=true:=by simp [hd]
    clear hd
    go_wp2_with (at_builtin; refine stoppedJ ?_)
    refine Zh ?_
    refine wpList_app _ (by rfl) (.tmp 17) (.tmp 22) _ (by rfl) ended_elem u3 _ (by rfl) (by rfl) (own_upd0 KX.out.2 ((Upd.refl [] wr).alloc _)) (.of_blk (Blk.newAt _ _ (by simp)) (m:=1) 1 rfl) (by intro u hu; simp at hu; rcases hu with rfl | rfl | rfl | rfl | rfl | rfl | rfl | rfl | rfl <;> rfl) (by have:=HM.out; have:=HMM.out.2; have:=LEN.out; simp only [maxLen]; omega) (by have:=HM.out; have:=HMM.out.2; have:=LEN.out; omega) (by have:=KX.out.1.size; simp; omega) ?_
    intro v5 w5 o5 u5 b5
    have X5:Hid (Upd [] w w5∧Ow encE 42 w5 w.heap.size v5 ((M.take (k + 1)).filter dnE)):=Zh (by
     refine ⟨(KX.out.1.alloc _).trans' u5 (fun y hy => .inr (own_lt KX.out.2 (b:=y) (by simpa using hy)).1),?_⟩
     rw [ET.out,if_pos HD.out]
     unfold Ow
     rw [flat_append,flat_one_,List.length_append]
     exact o5)
    clear o5 u5 b5
    go_wp2_with fail
    go_round
    case rel => exact ⟨k + 1,by simp,by have:=HMM.out.2; omega,X5⟩
    case measure => have:=HMM.out.2; simp [intOf]; omega
   ·have HD:Hid (dnE m=false):=Zh (by simp [dnE,hd])
    have hd2:(m.kd == 1)=false:=by simp [hd]
    have X5:Hid (Upd [] w wr∧Ow encE 42 wr w.heap.size u3 ((M.take (k + 1)).filter dnE)):=Zh (by
     rw [ET.out,HD.out]
     simp only [Bool.false_eq_true,if_false,List.append_nil]
     exact KX.out)
    clear hd
    go_wp2_with fail
    go_round
    case rel => exact ⟨k + 1,by simp,by have:=HMM.out.2; omega,X5⟩
    case measure => have:=HMM.out.2; simp [intOf]; omega
  ·have hki:¬ ((k:Int) < n):=by omega
   have KX2:Hid (Upd [] w wr∧Ow encE 42 wr w.heap.size u3 (M.filter dnE)):=Zh (by
    have h:=KX.out
    rwa [List.take_of_length_le (by rw [HN.out]; omega)] at h)
   go_wp2_with fail
   go_ret
   exact ⟨_,rfl,KX2.out.2,KX2.out.1⟩
end Go.Proofs.YtmjnmpifibemjaaGreatDoor.Rt
namespace Go.Proofs.YtmjnmpifibemjaaGreatDoor.Rt
open Go.RowKit St Jd
attribute [local go_sem] litStep_value
theorem there_ok (p:Pn) (kv tv:Value) (m:En) (w:World) (h:PlanV w p kv tv) (h100:p.ths.length≤100∧∀ t ∈ p.ths,t.length≤100) :
 Calls Tryz.prog 34 #[planC p kv tv,.agg (enCells m).toArray] w fun e w' => e=.returned (.bool (txnR p (attE m)).isSome)∧Upd [] w w':=by
 obtain ⟨th,ix,st,wr,be,en,kd,er,ta,tn,tc⟩:=m
 obtain ⟨hks,vs,hts,hrow⟩:=h
 obtain ⟨nk,hnk⟩:∃ n,n=p.ks.length:=⟨_,rfl⟩
 obtain ⟨_,Ak,ck,rfl,_⟩:=hks
 have hvl:vs.length=p.ths.length:=by simpa using hts.1
 obtain ⟨hts1,At,ct,rfl,hts2⟩:=hts
 obtain ⟨nt,hnt⟩:∃ n,n=p.ths.length:=⟨_,rfl⟩
 have HNT:Hid (nt=p.ths.length∧nt≤100):=Zh ⟨hnt,by rw [hnt]; exact h100.1⟩
 have H100:=Zh h100.2
 have HTS:=Zh hts2
 have HROW:=Zh hrow
 have HVL:=Zh hvl
 rw [← hnk,← hnt]
 have hn1:(nt:Int)≤100:=by have:=HNT.out.2; omega
 clear hts2 hrow hvl hnt hnk hts1 h100
 simp only [enCells]
 go_enter Tryz.func34,Tryz.ntmps34
 have U1:∀ (o1 o2:Obj),Upd [] w ((w.alloc o1).alloc o2):=fun o1 o2 => ((Upd.refl _ _).alloc _).alloc _
 by_cases h0:th < 0
 ·have e0:decide (0≤th)=false:=by simpa using h0
  have HX:Hid (txnR p ⟨th,ix,st,wr,be,en⟩=none):=Zh (by unfold txnR; rw [if_neg (by simp only; omega)])
  go_wp2_with fail
  go_quiet (fail)
  go_wp2_with fail
  go_ret
  exact ⟨by simp only [attE]; rw [HX.out]; rfl,(U1 _ _).drewN _⟩
 ·have e0:decide (0≤th)=true:=by simpa using h0
  obtain ⟨i,rfl⟩:=Int.eq_ofNat_of_zero_le (Int.not_lt.1 h0)
  by_cases h1:nt≤i
  ·have e1:decide (i < nt)=false:=by simpa using h1
   have HX:Hid (txnR p ⟨i,ix,st,wr,be,en⟩=none):=Zh (by
    unfold txnR
    split
    ·simp only [Int.toNat_natCast]
     rw [List.getElem?_eq_none (by rw [← HNT.out.1]; exact h1)]; rfl
    ·rfl)
   go_wp2_with fail
   go_quiet (fail)
   go_wp2_with fail
   go_ret
   exact ⟨by simp only [attE]; rw [HX.out]; rfl,(U1 _ _).drewN _⟩
  ·have e1:decide (i < nt)=true:=by simpa using h1
   by_cases h2:ix < 0
   ·have e2:decide (0≤ix)=false:=by simpa using h2
    have HX:Hid (txnR p ⟨i,ix,st,wr,be,en⟩=none):=Zh (by unfold txnR; rw [if_neg (by simp only; omega)])
    go_wp2_with fail
    go_quiet (fail)
    go_wp2_with fail
    go_ret
    exact ⟨by simp only [attE]; rw [HX.out]; rfl,(U1 _ _).drewN _⟩
   ·have e2:decide (0≤ix)=true:=by simpa using h2
    obtain ⟨j,rfl⟩:=Int.eq_ofNat_of_zero_le (Int.not_lt.1 h2)
    have hil:i < p.ths.length:=by rw [← HNT.out.1]; omega
    obtain ⟨v,hv⟩:∃ v,vs[i]?=some v:=⟨_,List.getElem?_eq_getElem (by rw [HVL.out]; exact hil)⟩
    obtain ⟨ts,hts⟩:∃ ts,p.ths[i]?=some ts:=⟨_,List.getElem?_eq_getElem hil⟩
    obtain ⟨us,hus,hst⟩:=HROW.out i v ts hv hts
    obtain ⟨ad,rfl,hadl,hadc⟩:=HTS.out i v hv
    obtain ⟨hul,Aj,cj,rfl,hus2⟩:=hus
    obtain ⟨nj,hnj⟩:∃ n,n=ts.length:=⟨_,rfl⟩
    have HNJ:Hid (nj=ts.length∧nj≤100):=Zh ⟨hnj,by rw [hnj]; exact H100.out _ (List.mem_of_getElem? hts)⟩
    rw [← hnj] at hadc
    have HT:Hid (p.ths[i]?=some ts):=Zh hts
    have hii:(i:Int) < nt:=by omega
    have hb1:(ad.add i).block < w.heap.size:=by rw [block_add]; exact hadl
    have hb2:(ad.add i).block < w.heap.size + 1:=by omega
    have hj1:(nj:Int)≤100:=by have:=HNJ.out.2; omega
    by_cases h3:nj≤j
    ·have e3:decide (j < nj)=false:=by simpa using h3
     have HX:Hid (txnR p ⟨i,j,st,wr,be,en⟩=none):=Zh (by
      unfold txnR
      rw [if_pos (by simp only; omega)]
      simp only [Int.toNat_natCast]
      rw [HT.out]
      simp only [Option.bind_some]
      exact List.getElem?_eq_none (by rw [← HNJ.out.1]; exact h3))
     clear hus2 hst hv hts hul hnj
     go_wp2_with fail
     go_quiet (fail)
     go_wp2_with fail
     go_ret
     exact ⟨by simp only [attE]; rw [HX.out]; rfl,(U1 _ _).drewN _⟩
    ·have e3:decide (j < nj)=true:=by simpa using h3
     have hjl:j < ts.length:=by rw [← HNJ.out.1]; omega
     obtain ⟨u,hu⟩:∃ u,us[j]?=some u:=⟨_,List.getElem?_eq_getElem (by omega)⟩
     obtain ⟨l,hl⟩:∃ l,ts[j]?=some l:=⟨_,List.getElem?_eq_getElem hjl⟩
     have HS:=Zh (hst j u l hu hl)
     obtain ⟨ad2,rfl,had2l,had2c⟩:=hus2 j u hu
     have HX:Hid (txnR p ⟨i,j,st,wr,be,en⟩=some l):=Zh (by
      unfold txnR
      rw [if_pos (by simp only; omega)]
      simp only [Int.toNat_natCast]
      rw [HT.out]
      simp only [Option.bind_some]
      exact hl)
     have hjj:(j:Int) < nj:=by omega
     have hb3:(ad2.add j).block < w.heap.size:=by rw [block_add]; exact had2l
     have hb4:(ad2.add j).block < w.heap.size + 1:=by omega
     clear hus2 hst hv hts hul hnj hu hl hjl
     go_wp2_with fail
     go_quiet (fail)
     go_wp2_with fail
     go_ret
     exact ⟨by simp only [attE]; rw [HX.out]; rfl,(U1 _ _).drewN _⟩
end Go.Proofs.YtmjnmpifibemjaaGreatDoor.Rt
namespace Go.Proofs.YtmjnmpifibemjaaGreatDoor.Rt
open Go.RowKit St Jd Ev Rv
attribute [local go_sem] litStep_value
theorem srp_elem:Elem Tryz.prog 92 28 1 8:=.mk' (z:=((Tryz.prog.info? 28).bind (·.zero)).getD undef) Tryz.underlying92 (by kernel_rfl) (by kernel_rfl) (by omega)
def sptr (q:Nat):Value:=.pointer (some ⟨q,0,none⟩)
structure StsR (B:Nat) (w:World) (v:Value) (sts:List MP.MS) (fp:List Nat):Prop where
 len:fp.length=sts.length
 own:w.ownsRow B 28 1 v sts.length (fp.map sptr)
 st:∀ (i:Nat) q s,fp[i]?=some q→sts[i]?=some s→RSt q w s
theorem StsR.upd0 {B:Nat} {w w':World} {v:Value} {sts:List MP.MS} {fp:List Nat} (h:StsR B w v sts fp) (hu:Upd [] w w'):StsR B w' v sts fp :=
 ⟨h.len,own_upd0 h.own hu,fun i q s hq hs => (h.st i q s hq hs).upd0 hu⟩
theorem odd_ptrs {B n:Nat} {w:World} {v:Value} {xs:List Value} (h:w.ownsRow B 28 1 v n xs) {k:Nat} (hk:v.ownBlock=some k):Odd w k∧∀ {q s},RSt q w s→k≠q:=by
 obtain ⟨_,h2⟩:=h
 rcases h2 with ⟨h2,_⟩ | ⟨g,cap,cur,e1,e2,e3,_⟩
 ·subst h2; simp [Value.ownBlock] at hk
 ·subst e1
  simp only [Value.ownBlock,Option.some.injEq] at hk
  subst hk
  refine ⟨⟨_,_,e3,by decide,by decide,by decide⟩,fun {q s} hs => ?_⟩
  obtain ⟨vk,vl,hb⟩:=hs.box
  exact Blk.ne_ (w:=w) e3 hb (by decide)
theorem StsR.push {B:Nat} {w w4 w5:World} {v v5:Value} {sts:List MP.MS} {fp:List Nat} (h:StsR B w v sts fp) (hu:Upd [] w w4) {q:Nat} {s:MP.MS} (hs:RSt q w4 s) (o5:w5.ownsRow B 28 1 v5 (sts.length + 1) (fp.map sptr ++ [sptr q])) (u5:Upd v.ownBlock.toList w4 w5):StsR B w5 v5 (sts ++ [s]) (fp ++ [q]):=by
 have ho:∀ k ∈ v.ownBlock.toList,∀ {q s},RSt q w4 s→k≠q∧Odd w4 k:=fun k hk {q s} hs => by
  have h1:=odd_ptrs (own_upd0 h.own hu) (k:=k) (by simpa using hk)
  exact ⟨h1.2 hs,h1.1⟩
 refine ⟨by simp [h.len],by rw [List.length_append,List.map_append]; exact o5,fun i q' s' hq hs' => ?_⟩
 by_cases hi:i < fp.length
 ·rw [List.getElem?_append_left hi] at hq
  rw [List.getElem?_append_left (by rw [← h.len]; exact hi)] at hs'
  have:=(h.st i q' s' hq hs').upd0 hu
  exact this.odd u5 (fun k hk => ho k hk this)
 ·have hil:i=fp.length:=by have:=(List.getElem?_eq_some_iff.1 hq).1; simp at this; omega
  subst hil
  rw [List.getElem?_append_right (Nat.le_refl _),Nat.sub_self] at hq
  rw [List.getElem?_append_right (by rw [h.len]; exact Nat.le_refl _),h.len,Nat.sub_self] at hs'
  simp at hq hs'
  subst hq hs'
  exact hs.odd u5 (fun k hk => ho k hk hs)
theorem plan_at {w:World} {p:Pn} {kv tv:Value} (h:PlanV w p kv tv) {x:Att} {l:List Stm} (hx:txnR p x=some l) :
 ∃ (i j nj cj ct:Nat) (a0 a1:Addr) (u:Value),x.th=i∧x.ix=j∧i < p.ths.length∧j < nj∧(∃ ts ∈ p.ths,nj=ts.length)∧tv=.slice (some a0) p.ths.length ct ∧
   (∀ W,Upd [] w W→W.cell? (a0.add i)=some (.slice (some a1) nj cj)∧W.cell? (a1.add j)=some u)∧Stms w w.heap.size u l:=by
 obtain ⟨_,vs,hts,hrow⟩:=h
 unfold txnR at hx
 split at hx
 ·rename_i h0
  obtain ⟨i,hi⟩:=Int.eq_ofNat_of_zero_le h0.1
  obtain ⟨j,hj⟩:=Int.eq_ofNat_of_zero_le h0.2
  rw [hi,hj] at hx
  simp only [Int.ofNat_eq_natCast,Int.toNat_natCast] at hx
  cases ht:p.ths[i]? with
  | none => rw [ht] at hx; simp at hx
  | some ts =>
    rw [ht] at hx
    simp only [Option.bind_some] at hx
    have hil:=(List.getElem?_eq_some_iff.1 ht).1
    have hjl:=(List.getElem?_eq_some_iff.1 hx).1
    obtain ⟨hvl,A0,ct,e0,hts2⟩:=hts
    obtain ⟨v,hv⟩:∃ v,vs[i]?=some v:=⟨_,List.getElem?_eq_getElem (by omega)⟩
    obtain ⟨a0,e1,b1,c1⟩:=hts2 i v hv
    obtain ⟨us,⟨hul,A1,cj,e2,hus⟩,hst⟩:=hrow i v ts hv ht
    obtain ⟨u,hu⟩:∃ u,us[j]?=some u:=⟨_,List.getElem?_eq_getElem (by omega)⟩
    obtain ⟨a1,e3,b2,c2⟩:=hus j u hu
    subst e0 e1 e2 e3
    exact ⟨i,j,ts.length,cj,ct,a0,a1,u,hi,hj,hil,hjl,⟨ts,List.mem_of_getElem? ht,rfl⟩,rfl,fun W hW => ⟨((hW.below (Nat.le_refl _) (by simp)).cell (by rw [block_add]; exact b1)).trans c1,((hW.below (Nat.le_refl _) (by simp)).cell (by rw [block_add]; exact b2)).trans c2⟩,hst j u l hu hx⟩
 ·cases hx
theorem own_apart {B B' n n' s s':Nat} {w:World} {t t':TypeId} {v v':Value} {xs xs':List Value} (h:w.ownsRow B t s v n xs) (h':w.ownsRow B' t' s' v' n' xs') (hne:t≠t'):∀ b,v.ownBlock=some b→v'.ownBlock≠some b:=fun b hb hb' => by
 obtain ⟨_,h2⟩:=h
 rcases h2 with ⟨h2,_⟩ | ⟨g,cap,cur,e1,e2,e3,_⟩
 ·subst h2; simp [Value.ownBlock] at hb
 ·subst e1
  simp only [Value.ownBlock,Option.some.injEq] at hb
  subst hb
  exact own_type h' e3 hne hb'
def RepPR (p:Pn) (d:List Ed) (w:World) (e:Ending) (w':World):Prop:=Upd [] w w' ∧
 (((chkR (attsR d)).1≠0∧e=.returned (.tuple #[.slice none 0 0,.int .i64 (chkR (attsR d)).1,.int .i64 (chkR (attsR d)).2])) ∨
  ((chkR (attsR d)).1=0∧∃ k,repR p d=some k∧e=.returned (.tuple #[.slice none 0 0,.int .i64 12,.int .i64 ((k:Int) + 1)])) ∨
  ((chkR (attsR d)).1=0∧repR p d=none∧∃ v fp,e=.returned (.tuple #[v,.int .i64 0,.int .i64 0])∧StsR w.heap.size w' v (stsN p d d.length) fp))
def RepIR (p:Pn) (d:List Ed) (w:World) (k:Nat) (sv ov:Value) (wr:World):Prop :=
 ∃ (fp:List Nat) (q:Nat),StsR w.heap.size wr ov (stsN p d k) fp∧fp[k]?=some q∧sv=.pointer (some ⟨q,0,none⟩)∧Upd [] w wr∧∀ i,i < k→okE p (stN p (seqR d) i) ((seqR d).getD i default)=true
theorem replay_r (p:Pn) (kv tv:Value) (A:Option Addr) (n c:Nat) (M:List En) (w:World) (hb:Base w p kv tv M) (hr:Rd encE w (.slice A n c) M) (hn:M.length=n) (h40:n≤40) (hf:FitP p) (hz:SzP p) (htn:∀ m ∈ M,m.tn≤300000) (htx:∀ m ∈ M,(txnR p (attE m)).isSome=true)
 (d:List Ed) (hd:d=edsW w M) :
 Calls Tryz.prog 36 #[planC p kv tv,.slice A n c] w (RepPR p d w):=by
 obtain ⟨Ak,ck,hkv⟩:∃ A c,kv=.slice A p.ks.length c:=by obtain ⟨_,A,c,e,_⟩:=hb.plan.ks; exact ⟨A,c,e⟩
 obtain ⟨At,ct,htv⟩:∃ A c,tv=.slice A p.ths.length c:=by obtain ⟨vs,⟨_,A,c,e,_⟩,_⟩:=hb.plan.ths; exact ⟨A,c,e⟩
 obtain ⟨nk,hnk⟩:∃ k,k=p.ks.length:=⟨_,rfl⟩
 obtain ⟨nt,hnt⟩:∃ k,k=p.ths.length:=⟨_,rfl⟩
 have hdl:d.length=n:=by rw [hd,← hn]; simp [edsW]
 rw [← hnk] at hkv
 rw [← hnt] at htv
 subst hkv htv
 have HB:=Zh hb
 have HR:=Zh hr
 have HF:=Zh (And.intro hf hz)
 have HTN:=Zh htn
 have HD:=Zh hd
 have HTX:=Zh htx
 have HN:Hid (M.length=n∧n≤40∧d.length=n∧nk=p.ks.length∧nt=p.ths.length):=Zh ⟨hn,h40,hdl,hnk,hnt⟩
 have hn40:(n:Int)≤40:=by omega
 have HK:Hid (∀ W,Upd [] w W→Rd encK W (.slice Ak nk ck) p.ks∧badK p.ks=none∧p.ks.length≤8):=Zh fun W hW => ⟨by
  have h1:=(hb.plan.upd0 hW).ks
  rw [← hnk] at h1
  unfold Rd
  rw [flat_ints,← hnk]
  exact h1,by
  unfold badK
  rw [List.findIdx?_eq_none_iff]
  intro x hx
  have:=hf.kin x hx
  unfold kOk
  simp; omega,hf.ks8⟩
 obtain ⟨w1,hw1⟩:∃ w1,w1=w.alloc (.cells #[.int .i64 p.words,.int .i64 p.pat,.slice Ak nk ck,.slice At nt ct] 25):=⟨_,rfl⟩
 have U1:Hid (Upd [] w w1):=Zh (by rw [hw1]; exact (Upd.refl _ _).alloc _)
 have X1:Hid (Blk w1 w.heap.size 25 #[.int .i64 p.words,.int .i64 p.pat,.slice Ak nk ck,.slice At nt ct]):=Zh (by rw [hw1]; exact Blk.new _ _ _)
 clear hb hr hf hz htn hd htx hn hdl h40 hnk hnt
 go_enter Tryz.func36,Tryz.ntmps36
 go_wp2_with fail
 rw [← hw1]
 clear hw1
 refine (attempts_r A n c M w1 (HR.out.upd0 U1.out) HN.out.1 (by have:=HN.out; omega)).mono ?_
 rintro e w2 ⟨v2,rfl,o2,u2⟩
 have AT:Hid (∀ W,Upd [] w W→attsR (edsW W M)=M.map attE):=Zh (fun W _ => attsR_edsW W M)
 have ATD:Hid (attsR d=M.map attE):=Zh (by rw [HD.out,attsR_edsW])
 obtain ⟨A2,c2,hv2,_,_⟩:=own_slice o2
 rw [List.length_map,HN.out.1] at hv2
 subst hv2
 have RA2:Hid (Rd encA w2 (.slice A2 n c2) (attsR d)):=Zh (by
  have:=Src.of_own o2
  rw [ATD.out]
  unfold Rd
  rw [List.length_map,HN.out.1] at this ⊢
  exact this)
 have U2:=Zh (U1.out.trans u2)
 have X2:=Zh (X1.out.upd u2 (by simp))
 clear o2 u2
 go_wp2_with fail
 refine (rcheck_ok A2 n c2 (attsR d) w2 (atts_rd RA2.out) (by rw [ATD.out,List.length_map,HN.out.1]) (by have:=HN.out; omega)).mono ?_
 rintro e w3 ⟨rfl,u3⟩
 have U3:=Zh (U2.out.trans u3)
 have X3:=Zh (X2.out.upd u3 (by simp))
 obtain ⟨ce,hce⟩:∃ x,(chkR (attsR d)).1=x:=⟨_,rfl⟩
 obtain ⟨ca,hca⟩:∃ x,(chkR (attsR d)).2=x:=⟨_,rfl⟩
 have HCE:=Zh (And.intro hce hca)
 rw [hce,hca]
 clear u3 hce hca
 by_cases h0:ce=0
 ·subst h0
  have x2:w3.cell? ⟨w.heap.size,2,none⟩=some (.slice Ak nk ck):=X3.out.cell 2
  go_wp2_with fail
  refine (rm_new Ak nk ck p.ks w3 (HK.out w3 U3.out).1 HN.out.2.2.2.1.symm (by have:=HN.out; have:=(HK.out w3 U3.out).2.2; omega)).mono ?_
  rintro e w4 ⟨u4,hc⟩
  rcases hc with ⟨i,h1,_⟩ | ⟨_,h1,_⟩ | ⟨_,_,rb,F,rfl,hm⟩
  ·rw [(HK.out w3 U3.out).2.1] at h1; cases h1
  ·have:=(HK.out w3 U3.out).2.2; omega
  have U4:=Zh (U3.out.trans u4)
  have X4:=Zh (X3.out.upd u4 (by simp))
  have S4:Hid (RSt rb w4 (stN p (seqR d) 0)):=Zh (RSt.of hm)
  clear u4 hm x2
  go_wp2_with fail
  have U5:Hid (Upd [] w4 (w4.alloc (.cells #[.pointer (some ⟨rb,0,none⟩)] 28))):=Zh ((Upd.refl [] w4).alloc _)
  have I0:Hid (StsR w.heap.size (w4.alloc (.cells #[.pointer (some ⟨rb,0,none⟩)] 28)) (.slice (some ⟨w4.heap.size,0,none⟩) 1 1) (stsN p d 0) [rb]):=Zh ⟨rfl,⟨rfl,.inr ⟨w4.heap.size,1,_,rfl,U4.out.size,Blk.new w4 _ _,Nat.le_refl _,by simp [maxLen],rfl,rfl⟩⟩,fun i q s hq hs => by
   have hi:i=0:=by have:=(List.getElem?_eq_some_iff.1 hq).1; simp at this; exact this
   subst hi
   injection hq with hq
   injection hs with hs
   subst hq hs
   exact S4.out.upd0 ((Upd.refl [] w4).alloc _)⟩
  generalize (w4.alloc (.cells #[.pointer (some ⟨rb,0,none⟩)] 28))=w5 at *
  refine (attempts_r A n c M w5 (HR.out.upd0 (U4.out.trans U5.out)) HN.out.1 (by have:=HN.out; omega)).mono ?_
  rintro e w6 ⟨v6,rfl,o6,u6⟩
  obtain ⟨A6,c6,hv6,_,_⟩:=own_slice o6
  rw [List.length_map,HN.out.1] at hv6
  subst hv6
  have RA6:Hid (Rd encA w6 (.slice A6 n c6) (attsR d)):=Zh (by
   have:=Src.of_own o6
   rw [ATD.out]
   unfold Rd
   rw [List.length_map,HN.out.1] at this ⊢
   exact this)
  have U6:=Zh ((U4.out.trans U5.out).trans u6)
  have X6:=Zh (X4.out.upd (U5.out.trans u6) (by simp))
  have I6:=Zh (I0.out.upd0 u6)
  clear o6 u6
  go_wp2_with fail
  refine (rsort_ok A6 n c6 (attsR d) w6 (atts_rd RA6.out) (by rw [ATD.out,List.length_map,HN.out.1]) (by have:=HN.out; omega)).mono ?_
  rintro e w7 ⟨v7,rfl,o7,u7⟩
  obtain ⟨Al,cl,hv7,_,_⟩:=own_slice o7
  subst hv7
  have U7:=Zh (U6.out.trans u7)
  have X7:=Zh (X6.out.upd u7 (by simp))
  have I7:=Zh (I6.out.upd0 u7)
  have OL:Hid (w7.ownsRow w6.heap.size 3 1 (.slice Al n cl) n ((ordR d).map fun (x:Nat) => Value.int .i64 x)):=Zh (by
   have:=o7
   unfold ordR
   rw [show (attsR d).length=n by rw [ATD.out,List.length_map,HN.out.1]]
   unfold Ev.ints at this
   exact this)
  clear o7 u7
  go_wp2_with fail
  go_loopw [9,12,14] (fun u9 u12 u14 wr => ∃ k:Nat,u14=.int .i64 k∧k≤n∧Hid (RepIR p d w k u9 u12 wr∧Blk wr w.heap.size 25 #[.int .i64 p.words,.int .i64 p.pat,.slice Ak nk ck,.slice At nt ct]∧wr.ownsRow w6.heap.size 3 1 (.slice Al n cl) n ((ordR d).map fun (x:Nat) => Value.int .i64 x))) (fun _ _ u _ => n - (intOf u).toNat)
  case atStart => exact ⟨0,rfl,by omega,Zh ⟨⟨[rb],rb,I7.out,rfl,rfl,U7.out,fun i hi => by omega⟩,X7.out,OL.out⟩⟩
  case round =>
   obtain ⟨k,rfl,hk,KI⟩:=hrel
   rename World => wr
   by_cases hlt:k < n
   ·have hki:(k:Int) < n:=by omega
    obtain ⟨⟨fp,q,i1,i2,rfl,i4,i5⟩,i6⟩:=KI.out
    obtain ⟨i,m,s1,s2,s3,s4⟩:=seq_at HD.out (k:=k) (by rw [HN.out.1]; exact hlt)
    obtain ⟨l,hx⟩:=Option.isSome_iff_exists.1 (HTX.out m (List.mem_of_getElem? s3))
    obtain ⟨ti,tj,nj,cj,ct',a0,a1,u,t1,t2,t3,t4,t5,t6,t7,t8⟩:=plan_at HB.out.plan hx
    rw [← HN.out.2.2.2.2] at t3 t6
    injection t6 with t6 _ t6'
    subst t6 t6'
    obtain ⟨Aav,cav,rfl,_,_⟩:=own_slice i1.own
    obtain ⟨gl,cl2,cur,e1,_⟩:=own_form OL.out (by omega)
    injection e1 with e1 _ e1'
    subst e1 e1'
    obtain ⟨ad,hA,hl,hc⟩:=(HR.out.upd0 i4).at_ s3
    obtain ⟨c0,c1,c2,c3,c4,c5,c6,c7,c8⟩:=en_cells hc
    subst hA
    have d0:wr.cell? ⟨gl,k,none⟩=some (.int .i64 i):=own_cell i6.2 k _ (by rw [List.getElem?_map,s1]; rfl)
    have d1:gl < wr.heap.size:=(own_lt i6.2 rfl).2
    have hb:(ad.add (i * 9)).block < wr.heap.size:=by rw [block_add]; exact hl
    have h1m:m.th=ti:=t1
    have h2m:m.ix=tj:=t2
    have ti1:(ti:Int) < nt:=by omega
    have tj1:(tj:Int) < nj:=by omega
    have ii1:(i:Int) < n:=by rw [HN.out.1] at s2; omega
    have nj1:(nj:Int)≤100:=by obtain ⟨ts,h1,h2⟩:=t5; have:=HF.out.1.tx20 ts h1; omega
    have nt1:(nt:Int)≤100:=by have:=HF.out.1.th6; have:=HN.out.2.2.2.2; omega
    rw [h1m] at c0
    rw [h2m] at c1
    have G1:=Zh i1
    have GQ:Hid (fp[k]?=some q∧Upd [] w wr∧∀ i,i < k→okE p (stN p (seqR d) i) ((seqR d).getD i default)=true):=Zh ⟨i2,i4,i5⟩
    have HIM:Hid (M[i]?=some m∧(seqR d)[k]?=some (edW w m)∧k < n∧txnR p (attE m)=some l∧m ∈ M):=Zh ⟨s3,s4,hlt,hx,List.mem_of_getElem? s3⟩
    have HT7:=Zh t7
    have HST:=Zh t8
    have HTM:Hid (m.th=ti∧m.ix=tj):=Zh ⟨h1m,h2m⟩
    have BX:Hid (Blk (wr.alloc (.cells #[.int .i64 ti,.int .i64 tj,.int .i64 m.st,.bool m.wr,.int .i64 m.be,.int .i64 m.en,.int .i64 m.kd,.slice m.ta m.tn m.tc,.int .i64 m.er] 42)) wr.heap.size 42 #[.int .i64 ti,.int .i64 tj,.int .i64 m.st,.bool m.wr,.int .i64 m.be,.int .i64 m.en,.int .i64 m.kd,.slice m.ta m.tn m.tc,.int .i64 m.er]):=Zh (Blk.new _ _ _)
    have W8:Upd [] wr (wr.alloc (.cells #[.int .i64 ti,.int .i64 tj,.int .i64 m.st,.bool m.wr,.int .i64 m.be,.int .i64 m.en,.int .i64 m.kd,.slice m.ta m.tn m.tc,.int .i64 m.er] 42)):=(Upd.refl _ _).alloc _
    clear s1 s2 s3 s4 hx t1 t2 t3 t4 t5 t7 t8 h1m h2m i1 i2 i4 i5 i6 hl hc hk hlt
    go_wp2_with fail
    generalize hw8:(wr.alloc (.cells #[.int .i64 ti,.int .i64 tj,.int .i64 m.st,.bool m.wr,.int .i64 m.be,.int .i64 m.en,.int .i64 m.kd,.slice m.ta m.tn m.tc,.int .i64 m.er] 42))=w8 at *
    have U8:=Zh W8
    clear hw8 W8 c0 c1 c2 c3 c4 c5 c6 c7 c8 d0 d1 hb
    have UR:Hid (Upd [] w8 w8.drew∧Upd [] w w8):=Zh ⟨(Upd.refl [] w8).drew,GQ.out.2.1.trans U8.out⟩
    have CS:Hid (∀ W,Upd [] w8.drew W→W.cell? ⟨w.heap.size,3,none⟩=some (.slice (some a0) nt ct)∧W.cell? ⟨wr.heap.size,0,none⟩=some (.int .i64 ti)∧W.cell? ⟨wr.heap.size,1,none⟩=some (.int .i64 tj)∧W.cell? (a0.add ti)=some (.slice (some a1) nj cj)∧W.cell? (a1.add tj)=some u):=Zh (fun W hW => by
     have h1:Upd [] wr W:=U8.out.trans (UR.out.1.trans hW)
     have h2:=BX.out.upd (UR.out.1.trans hW) (by simp)
     exact ⟨(KI.out.2.1.upd h1 (by simp)).cell 3,h2.cell 0,h2.cell 1,HT7.out W (GQ.out.2.1.trans h1)⟩)
    obtain ⟨sk,hsk⟩:∃ sk,sk=stN p (seqR d) k:=⟨_,rfl⟩
    have SK:Hid (sk=stN p (seqR d) k∧StOk p sk∧RSt q wr sk):=Zh ⟨hsk,by rw [hsk]; exact st_n p _ k,by rw [hsk]; exact G1.out.st k q _ GQ.out.1 (by unfold stsN; rw [List.getElem?_map,List.getElem?_range (by omega)]; rfl)⟩
    clear hsk
    obtain ⟨en,hen⟩:∃ en,en=endE sk l:=⟨_,rfl⟩
    obtain ⟨tl,htl⟩:∃ tl,tl=toldE sk l:=⟨_,rfl⟩
    obtain ⟨tk,htk⟩:∃ tk,tk=tl.length:=⟨_,rfl⟩
    have ETO:Hid (txnO p (edW w m)=l):=Zh (by show (txnR p (attE m)).getD []=l; rw [HIM.out.2.2.2.1]; rfl)
    have HE:Hid (okE p sk (edW w m)=(en == 1 && tl == tlW w m)):=Zh (by unfold okE; rw [ETO.out,← hen,← htl]; rfl)
    have HEQ:Hid (endE sk l=en∧toldE sk l=tl∧tl.length=tk):=Zh ⟨hen.symm,htl.symm,htk.symm⟩
    clear hen htl htk
    have HC:Hid (∀ W,Upd [] w8.drew W→Calls Tryz.prog 9 #[.pointer (some ⟨q,0,none⟩),u] W (DoG sk l W)):=Zh (fun W hW => by
     have hu:Upd [] wr W:=U8.out.trans (UR.out.1.trans hW)
     exact do_ok q sk l u W (SK.out.2.2.upd0 hu) ((HST.out.belowW ((GQ.out.2.1.trans hu).below (Nat.le_refl _) (by simp))).more (GQ.out.2.1.trans hu).size) (txn_size HF.out.2 HIM.out.2.2.2.1) SK.out.2.1.1 (by rw [SK.out.2.1.2]; exact txn_right HF.out.1 HIM.out.2.2.2.1))
    go_region_held3 (fun W => W.cell? ⟨w.heap.size,3,none⟩=some (.slice (some a0) nt ct)∧W.cell? ⟨wr.heap.size,0,none⟩=some (.int .i64 ti)∧W.cell? ⟨wr.heap.size,1,none⟩=some (.int .i64 tj)∧W.cell? (a0.add ti)=some (.slice (some a1) nj cj)∧W.cell? (a1.add tj)=some u) (first | exact CS.out _ (.refl _ _) | exact CS.out _ ((Upd.refl _ _).alloc _) | exact CS.out _ ux | exact CS.out _ (ux.alloc _) | exact CS.out _ ((ux.setCell (.inr (by simp)) _).setCell (.inr (by simp)) _)) (first
     | (go_at_call 9
        refine (HC.out _ (by first | exact .refl _ _ | exact (Upd.refl _ _).alloc _)).mono ?_
        rintro e wx ⟨nb,v,rfl,ux0,lx,ox,sx⟩
        have ux:Upd [] w8.drew wx:=by first | exact ux0 | exact ((Upd.refl _ _).alloc _).trans ux0
        try (have YB:=Zh ((Blk.newAt (W:=w8.drew) (H:=w8.heap.size) 34 #[.int .i64 0,.slice none 0 0] (by simp)).upd ux0 (by simp)))
        try (have yb:=((Blk.newAt (W:=w8.drew) (H:=w8.heap.size) 34 #[.int .i64 0,.slice none 0 0] (by simp)).upd ux0 (by simp)).facts)
        rw [HEQ.out.2.1,HEQ.out.2.2] at ox
        rw [HEQ.out.1]
        obtain ⟨Ax,cx,rfl,_,_⟩:=own_slice ox
        have OX:=Zh ox
        have SX:=Zh sx
        have LX:Hid (tk≤201000):=Zh (by rw [← HEQ.out.2.2,← HEQ.out.2.1]; exact lx)
        clear ox sx lx ux0))
    all_goals
     first
     | (have Y9:Hid (Blk ((wx.setCell ⟨w8.heap.size,0,none⟩ (.int .i64 en)).setCell ⟨w8.heap.size,1,none⟩ (.slice Ax tk cx)) w8.heap.size 34 #[.int .i64 en,.slice Ax tk cx]∧Upd [w8.heap.size] wx ((wx.setCell ⟨w8.heap.size,0,none⟩ (.int .i64 en)).setCell ⟨w8.heap.size,1,none⟩ (.slice Ax tk cx))∧Upd [] w8.drew ((wx.setCell ⟨w8.heap.size,0,none⟩ (.int .i64 en)).setCell ⟨w8.heap.size,1,none⟩ (.slice Ax tk cx))∧w8.heap.size≠wr.heap.size):=Zh ⟨(YB.out.set_eq (i:=0) rfl).set_eq (i:=1) rfl,((Upd.refl _ _).setCell (.inl (by simp)) _).setCell (.inl (by simp)) _,(ux.setCell (.inr (by simp)) _).setCell (.inr (by simp)) _,by have h2:=BX.out.lt; omega⟩
        have OD:∀ k ∈ [w8.heap.size],Odd wx k:=fun k hk => by simp at hk; subst hk; exact ⟨_,_,YB.out,by decide,by decide,by decide⟩
        have OX9:=Zh (own_odd OX.out (.inl rfl) Y9.out.2.1 OD)
        have SX9:=Zh (SX.out.odd Y9.out.2.1 (fun k hk => ⟨by simp at hk; subst hk; obtain ⟨vk,vl,hb⟩:=SX.out.box; exact YB.out.ne_ hb (by decide),OD k hk⟩))
        clear yb OD
        generalize ((wx.setCell ⟨w8.heap.size,0,none⟩ (.int .i64 en)).setCell ⟨w8.heap.size,1,none⟩ (.slice Ax tk cx))=W9 at Y9 OX9 SX9 ⊢
        generalize w8.heap.size=g at Y9 ⊢)
     | (have Y9:Hid (Blk (wx.alloc (.cells #[.int .i64 en,.slice Ax tk cx] 34)) wx.heap.size 34 #[.int .i64 en,.slice Ax tk cx]∧Upd [] wx (wx.alloc (.cells #[.int .i64 en,.slice Ax tk cx] 34))∧Upd [] w8.drew (wx.alloc (.cells #[.int .i64 en,.slice Ax tk cx] 34))∧wx.heap.size≠wr.heap.size):=Zh ⟨Blk.new _ _ _,(Upd.refl _ _).alloc _,ux.alloc _,by have h1:=ux.size; have h2:=BX.out.lt; simp at h1; omega⟩
        have OX9:=Zh (own_upd0 OX.out Y9.out.2.1)
        have SX9:=Zh (SX.out.upd0 Y9.out.2.1)
        generalize (wx.alloc (.cells #[.int .i64 en,.slice Ax tk cx] 34))=W9 at Y9 OX9 SX9 ⊢
        generalize wx.heap.size=g at Y9 ⊢)
     have U9:Hid (Upd [] wr W9):=Zh ((U8.out.trans UR.out.1).trans Y9.out.2.2.1)
     have x9:=(BX.out.upd (UR.out.1.trans Y9.out.2.2.1) (by simp)).facts
     have y9:=Y9.out.1.facts
     clear ux
     have SQ:Hid ((seqR d).getD k default=edW w m):=Zh (by rw [List.getD_eq_getElem?_getD,HIM.out.2.1]; rfl)
     by_cases h1:en=1
     ·have e1:(en != 1)=false:=by simpa using h1
      have E1:Hid ((en == 1)=true):=Zh (by simpa using h1)
      clear h1
      go_wp2_with fail
      have em:=(HB.out.en m HIM.out.2.2.2.2).upd0 (GQ.out.2.1.trans U9.out)
      refine (ints_src m.ta Ax m.tn m.tc tk cx (tlW w m) tl W9 (by rw [← em.2]; exact em.1) (by have:=Src.of_own OX9.out; exact this) (by have:=HTN.out m HIM.out.2.2.2.2; omega) (by have:=LX.out; omega)).mono ?_
      rintro e w10 ⟨rfl,u10⟩
      have U10:=Zh (U9.out.trans u10)
      have S10:=Zh (SX9.out.upd0 u10)
      clear em u10 x9 y9
      by_cases h2:tlW w m=tl
      ·have d2:decide (tlW w m=tl)=true:=by simpa using h2
       have HOK:Hid (okE p (stN p (seqR d) k) ((seqR d).getD k default)=true):=Zh (by rw [SQ.out,← SK.out.1,HE.out,E1.out,h2]; simp)
       rw [d2]
       clear d2 h2
       go_wp2_with (at_builtin; refine stoppedJ ?_)
       refine Zh ?_
       have OV:=Zh (own_upd0 G1.out.own (U10.out.alloc (.cells #[.pointer (some ⟨nb,0,none⟩)] 28)))
       refine wpList_app _ (by rfl) (.tmp 88) (.tmp 90) _ (by rfl) srp_elem (.slice Aav (stsN p d k).length cav) _ (by rfl) (by rfl) OV.out (.of_blk (Blk.new w10 _ _) (m:=1) 1 rfl) (by intro u hu; simp at hu; subst hu; rfl) (by have:=HN.out; have:=HIM.out.2.2.1; rw [stsN_len]; simp only [maxLen]; omega) (by have:=HN.out; have:=HIM.out.2.2.1; rw [stsN_len]; omega) (by have:=GQ.out.2.1.size; have:=U10.out.size; simp; omega) ?_
       intro v11 w11 o11 u11 b11
       obtain ⟨A11,c11,rfl,_,_⟩:=own_slice o11
       have u1011:Upd (Value.slice Aav (stsN p d k).length cav).ownBlock.toList w10 w11:=(((Upd.refl [] w10).alloc _).mono (by simp)).trans u11
       have hp:=G1.out.push U10.out S10.out o11 u1011
       have NX:Hid (RepIR p d w (k + 1) (.pointer (some ⟨nb,0,none⟩)) (.slice A11 ((stsN p d k).length + 1) c11) w11∧Blk w11 w.heap.size 25 #[.int .i64 p.words,.int .i64 p.pat,.slice Ak nk ck,.slice (some a0) nt ct]∧w11.ownsRow w6.heap.size 3 1 (.slice (some ⟨gl,0,none⟩) n cl) n ((ordR d).map fun (x:Nat) => Value.int .i64 x)):=Zh (by
        have hnx:finE sk l=stN p (seqR d) (k + 1):=by rw [stN_next HIM.out.2.1,← SK.out.1]; unfold nextE; rw [ETO.out]
        have hlt:∀ b,(Value.slice Aav (stsN p d k).length cav).ownBlock=some b→w.heap.size≤b:=fun b hb => (own_lt G1.out.own hb).1
        rw [hnx,stsN_next] at hp
        refine ⟨⟨_,nb,hp,?_,rfl,(GQ.out.2.1.trans U10.out).trans' u1011 (fun x hx => .inr (hlt x (by simpa using hx))),fun i' hi' => ?_⟩,?_⟩
        ·rw [List.getElem?_append_right (by rw [G1.out.len,stsN_len]; exact Nat.le_refl _),G1.out.len,stsN_len,Nat.sub_self]; rfl
        ·by_cases e:i'=k
         ·rw [e]; exact HOK.out
         ·exact GQ.out.2.2 i' (by omega)
        ·have ow10:=own_upd0 G1.out.own U10.out
         have pl10:=KI.out.2.1.upd U10.out (by simp)
         have ol10:=own_upd0 KI.out.2.2 U10.out
         exact ⟨pl10.upd u1011 (fun hm => own_type ow10 pl10 (by decide) (by simpa using hm)),own_upd ol10 u1011 (fun b hb hm => own_apart ol10 ow10 (by decide) b hb (by simpa using hm))⟩)
       clear o11 u11 b11 u1011 hp
       go_wp2_with fail
       go_round
       case rel => exact ⟨k + 1,by simp,by have:=HIM.out.2.2.1; omega,NX⟩
       case measure => have:=HIM.out.2.2.1; simp [intOf]; omega
      ·have d2:decide (tlW w m=tl)=false:=by simpa using h2
       have HOK:Hid (okE p (stN p (seqR d) k) ((seqR d).getD k default)=false):=Zh (by rw [SQ.out,← SK.out.1,HE.out,E1.out]; simpa using fun e => h2 e.symm)
       rw [d2]
       clear d2 h2
       go_wp2_with fail
       go_ret3
       exact ⟨GQ.out.2.1.trans U10.out,.inr (.inl ⟨HCE.out.1,k,rep_some (by rw [HN.out.2.2.1]; exact HIM.out.2.2.1) GQ.out.2.2 HOK.out,rfl⟩)⟩
     ·have e1:(en != 1)=true:=by simpa using h1
      have HOK:Hid (okE p (stN p (seqR d) k) ((seqR d).getD k default)=false):=Zh (by rw [SQ.out,← SK.out.1,HE.out]; simp [h1])
      clear h1
      go_wp2_with fail
      go_ret3
      exact ⟨GQ.out.2.1.trans U9.out,.inr (.inl ⟨HCE.out.1,k,rep_some (by rw [HN.out.2.2.1]; exact HIM.out.2.2.1) GQ.out.2.2 HOK.out,rfl⟩)⟩
   ·have hki:¬ ((k:Int) < n):=by omega
    have hkn:n=k:=by omega
    obtain ⟨⟨fp,q,i1,i2,rfl,i4,i5⟩,i6⟩:=KI.out
    obtain ⟨Aav,cav,rfl,_,_⟩:=own_slice i1.own
    have FIN:Hid (StsR w.heap.size wr (.slice Aav (stsN p d k).length cav) (stsN p d d.length) fp∧repR p d=none∧Upd [] w wr):=Zh ⟨by rw [HN.out.2.2.1,hkn]; exact i1,rep_none (fun j hj => i5 j (by rw [HN.out.2.2.1] at hj; omega)),i4⟩
    clear i1 i2 i4 i5 i6 KI
    go_wp2_with fail
    go_ret3
    exact ⟨FIN.out.2.2,.inr (.inr ⟨HCE.out.1,FIN.out.2.1,_,_,rfl,FIN.out.1⟩)⟩
 ·have d0:(ce != 0)=true:=by simpa using h0
  have H0:=Zh h0
  clear h0
  go_wp2_with fail
  go_ret3
  exact ⟨U3.out,.inl ⟨by rw [HCE.out.1]; exact H0.out,by rw [HCE.out.1,HCE.out.2]; rfl⟩⟩
end Go.Proofs.YtmjnmpifibemjaaGreatDoor.Rt

/-
 concordref11.Run: one, but for wholes and ors.
-/
import Derived.Test.YtngflimegnnjlaaGreatDoorJsB19
import Derived.Test.YtngflimegnnjlaaGreatDoorJsB15
import Derived.Test.YtngflimegnnjlaaGreatDoorJsB14
import Derived.Test.YtngflimegnnjlaaGreatDoorJsB10
import Derived.BigRegion
import Derived.Test.YtngflimegnnjlaaGreatDoorJsB17
import Derived.Test.YtngflimegnnjlaaGreatDoorRows
import Derived.Test.YtngflimegnnjlaaGreatDoorJsB2
import Derived.Test.YtngflimegnnjlaaGreatDoorJsB4
import Derived.LaidMore
import Derived.LaidHandle
import Derived.Stop.Joined
set_option linter.unusedVariables false
set_option linter.unusedSimpArgs false
set_option maxRecDepth 100000
set_option maxHeartbeats 16000000
namespace Go.Proofs.YtngflimegnnjlaaGreatDoor.Rv
open Go.RowKit Assoc MP Ev
attribute [local go_sem] litStep_value
theorem one_set {H rb:Nat} {F:List Nat} {ks:List Int} {r:RS} {b e:List Stm} (c reg ar an br bn:Int) (vb ve:Value) (w:World) (hf:RF ks 9 c reg ar an br bn) (h:Rn H rb F ks w r) (ht:r.told.length + 201≤201 * r.steps) (hb:Stms w H vb b) (he:Stms w H ve e) (hH:H≤w.heap.size) :
 Calls Tryz.prog 47 #[.pointer (some ⟨rb,0,none⟩),.agg #[.int .i64 9,.int .i64 c,.int .i64 reg,.int .i64 ar,.int .i64 an,.int .i64 br,.int .i64 bn,vb,ve]] w (EvPR H rb F ks ({ r with regs:=r.regs.set reg.toNat (valV r ar an) },0) w):=by
 have HR:=Zh h
 have HB:=Zh hb
 have HE:=Zh he
 have HTB:=Zh ht
 have HAB:=Zh (And.intro hf.a hf.b)
 have HRF:=Zh hf
 have HHH:=Zh hH
 have XB:Hid (Blk (w.alloc (.cells #[.int .i64 9,.int .i64 c,.int .i64 reg,.int .i64 ar,.int .i64 an,.int .i64 br,.int .i64 bn,vb,ve] 61)) w.heap.size 61 #[.int .i64 9,.int .i64 c,.int .i64 reg,.int .i64 ar,.int .i64 an,.int .i64 br,.int .i64 bn,vb,ve]):=Zh (Blk.new w _ _)
 have UA:Hid (Upd [] w (w.alloc (.cells #[.int .i64 9,.int .i64 c,.int .i64 reg,.int .i64 ar,.int .i64 an,.int .i64 br,.int .i64 bn,vb,ve] 61))):=Zh ((Upd.refl [] w).alloc _)
 clear h ht hb he hH hf
 obtain ⟨x,hx⟩:∃ x,argV r ar an=x:=⟨_,rfl⟩
 have HAx:=Zh hx
 obtain ⟨z,hz⟩:∃ y,modI x 1000=y:=⟨_,rfl⟩
 have HMz:=Zh hz
 have HVz:Hid (valV r ar an=z):=Zh (by rw [← hz,← hx]; rfl)
 clear hx hz
 go_enter Tryz.func47,Tryz.ntmps47
 go_wp2_with fail
 generalize (w.alloc (.cells #[.int .i64 9,.int .i64 c,.int .i64 reg,.int .i64 ar,.int .i64 an,.int .i64 br,.int .i64 bn,vb,ve] 61))=w1 at *
 have CS:Hid (∀ W,Upd [] w1.drew W→W.cell? ⟨w.heap.size,2,none⟩=some (.int .i64 reg)∧W.cell? ⟨w.heap.size,3,none⟩=some (.int .i64 ar)∧W.cell? ⟨w.heap.size,4,none⟩=some (.int .i64 an)∧W.cell? ⟨w.heap.size,5,none⟩=some (.int .i64 br)∧W.cell? ⟨w.heap.size,6,none⟩=some (.int .i64 bn)):=Zh (fun W hW => by
  have hu:=(Upd.refl [] w1).drew.trans hW
  have hb:=XB.out.upd hu (by simp)
  exact ⟨hb.cell 2,hb.cell 3,hb.cell 4,hb.cell 5,hb.cell 6⟩)
 refine wp_invNT 8 [(6,.det (.int .i64 x)),(7,.det (.int .i64 z))] [] (by kernel_rfl) (by simp) (by kernel_rfl) (by kernel_rfl) ⟨lasts_det _,lasts_det _,trivial⟩ ?_
 simp only [List.take_succ_cons,List.take_zero,List.drop_succ_cons,List.drop_zero]
 iterate 6 (
  with_reducible apply wpV_light
  ·simp only [lightOp]
  ·intro W hU hF
   have f0:=CS.out W hU
   clear hU hF
   go_simp
   exact rfl
  simp only [aP])
 refine wpV_heavy (by simp only [lightOp]) (by rfl) (fun W hU hk hF K hK => ?_) ?_
 ·go_wp2_with fail
  refine (arg_r ar an W (HR.out.upd0 (UA.out.trans ((Upd.refl [] w1).drew.trans hU))) HAB.out.1).mono ?_
  rintro e' wx ⟨rfl,ux⟩
  go_wp2_with fail
  rw [HAx.out]
  exact hK.out _ _ (outV_new rfl rfl (by intro b hb; cases hb) ux)
 rintro _ rfl
 simp only [aP]
 refine wpV_heavy (by simp only [lightOp]) (by rfl) (fun W hU hk hF K hK => ?_) ?_
 ·go_wp2_with fail
  refine (mod_r x 1000 W (by omega) (by omega)).mono ?_
  rintro e' _ ⟨rfl,rfl⟩
  rw [HMz.out]
  go_wp2_with fail
  exact hK.out _ _ (outV_new rfl rfl (by intro b hb; cases hb) (.refl _ _))
 rintro _ rfl
 simp only [aP]
 refine wpV_end (fun W hU _ hF => ?_)
 have UX:Hid (Upd [] w W):=Zh (UA.out.trans ((Upd.refl [] w1).drew.trans hU))
 clear hU hF
 refine wpT_op (by rfl) (fun K hK => ?_)
 go_wp2_with fail
 refine (set_ok reg z W (HR.out.upd0 UX.out) HRF.out.hreg.1 HRF.out.hreg.2).mono ?_
 rintro e' w5 ⟨rfl,hp⟩
 have HP:=Zh (hp.pre UX.out)
 clear hp
 go_wp2_with fail
 refine hK.out _ _ ?_
 clear hK K
 try simp only [aP]
 refine wpT_end ?_
 go_wp2_with fail
 go_ret
 rw [HVz.out]
 exact ⟨rfl,HP.out,tb_le HTB.out⟩
theorem one_add {H rb:Nat} {F:List Nat} {ks:List Int} {r:RS} {b e:List Stm} (c reg ar an br bn:Int) (vb ve:Value) (w:World) (hf:RF ks 10 c reg ar an br bn) (h:Rn H rb F ks w r) (ht:r.told.length + 201≤201 * r.steps) (hb:Stms w H vb b) (he:Stms w H ve e) (hH:H≤w.heap.size) :
 Calls Tryz.prog 47 #[.pointer (some ⟨rb,0,none⟩),.agg #[.int .i64 10,.int .i64 c,.int .i64 reg,.int .i64 ar,.int .i64 an,.int .i64 br,.int .i64 bn,vb,ve]] w (EvPR H rb F ks ({ r with regs:=r.regs.set reg.toNat (modI (IntKind.i64.wrap (argV r ar an + argV r br bn)) 1000) },0) w):=by
 have HR:=Zh h
 have HB:=Zh hb
 have HE:=Zh he
 have HTB:=Zh ht
 have HAB:=Zh (And.intro hf.a hf.b)
 have HRF:=Zh hf
 have HHH:=Zh hH
 have XB:Hid (Blk (w.alloc (.cells #[.int .i64 10,.int .i64 c,.int .i64 reg,.int .i64 ar,.int .i64 an,.int .i64 br,.int .i64 bn,vb,ve] 61)) w.heap.size 61 #[.int .i64 10,.int .i64 c,.int .i64 reg,.int .i64 ar,.int .i64 an,.int .i64 br,.int .i64 bn,vb,ve]):=Zh (Blk.new w _ _)
 have UA:Hid (Upd [] w (w.alloc (.cells #[.int .i64 10,.int .i64 c,.int .i64 reg,.int .i64 ar,.int .i64 an,.int .i64 br,.int .i64 bn,vb,ve] 61))):=Zh ((Upd.refl [] w).alloc _)
 clear h ht hb he hH hf
 obtain ⟨x,hx⟩:∃ x,argV r ar an=x:=⟨_,rfl⟩
 have HAx:=Zh hx
 obtain ⟨y,hy⟩:∃ x,argV r br bn=x:=⟨_,rfl⟩
 have HAy:=Zh hy
 rw [hx,hy]
 obtain ⟨s,hs⟩:∃ s,IntKind.i64.wrap (x + y)=s:=⟨_,rfl⟩
 rw [hs]
 obtain ⟨m,hm⟩:∃ m,modI s 1000=m:=⟨_,rfl⟩
 have HMm:=Zh hm
 rw [hm]
 clear hx hy hm
 go_enter Tryz.func47,Tryz.ntmps47
 go_wp2_with fail
 generalize (w.alloc (.cells #[.int .i64 10,.int .i64 c,.int .i64 reg,.int .i64 ar,.int .i64 an,.int .i64 br,.int .i64 bn,vb,ve] 61))=w1 at *
 have CS:Hid (∀ W,Upd [] w1.drew W→W.cell? ⟨w.heap.size,2,none⟩=some (.int .i64 reg)∧W.cell? ⟨w.heap.size,3,none⟩=some (.int .i64 ar)∧W.cell? ⟨w.heap.size,4,none⟩=some (.int .i64 an)∧W.cell? ⟨w.heap.size,5,none⟩=some (.int .i64 br)∧W.cell? ⟨w.heap.size,6,none⟩=some (.int .i64 bn)):=Zh (fun W hW => by
  have hu:=(Upd.refl [] w1).drew.trans hW
  have hb:=XB.out.upd hu (by simp)
  exact ⟨hb.cell 2,hb.cell 3,hb.cell 4,hb.cell 5,hb.cell 6⟩)
 refine wp_invNT 13 [(6,.det (.int .i64 x)),(10,.det (.int .i64 y)),(12,.det (.int .i64 m))] [] (by kernel_rfl) (by simp) (by kernel_rfl) (by kernel_rfl) ⟨lasts_det _,lasts_det _,lasts_det _,trivial⟩ ?_
 simp only [List.take_succ_cons,List.take_zero,List.drop_succ_cons,List.drop_zero]
 iterate 6 (
  with_reducible apply wpV_light
  ·simp only [lightOp]
  ·intro W hU hF
   have f0:=CS.out W hU
   clear hU hF
   go_simp
   exact rfl
  simp only [aP])
 refine wpV_heavy (by simp only [lightOp]) (by rfl) (fun W hU hk hF K hK => ?_) ?_
 ·go_wp2_with fail
  refine (arg_r ar an W (HR.out.upd0 (UA.out.trans ((Upd.refl [] w1).drew.trans hU))) HAB.out.1).mono ?_
  rintro e' wx ⟨rfl,ux⟩
  go_wp2_with fail
  rw [HAx.out]
  exact hK.out _ _ (outV_new rfl rfl (by intro b hb; cases hb) ux)
 rintro _ rfl
 simp only [aP]
 iterate 3 (
  with_reducible apply wpV_light
  ·simp only [lightOp]
  ·intro W hU hF
   have f0:=CS.out W hU
   clear hU hF
   go_simp
   exact rfl
  simp only [aP])
 refine wpV_heavy (by simp only [lightOp]) (by rfl) (fun W hU hk hF K hK => ?_) ?_
 ·go_wp2_with fail
  refine (arg_r br bn W (HR.out.upd0 (UA.out.trans ((Upd.refl [] w1).drew.trans hU))) HAB.out.2).mono ?_
  rintro e' wx ⟨rfl,ux⟩
  go_wp2_with fail
  rw [HAy.out]
  exact hK.out _ _ (outV_new rfl rfl (by intro b hb; cases hb) ux)
 rintro _ rfl
 simp only [aP]
 with_reducible apply wpV_light
 ·simp only [lightOp]
 ·intro W hU hF
  have f0:=CS.out W hU
  clear hU hF
  go_simp
  exact rfl
 simp only [aP]
 refine wpV_heavy (by simp only [lightOp]) (by rfl) (fun W hU hk hF K hK => ?_) ?_
 ·go_wp2_with fail
  refine (mod_r s 1000 W (by omega) (by omega)).mono ?_
  rintro e' _ ⟨rfl,rfl⟩
  rw [HMm.out]
  go_wp2_with fail
  exact hK.out _ _ (outV_new rfl rfl (by intro b hb; cases hb) (.refl _ _))
 rintro _ rfl
 simp only [aP]
 refine wpV_end (fun W hU _ hF => ?_)
 have UX:Hid (Upd [] w W):=Zh (UA.out.trans ((Upd.refl [] w1).drew.trans hU))
 clear hU hF
 refine wpT_op (by rfl) (fun K hK => ?_)
 go_wp2_with fail
 refine (set_ok reg m W (HR.out.upd0 UX.out) HRF.out.hreg.1 HRF.out.hreg.2).mono ?_
 rintro e' w5 ⟨rfl,hp⟩
 have HP:=Zh (hp.pre UX.out)
 clear hp
 go_wp2_with fail
 refine hK.out _ _ ?_
 clear hK K
 try simp only [aP]
 refine wpT_end ?_
 go_wp2_with fail
 go_ret
 exact ⟨rfl,HP.out,tb_le HTB.out⟩
theorem one_then {H rb:Nat} {F:List Nat} {ks:List Int} {r:RS} {b e:List Stm} (c reg ar an br bn:Int) (vb ve:Value) (w:World) (hf:RF ks 11 c reg ar an br bn) (h:Rn H rb F ks w r) (ht:r.told.length + 201≤201 * r.steps) (hb:Stms w H vb b) (he:Stms w H ve e) (hH:H≤w.heap.size) (hab:AllR ks b) (hv:valV r ar an < valV r br bn) :
 Calls Tryz.prog 47 #[.pointer (some ⟨rb,0,none⟩),.agg #[.int .i64 11,.int .i64 c,.int .i64 reg,.int .i64 ar,.int .i64 an,.int .i64 br,.int .i64 bn,vb,ve]] w (EvPR H rb F ks (evL b r) w):=by
 have HR:=Zh h
 have HB:=Zh hb
 have HE:=Zh he
 have HTB:=Zh ht
 have HAB:=Zh (And.intro hf.a hf.b)
 have HRF:=Zh hf
 have HHH:=Zh hH
 have XB:Hid (Blk (w.alloc (.cells #[.int .i64 11,.int .i64 c,.int .i64 reg,.int .i64 ar,.int .i64 an,.int .i64 br,.int .i64 bn,vb,ve] 61)) w.heap.size 61 #[.int .i64 11,.int .i64 c,.int .i64 reg,.int .i64 ar,.int .i64 an,.int .i64 br,.int .i64 bn,vb,ve]):=Zh (Blk.new w _ _)
 have UA:Hid (Upd [] w (w.alloc (.cells #[.int .i64 11,.int .i64 c,.int .i64 reg,.int .i64 ar,.int .i64 an,.int .i64 br,.int .i64 bn,vb,ve] 61))):=Zh ((Upd.refl [] w).alloc _)
 clear h ht hb he hH hf
 obtain ⟨x,hx⟩:∃ x,argV r ar an=x:=⟨_,rfl⟩
 have HAx:=Zh hx
 obtain ⟨z,hz⟩:∃ y,modI x 1000=y:=⟨_,rfl⟩
 have HMz:=Zh hz
 have HVz:Hid (valV r ar an=z):=Zh (by rw [← hz,← hx]; rfl)
 clear hx hz
 obtain ⟨x2,hx2⟩:∃ x,argV r br bn=x:=⟨_,rfl⟩
 have HAx2:=Zh hx2
 obtain ⟨z2,hz2⟩:∃ y,modI x2 1000=y:=⟨_,rfl⟩
 have HMz2:=Zh hz2
 have HVz2:Hid (valV r br bn=z2):=Zh (by rw [← hz2,← hx2]; rfl)
 clear hx2 hz2
 go_enter Tryz.func47,Tryz.ntmps47
 go_wp2_with fail
 generalize (w.alloc (.cells #[.int .i64 11,.int .i64 c,.int .i64 reg,.int .i64 ar,.int .i64 an,.int .i64 br,.int .i64 bn,vb,ve] 61))=w1 at *
 have CS:Hid (∀ W,Upd [] w1.drew W→W.cell? ⟨w.heap.size,2,none⟩=some (.int .i64 reg)∧W.cell? ⟨w.heap.size,3,none⟩=some (.int .i64 ar)∧W.cell? ⟨w.heap.size,4,none⟩=some (.int .i64 an)∧W.cell? ⟨w.heap.size,5,none⟩=some (.int .i64 br)∧W.cell? ⟨w.heap.size,6,none⟩=some (.int .i64 bn)):=Zh (fun W hW => by
  have hu:=(Upd.refl [] w1).drew.trans hW
  have hb:=XB.out.upd hu (by simp)
  exact ⟨hb.cell 2,hb.cell 3,hb.cell 4,hb.cell 5,hb.cell 6⟩)
 refine wp_invN [(3,.det (.int .i64 x)),(4,.det (.int .i64 z)),(8,.det (.int .i64 x2)),(9,.det (.int .i64 z2))] [] (by kernel_rfl) (by kernel_rfl) (by kernel_rfl) ⟨lasts_det _,lasts_det _,lasts_det _,lasts_det _,trivial⟩ ?_
 iterate 3 (
  with_reducible apply wpV_light
  ·simp only [lightOp]
  ·intro W hU hF
   have f0:=CS.out W hU
   clear hU hF
   go_simp
   exact rfl
  simp only [aP])
 refine wpV_heavy (by simp only [lightOp]) (by rfl) (fun W hU hk hF K hK => ?_) ?_
 ·go_wp2_with fail
  refine (arg_r ar an W (HR.out.upd0 (UA.out.trans ((Upd.refl [] w1).drew.trans hU))) HAB.out.1).mono ?_
  rintro e' wx ⟨rfl,ux⟩
  go_wp2_with fail
  rw [HAx.out]
  exact hK.out _ _ (outV_new rfl rfl (by intro b hb; cases hb) ux)
 rintro _ rfl
 simp only [aP]
 refine wpV_heavy (by simp only [lightOp]) (by rfl) (fun W hU hk hF K hK => ?_) ?_
 ·go_wp2_with fail
  refine (mod_r x 1000 W (by omega) (by omega)).mono ?_
  rintro e' _ ⟨rfl,rfl⟩
  rw [HMz.out]
  go_wp2_with fail
  exact hK.out _ _ (outV_new rfl rfl (by intro b hb; cases hb) (.refl _ _))
 rintro _ rfl
 simp only [aP]
 iterate 3 (
  with_reducible apply wpV_light
  ·simp only [lightOp]
  ·intro W hU hF
   have f0:=CS.out W hU
   clear hU hF
   go_simp
   exact rfl
  simp only [aP])
 refine wpV_heavy (by simp only [lightOp]) (by rfl) (fun W hU hk hF K hK => ?_) ?_
 ·go_wp2_with fail
  refine (arg_r br bn W (HR.out.upd0 (UA.out.trans ((Upd.refl [] w1).drew.trans hU))) HAB.out.2).mono ?_
  rintro e' wx ⟨rfl,ux⟩
  go_wp2_with fail
  rw [HAx2.out]
  exact hK.out _ _ (outV_new rfl rfl (by intro b hb; cases hb) ux)
 rintro _ rfl
 simp only [aP]
 refine wpV_heavy (by simp only [lightOp]) (by rfl) (fun W hU hk hF K hK => ?_) ?_
 ·go_wp2_with fail
  refine (mod_r x2 1000 W (by omega) (by omega)).mono ?_
  rintro e' _ ⟨rfl,rfl⟩
  rw [HMz2.out]
  go_wp2_with fail
  exact hK.out _ _ (outV_new rfl rfl (by intro b hb; cases hb) (.refl _ _))
 rintro _ rfl
 simp only [aP]
 with_reducible apply wpV_light
 ·simp only [lightOp]
 ·intro W hU hF
  have f0:=CS.out W hU
  clear hU hF
  go_simp
  exact rfl
 simp only [aP]
 refine wpV_end (fun W hU _ hF => ?_)
 have UX:Hid (Upd [] w W):=Zh (UA.out.trans ((Upd.refl [] w1).drew.trans hU))
 have BX:=Zh (XB.out.upd ((Upd.refl [] w1).drew.trans hU) (by simp))
 clear hU hF
 refine wpT_end ?_
 have e7:W.cell? ⟨w.heap.size,7,none⟩=some vb:=BX.out.cell 7
 have d1:decide (z < z2)=true:=by simpa [HVz.out,HVz2.out] using hv
 have HC:=Zh (hab H rb F vb r W (HR.out.upd0 UX.out) (tb_le HTB.out) (HB.out.belowW (UX.out.below HHH.out (by simp))) (Nat.le_trans HHH.out UX.out.size))
 clear hab hv
 rw [d1]
 clear d1
 go_wp2_with fail
 refine HC.out.mono ?_
 rintro e' w5 ⟨rfl,hp⟩
 have HP:=Zh (EvPR.pre ⟨rfl,hp⟩ UX.out)
 clear hp
 go_wp2_with fail
 go_ret
 exact HP.out
theorem one_else {H rb:Nat} {F:List Nat} {ks:List Int} {r:RS} {b e:List Stm} (c reg ar an br bn:Int) (vb ve:Value) (w:World) (hf:RF ks 11 c reg ar an br bn) (h:Rn H rb F ks w r) (ht:r.told.length + 201≤201 * r.steps) (hb:Stms w H vb b) (he:Stms w H ve e) (hH:H≤w.heap.size) (hab:AllR ks e) (hv:¬ valV r ar an < valV r br bn) :
 Calls Tryz.prog 47 #[.pointer (some ⟨rb,0,none⟩),.agg #[.int .i64 11,.int .i64 c,.int .i64 reg,.int .i64 ar,.int .i64 an,.int .i64 br,.int .i64 bn,vb,ve]] w (EvPR H rb F ks (evL e r) w):=by
 have HR:=Zh h
 have HB:=Zh hb
 have HE:=Zh he
 have HTB:=Zh ht
 have HAB:=Zh (And.intro hf.a hf.b)
 have HRF:=Zh hf
 have HHH:=Zh hH
 have XB:Hid (Blk (w.alloc (.cells #[.int .i64 11,.int .i64 c,.int .i64 reg,.int .i64 ar,.int .i64 an,.int .i64 br,.int .i64 bn,vb,ve] 61)) w.heap.size 61 #[.int .i64 11,.int .i64 c,.int .i64 reg,.int .i64 ar,.int .i64 an,.int .i64 br,.int .i64 bn,vb,ve]):=Zh (Blk.new w _ _)
 have UA:Hid (Upd [] w (w.alloc (.cells #[.int .i64 11,.int .i64 c,.int .i64 reg,.int .i64 ar,.int .i64 an,.int .i64 br,.int .i64 bn,vb,ve] 61))):=Zh ((Upd.refl [] w).alloc _)
 clear h ht hb he hH hf
 obtain ⟨x,hx⟩:∃ x,argV r ar an=x:=⟨_,rfl⟩
 have HAx:=Zh hx
 obtain ⟨z,hz⟩:∃ y,modI x 1000=y:=⟨_,rfl⟩
 have HMz:=Zh hz
 have HVz:Hid (valV r ar an=z):=Zh (by rw [← hz,← hx]; rfl)
 clear hx hz
 obtain ⟨x2,hx2⟩:∃ x,argV r br bn=x:=⟨_,rfl⟩
 have HAx2:=Zh hx2
 obtain ⟨z2,hz2⟩:∃ y,modI x2 1000=y:=⟨_,rfl⟩
 have HMz2:=Zh hz2
 have HVz2:Hid (valV r br bn=z2):=Zh (by rw [← hz2,← hx2]; rfl)
 clear hx2 hz2
 go_enter Tryz.func47,Tryz.ntmps47
 go_wp2_with fail
 generalize (w.alloc (.cells #[.int .i64 11,.int .i64 c,.int .i64 reg,.int .i64 ar,.int .i64 an,.int .i64 br,.int .i64 bn,vb,ve] 61))=w1 at *
 have CS:Hid (∀ W,Upd [] w1.drew W→W.cell? ⟨w.heap.size,2,none⟩=some (.int .i64 reg)∧W.cell? ⟨w.heap.size,3,none⟩=some (.int .i64 ar)∧W.cell? ⟨w.heap.size,4,none⟩=some (.int .i64 an)∧W.cell? ⟨w.heap.size,5,none⟩=some (.int .i64 br)∧W.cell? ⟨w.heap.size,6,none⟩=some (.int .i64 bn)):=Zh (fun W hW => by
  have hu:=(Upd.refl [] w1).drew.trans hW
  have hb:=XB.out.upd hu (by simp)
  exact ⟨hb.cell 2,hb.cell 3,hb.cell 4,hb.cell 5,hb.cell 6⟩)
 refine wp_invN [(3,.det (.int .i64 x)),(4,.det (.int .i64 z)),(8,.det (.int .i64 x2)),(9,.det (.int .i64 z2))] [] (by kernel_rfl) (by kernel_rfl) (by kernel_rfl) ⟨lasts_det _,lasts_det _,lasts_det _,lasts_det _,trivial⟩ ?_
 iterate 3 (
  with_reducible apply wpV_light
  ·simp only [lightOp]
  ·intro W hU hF
   have f0:=CS.out W hU
   clear hU hF
   go_simp
   exact rfl
  simp only [aP])
 refine wpV_heavy (by simp only [lightOp]) (by rfl) (fun W hU hk hF K hK => ?_) ?_
 ·go_wp2_with fail
  refine (arg_r ar an W (HR.out.upd0 (UA.out.trans ((Upd.refl [] w1).drew.trans hU))) HAB.out.1).mono ?_
  rintro e' wx ⟨rfl,ux⟩
  go_wp2_with fail
  rw [HAx.out]
  exact hK.out _ _ (outV_new rfl rfl (by intro b hb; cases hb) ux)
 rintro _ rfl
 simp only [aP]
 refine wpV_heavy (by simp only [lightOp]) (by rfl) (fun W hU hk hF K hK => ?_) ?_
 ·go_wp2_with fail
  refine (mod_r x 1000 W (by omega) (by omega)).mono ?_
  rintro e' _ ⟨rfl,rfl⟩
  rw [HMz.out]
  go_wp2_with fail
  exact hK.out _ _ (outV_new rfl rfl (by intro b hb; cases hb) (.refl _ _))
 rintro _ rfl
 simp only [aP]
 iterate 3 (
  with_reducible apply wpV_light
  ·simp only [lightOp]
  ·intro W hU hF
   have f0:=CS.out W hU
   clear hU hF
   go_simp
   exact rfl
  simp only [aP])
 refine wpV_heavy (by simp only [lightOp]) (by rfl) (fun W hU hk hF K hK => ?_) ?_
 ·go_wp2_with fail
  refine (arg_r br bn W (HR.out.upd0 (UA.out.trans ((Upd.refl [] w1).drew.trans hU))) HAB.out.2).mono ?_
  rintro e' wx ⟨rfl,ux⟩
  go_wp2_with fail
  rw [HAx2.out]
  exact hK.out _ _ (outV_new rfl rfl (by intro b hb; cases hb) ux)
 rintro _ rfl
 simp only [aP]
 refine wpV_heavy (by simp only [lightOp]) (by rfl) (fun W hU hk hF K hK => ?_) ?_
 ·go_wp2_with fail
  refine (mod_r x2 1000 W (by omega) (by omega)).mono ?_
  rintro e' _ ⟨rfl,rfl⟩
  rw [HMz2.out]
  go_wp2_with fail
  exact hK.out _ _ (outV_new rfl rfl (by intro b hb; cases hb) (.refl _ _))
 rintro _ rfl
 simp only [aP]
 with_reducible apply wpV_light
 ·simp only [lightOp]
 ·intro W hU hF
  have f0:=CS.out W hU
  clear hU hF
  go_simp
  exact rfl
 simp only [aP]
 refine wpV_end (fun W hU _ hF => ?_)
 have UX:Hid (Upd [] w W):=Zh (UA.out.trans ((Upd.refl [] w1).drew.trans hU))
 have BX:=Zh (XB.out.upd ((Upd.refl [] w1).drew.trans hU) (by simp))
 clear hU hF
 refine wpT_end ?_
 have e7:W.cell? ⟨w.heap.size,8,none⟩=some ve:=BX.out.cell 8
 have d1:decide (z < z2)=false:=by simpa [HVz.out,HVz2.out] using hv
 have HC:=Zh (hab H rb F ve r W (HR.out.upd0 UX.out) (tb_le HTB.out) (HE.out.belowW (UX.out.below HHH.out (by simp))) (Nat.le_trans HHH.out UX.out.size))
 clear hab hv
 rw [d1]
 clear d1
 go_wp2_with fail
 refine HC.out.mono ?_
 rintro e' w5 ⟨rfl,hp⟩
 have HP:=Zh (EvPR.pre ⟨rfl,hp⟩ UX.out)
 clear hp
 go_wp2_with fail
 go_ret
 exact HP.out
theorem one_retry {H rb:Nat} {F:List Nat} {ks:List Int} {r:RS} {b e:List Stm} (c reg ar an br bn:Int) (vb ve:Value) (w:World) (hf:RF ks 15 c reg ar an br bn) (h:Rn H rb F ks w r) (ht:r.told.length + 201≤201 * r.steps) (hb:Stms w H vb b) (he:Stms w H ve e) (hH:H≤w.heap.size) :
 Calls Tryz.prog 47 #[.pointer (some ⟨rb,0,none⟩),.agg #[.int .i64 15,.int .i64 c,.int .i64 reg,.int .i64 ar,.int .i64 an,.int .i64 br,.int .i64 bn,vb,ve]] w (EvPR H rb F ks (r,3) w):=by
 have HR:=Zh h
 have HB:=Zh hb
 have HE:=Zh he
 have HTB:=Zh ht
 have HAB:=Zh (And.intro hf.a hf.b)
 have HRF:=Zh hf
 have HHH:=Zh hH
 have XB:Hid (Blk (w.alloc (.cells #[.int .i64 15,.int .i64 c,.int .i64 reg,.int .i64 ar,.int .i64 an,.int .i64 br,.int .i64 bn,vb,ve] 61)) w.heap.size 61 #[.int .i64 15,.int .i64 c,.int .i64 reg,.int .i64 ar,.int .i64 an,.int .i64 br,.int .i64 bn,vb,ve]):=Zh (Blk.new w _ _)
 have UA:Hid (Upd [] w (w.alloc (.cells #[.int .i64 15,.int .i64 c,.int .i64 reg,.int .i64 ar,.int .i64 an,.int .i64 br,.int .i64 bn,vb,ve] 61))):=Zh ((Upd.refl [] w).alloc _)
 clear h ht hb he hH hf
 go_enter Tryz.func47,Tryz.ntmps47
 go_wp2_with fail
 generalize (w.alloc (.cells #[.int .i64 15,.int .i64 c,.int .i64 reg,.int .i64 ar,.int .i64 an,.int .i64 br,.int .i64 bn,vb,ve] 61))=w1 at *
 go_ret
 exact ⟨rfl,⟨F,HR.out.upd0 UA.out,(Frm.refl _ _).pre UA.out⟩,tb_le HTB.out⟩
theorem one_abort {H rb:Nat} {F:List Nat} {ks:List Int} {r:RS} {b e:List Stm} (c reg ar an br bn:Int) (vb ve:Value) (w:World) (hf:RF ks 16 c reg ar an br bn) (h:Rn H rb F ks w r) (ht:r.told.length + 201≤201 * r.steps) (hb:Stms w H vb b) (he:Stms w H ve e) (hH:H≤w.heap.size) :
 Calls Tryz.prog 47 #[.pointer (some ⟨rb,0,none⟩),.agg #[.int .i64 16,.int .i64 c,.int .i64 reg,.int .i64 ar,.int .i64 an,.int .i64 br,.int .i64 bn,vb,ve]] w (EvPR H rb F ks (r,2) w):=by
 have HR:=Zh h
 have HB:=Zh hb
 have HE:=Zh he
 have HTB:=Zh ht
 have HAB:=Zh (And.intro hf.a hf.b)
 have HRF:=Zh hf
 have HHH:=Zh hH
 have XB:Hid (Blk (w.alloc (.cells #[.int .i64 16,.int .i64 c,.int .i64 reg,.int .i64 ar,.int .i64 an,.int .i64 br,.int .i64 bn,vb,ve] 61)) w.heap.size 61 #[.int .i64 16,.int .i64 c,.int .i64 reg,.int .i64 ar,.int .i64 an,.int .i64 br,.int .i64 bn,vb,ve]):=Zh (Blk.new w _ _)
 have UA:Hid (Upd [] w (w.alloc (.cells #[.int .i64 16,.int .i64 c,.int .i64 reg,.int .i64 ar,.int .i64 an,.int .i64 br,.int .i64 bn,vb,ve] 61))):=Zh ((Upd.refl [] w).alloc _)
 clear h ht hb he hH hf
 go_enter Tryz.func47,Tryz.ntmps47
 go_wp2_with fail
 generalize (w.alloc (.cells #[.int .i64 16,.int .i64 c,.int .i64 reg,.int .i64 ar,.int .i64 an,.int .i64 br,.int .i64 bn,vb,ve] 61))=w1 at *
 go_ret
 exact ⟨rfl,⟨F,HR.out.upd0 UA.out,(Frm.refl _ _).pre UA.out⟩,tb_le HTB.out⟩
theorem one_ask {H rb:Nat} {F:List Nat} {ks:List Int} {r:RS} {b e:List Stm} (k c reg ar an br bn:Int) (vb ve:Value) (w:World) (hf:RF ks k c reg ar an br bn) (h:Rn H rb F ks w r) (ht:r.told.length + 201≤201 * r.steps) (hb:Stms w H vb b) (he:Stms w H ve e) (hH:H≤w.heap.size) (hk:k≤8) :
 Calls Tryz.prog 47 #[.pointer (some ⟨rb,0,none⟩),.agg #[.int .i64 k,.int .i64 c,.int .i64 reg,.int .i64 ar,.int .i64 an,.int .i64 br,.int .i64 bn,vb,ve]] w (EvPR H rb F ks (askR k c reg ar an br bn r) w):=by
 have HR:=Zh h
 have HB:=Zh hb
 have HE:=Zh he
 have HTB:=Zh ht
 have HAB:=Zh (And.intro hf.a hf.b)
 have HRF:=Zh hf
 have HHH:=Zh hH
 have XB:Hid (Blk (w.alloc (.cells #[.int .i64 k,.int .i64 c,.int .i64 reg,.int .i64 ar,.int .i64 an,.int .i64 br,.int .i64 bn,vb,ve] 61)) w.heap.size 61 #[.int .i64 k,.int .i64 c,.int .i64 reg,.int .i64 ar,.int .i64 an,.int .i64 br,.int .i64 bn,vb,ve]):=Zh (Blk.new w _ _)
 have UA:Hid (Upd [] w (w.alloc (.cells #[.int .i64 k,.int .i64 c,.int .i64 reg,.int .i64 ar,.int .i64 an,.int .i64 br,.int .i64 bn,vb,ve] 61))):=Zh ((Upd.refl [] w).alloc _)
 clear h ht hb he hH hf
 have HK8:=Zh hk
 have d9:(k == 9)=false:=by simp; omega
 have d10:(k == 10)=false:=by simp; omega
 have d11:(k == 11)=false:=by simp; omega
 have d12:(k == 12)=false:=by simp; omega
 have d13:(k == 13)=false:=by simp; omega
 have d14:(k == 14)=false:=by simp; omega
 have d15:(k == 15)=false:=by simp; omega
 have d16:(k == 16)=false:=by simp; omega
 clear hk
 go_enter Tryz.func47,Tryz.ntmps47
 go_wp2_with fail
 generalize (w.alloc (.cells #[.int .i64 k,.int .i64 c,.int .i64 reg,.int .i64 ar,.int .i64 an,.int .i64 br,.int .i64 bn,vb,ve] 61))=w1 at *
 have HC:=Zh (ask_r k c reg ar an br bn vb ve w1 HK8.out HRF.out (HR.out.upd0 UA.out) HTB.out)
 refine HC.out.mono ?_
 rintro e' w4 ⟨rfl,hp⟩
 have HP:=Zh (EvPR.pre ⟨rfl,hp⟩ UA.out)
 clear hp HC
 go_wp2_with fail
 go_ret
 exact HP.out
theorem one_loop {H rb:Nat} {F:List Nat} {ks:List Int} {r:RS} {b e:List Stm} (c reg ar an br bn:Int) (vb ve:Value) (w:World) (hf:RF ks 12 c reg ar an br bn) (h:Rn H rb F ks w r) (ht:r.told.length + 201≤201 * r.steps) (hb:Stms w H vb b) (he:Stms w H ve e) (hH:H≤w.heap.size) (hab:AllR ks b) :
 Calls Tryz.prog 47 #[.pointer (some ⟨rb,0,none⟩),.agg #[.int .i64 12,.int .i64 c,.int .i64 reg,.int .i64 ar,.int .i64 an,.int .i64 br,.int .i64 bn,vb,ve]] w (EvPR H rb F ks (iterR (evL b) an.toNat r) w):=by
 have HR:=Zh h
 have HB:=Zh hb
 have HE:=Zh he
 have HTB:=Zh ht
 have HAB:=Zh (And.intro hf.a hf.b)
 have HRF:=Zh hf
 have HHH:=Zh hH
 have XB:Hid (Blk (w.alloc (.cells #[.int .i64 12,.int .i64 c,.int .i64 reg,.int .i64 ar,.int .i64 an,.int .i64 br,.int .i64 bn,vb,ve] 61)) w.heap.size 61 #[.int .i64 12,.int .i64 c,.int .i64 reg,.int .i64 ar,.int .i64 an,.int .i64 br,.int .i64 bn,vb,ve]):=Zh (Blk.new w _ _)
 have UA:Hid (Upd [] w (w.alloc (.cells #[.int .i64 12,.int .i64 c,.int .i64 reg,.int .i64 ar,.int .i64 an,.int .i64 br,.int .i64 bn,vb,ve] 61))):=Zh ((Upd.refl [] w).alloc _)
 clear h ht hb he hH hf
 have HA:=Zh hab
 obtain ⟨har,han,han5⟩:=HRF.out.loop rfl
 obtain ⟨n,rfl⟩:∃ n:Nat,an=n:=⟨an.toNat,by omega⟩
 rw [Int.toNat_natCast]
 obtain ⟨X,hX⟩:∃ X,iterR (evL b) n r=X:=⟨_,rfl⟩
 have HX:=Zh hX
 rw [hX]
 have hn5:n≤5:=by omega
 have HLT:Hid (∀ k ∈ F,H≤k∧k < w.heap.size):=Zh HR.out.lt
 clear har han han5 hX hab
 have S0:Hid (∃ Fk rk,Rn H rb Fk ks (w.alloc (.cells #[.int .i64 12,.int .i64 c,.int .i64 reg,.int .i64 ar,.int .i64 n,.int .i64 br,.int .i64 bn,vb,ve] 61)) rk∧Frm F Fk (w.alloc (.cells #[.int .i64 12,.int .i64 c,.int .i64 reg,.int .i64 ar,.int .i64 n,.int .i64 br,.int .i64 bn,vb,ve] 61)) (w.alloc (.cells #[.int .i64 12,.int .i64 c,.int .i64 reg,.int .i64 ar,.int .i64 n,.int .i64 br,.int .i64 bn,vb,ve] 61))∧TB rk∧X=iterR (evL b) (n - 0) rk):=Zh ⟨F,r,HR.out.upd0 UA.out,Frm.refl _ _,tb_le HTB.out,HX.out.symm⟩
 go_enter Tryz.func47,Tryz.ntmps47
 go_wp2_with fail
 generalize (w.alloc (.cells #[.int .i64 12,.int .i64 c,.int .i64 reg,.int .i64 ar,.int .i64 n,.int .i64 br,.int .i64 bn,vb,ve] 61))=w1 at *
 go_loopw [5] (fun i wr => ∃ k:Nat,i=.int .i64 k∧k≤n∧Hid (∃ Fk rk,Rn H rb Fk ks wr rk∧Frm F Fk w1 wr∧TB rk∧X=iterR (evL b) (n - k) rk)) (fun i _ => n - (intOf i).toNat)
 case atStart => exact ⟨0,rfl,by omega,S0⟩
 case round =>
  obtain ⟨k,rfl,hk,HK⟩:=hrel
  rename World => wr
  obtain ⟨Fk,rk,hr,hf,ht,he⟩:=HK.out
  have HBX:=Zh (XB.out.upd hf.upd (fun hm => by have:=HLT.out _ hm; omega))
  have e4:wr.cell? ⟨w.heap.size,4,none⟩=some (.int .i64 n):=HBX.out.cell 4
  by_cases hkn:k < n
  ·rw [show n - k=(n - (k + 1)) + 1 by omega,iterR_succ] at he
   have HEV:=Zh he
   have HFR:=Zh hf
   have UW:Hid (Below H w wr):=Zh (by
    have h1:=UA.out.below HHH.out (by simp)
    have h2:=hf.upd.below (Nat.le_trans HHH.out UA.out.size) (fun k hk => (HLT.out k hk).1)
    exact h1.trans h2)
   have e7:wr.cell? ⟨w.heap.size,7,none⟩=some vb:=HBX.out.cell 7
   have HC:=Zh (HA.out H rb Fk vb rk wr hr ht (HB.out.belowW UW.out) (Nat.le_trans HHH.out (Nat.le_trans UA.out.size hf.upd.size)))
   clear hr hf ht he HK
   go_wp2_with fail
   refine HC.out.mono ?_
   rintro e' w5 ⟨rfl,⟨F5,h5,f5⟩,t5⟩
   have H5:=Zh h5
   have T5:=Zh t5
   have G5:=Zh (HFR.out.trans f5)
   clear h5 f5 t5 HC e7 e4
   obtain ⟨EV,hEV⟩:∃ EV,evL b rk=EV:=⟨_,rfl⟩
   rw [hEV] at H5 T5 HEV ⊢
   obtain ⟨EV1,EV2⟩:=EV
   simp only at H5 T5 HEV ⊢
   clear hEV
   by_cases h0:EV2=0
   ·have HY:Hid (X=iterR (evL b) (n - (k + 1)) EV1):=Zh (by rw [HEV.out,if_pos h0])
    subst h0
    go_wp2_with fail
    go_roundw
    case rel => exact ⟨k + 1,by go_num,by omega,Zh ⟨F5,EV1,H5.out,G5.out,T5.out,HY.out⟩⟩
    case measure => simp [intOf]; omega
   ·have HY:Hid (X=(EV1,EV2)):=Zh (by rw [HEV.out,if_neg h0])
    have d0:(EV2 != 0)=true:=by simpa using h0
    clear h0
    go_wp2_with fail
    go_ret
    rw [HY.out]
    exact EvPR.pre ⟨rfl,⟨F5,H5.out,G5.out⟩,T5.out⟩ UA.out
  ·obtain rfl:k=n:=by omega
   rw [Nat.sub_self,iterR_zero] at he
   have HQ:=Zh (And.intro hr (And.intro hf (And.intro ht he)))
   clear hr hf ht he HK
   go_wp2_with fail
   go_ret
   rw [HQ.out.2.2.2]
   exact EvPR.pre ⟨rfl,⟨Fk,HQ.out.1,HQ.out.2.1⟩,HQ.out.2.2.1⟩ UA.out
end Go.Proofs.YtngflimegnnjlaaGreatDoor.Rv
namespace Go.Proofs.YtngflimegnnjlaaGreatDoor.Rv
open Go.RowKit Assoc MP Ev
attribute [local go_sem] litStep_value
theorem one_atomic {H rb:Nat} {F:List Nat} {ks:List Int} {r:RS} {b e:List Stm} (c reg ar an br bn:Int) (vb ve:Value) (w:World) (hf:RF ks 13 c reg ar an br bn) (h:Rn H rb F ks w r) (ht:r.told.length + 201≤201 * r.steps) (hb:Stms w H vb b) (he:Stms w H ve e) (hH:H≤w.heap.size) (hab:AllR ks b) :
 Calls Tryz.prog 47 #[.pointer (some ⟨rb,0,none⟩),.agg #[.int .i64 13,.int .i64 c,.int .i64 reg,.int .i64 ar,.int .i64 an,.int .i64 br,.int .i64 bn,vb,ve]] w (EvPR H rb F ks (if (evL b r).2=2 then ({ (evL b r).1 with s:=r.s },0) else evL b r) w):=by
 have HR:=Zh h
 have HB:=Zh hb
 have HE:=Zh he
 have HTB:=Zh ht
 have HAB:=Zh (And.intro hf.a hf.b)
 have HRF:=Zh hf
 have HHH:=Zh hH
 have XB:Hid (Blk (w.alloc (.cells #[.int .i64 13,.int .i64 c,.int .i64 reg,.int .i64 ar,.int .i64 an,.int .i64 br,.int .i64 bn,vb,ve] 61)) w.heap.size 61 #[.int .i64 13,.int .i64 c,.int .i64 reg,.int .i64 ar,.int .i64 an,.int .i64 br,.int .i64 bn,vb,ve]):=Zh (Blk.new w _ _)
 have UA:Hid (Upd [] w (w.alloc (.cells #[.int .i64 13,.int .i64 c,.int .i64 reg,.int .i64 ar,.int .i64 an,.int .i64 br,.int .i64 bn,vb,ve] 61))):=Zh ((Upd.refl [] w).alloc _)
 clear h ht hb he hH hf
 have HA:=Zh hab
 obtain ⟨sb,vt,hF,hrs⟩:=HR.out
 have HFE:Hid ([rb,sb]=F):=Zh hF.symm
 have HRS:=Zh hrs
 have HLT:Hid (∀ k ∈ F,H≤k∧k < w.heap.size):=Zh HR.out.lt
 obtain ⟨X,hX⟩:∃ X,evL b r=X:=⟨_,rfl⟩
 have HX:=Zh hX
 rw [hX]
 obtain ⟨Y,hY⟩:∃ Y,(if X.2=2 then ({ X.1 with s:=r.s },0) else X)=Y:=⟨_,rfl⟩
 have HY:=Zh hY
 rw [hY]
 have c0:=(hrs.upd0 UA.out).cells.1
 have hrb:=hrs.blk.lt
 clear hab hX hY hrs hF
 go_enter Tryz.func47,Tryz.ntmps47
 go_wp2_with fail
 generalize (w.alloc (.cells #[.int .i64 13,.int .i64 c,.int .i64 reg,.int .i64 ar,.int .i64 an,.int .i64 br,.int .i64 bn,vb,ve] 61))=w1 at *
 refine (copy_r sb r.s w1 (HRS.out.upd0 UA.out).st).mono ?_
 rintro e' w2 ⟨wb,rfl,hs,hu,hge⟩
 have WS:=Zh hs
 have U12:=Zh hu
 have U2:=Zh (UA.out.trans hu)
 have WB:Hid (w.heap.size≤wb):=Zh (Nat.le_trans UA.out.size hge)
 have e7:w2.cell? ⟨w.heap.size,7,none⟩=some vb:=(XB.out.upd hu (by simp)).cell 7
 have HC:=Zh (HA.out H rb F vb r w2 (HR.out.upd0 U2.out) (tb_le HTB.out) (HB.out.belowW (U2.out.below HHH.out (by simp))) (Nat.le_trans HHH.out U2.out.size))
 rw [HX.out] at HC
 have HOD:Hid (∀ k ∈ F,k≠wb∧Odd w2 k):=Zh (fun k hk => ⟨by have h1:=(HLT.out k hk).2; have h2:=WB.out; omega,(HR.out.upd0 U2.out).odd k hk⟩)
 clear hs hu hge c0
 go_wp2_with fail
 refine HC.out.mono ?_
 rintro e' w5 ⟨rfl,⟨F5,h5,f5⟩,t5⟩
 have H5:=Zh h5
 have T5:=Zh t5
 have G5:=Zh (f5.pre U2.out)
 have M5:=Zh (WS.out.odd f5.upd HOD.out)
 clear h5 f5 t5 HC e7
 obtain ⟨X1,X2⟩:=X
 simp only at H5 T5 HY ⊢
 by_cases h2:X2=2
 ·have HYY:Hid (Y=({ X1 with s:=r.s },0)):=Zh (by rw [← HY.out,if_pos h2])
  subst h2
  obtain ⟨sb5,vt5,hF5,hr5⟩:=H5.out
  have R6:=Zh (hr5.setS M5.out (Nat.le_trans HHH.out WB.out) HR.out.ok.K)
  obtain ⟨c0,_,_,cf,cl⟩:=hr5.cells
  clear hF5 hr5
  go_wp2_with fail
  go_ret
  rw [HYY.out]
  refine ⟨rfl,⟨[rb,wb],⟨wb,vt5,rfl,R6.out.1⟩,⟨G5.out.upd.trans' R6.out.2 (fun x hx => .inl (by simp at hx; subst hx; rw [← HFE.out]; simp)),fun k hk => ?_⟩⟩,T5.out⟩
  simp at hk
  rcases hk with rfl | rfl
  ·exact .inl (by rw [← HFE.out]; simp)
  ·exact .inr WB.out
 ·have d2:(X2 == 2)=false:=by simpa using h2
  have HYY:Hid (Y=(X1,X2)):=Zh (by rw [← HY.out,if_neg h2])
  clear h2
  go_wp2_with fail
  go_ret
  rw [HYY.out]
  exact ⟨rfl,⟨F5,H5.out,G5.out⟩,T5.out⟩
theorem one_or {H rb:Nat} {F:List Nat} {ks:List Int} {r:RS} {b e:List Stm} (c reg ar an br bn:Int) (vb ve:Value) (w:World) (hf:RF ks 14 c reg ar an br bn) (h:Rn H rb F ks w r) (ht:r.told.length + 201≤201 * r.steps) (hb:Stms w H vb b) (he:Stms w H ve e) (hH:H≤w.heap.size) (hab:AllR ks b) (hae:AllR ks e) :
 Calls Tryz.prog 47 #[.pointer (some ⟨rb,0,none⟩),.agg #[.int .i64 14,.int .i64 c,.int .i64 reg,.int .i64 ar,.int .i64 an,.int .i64 br,.int .i64 bn,vb,ve]] w (EvPR H rb F ks (if (evL b r).2=3 then evL e { r with steps:=(evL b r).1.steps } else evL b r) w):=by
 have HR:=Zh h
 have HB:=Zh hb
 have HE:=Zh he
 have HTB:=Zh ht
 have HAB:=Zh (And.intro hf.a hf.b)
 have HRF:=Zh hf
 have HHH:=Zh hH
 have XB:Hid (Blk (w.alloc (.cells #[.int .i64 14,.int .i64 c,.int .i64 reg,.int .i64 ar,.int .i64 an,.int .i64 br,.int .i64 bn,vb,ve] 61)) w.heap.size 61 #[.int .i64 14,.int .i64 c,.int .i64 reg,.int .i64 ar,.int .i64 an,.int .i64 br,.int .i64 bn,vb,ve]):=Zh (Blk.new w _ _)
 have UA:Hid (Upd [] w (w.alloc (.cells #[.int .i64 14,.int .i64 c,.int .i64 reg,.int .i64 ar,.int .i64 an,.int .i64 br,.int .i64 bn,vb,ve] 61))):=Zh ((Upd.refl [] w).alloc _)
 clear h ht hb he hH hf
 have HA:=Zh hab
 have HAE:=Zh hae
 obtain ⟨sb,vt,hF,hrs⟩:=HR.out
 have HFE:Hid ([rb,sb]=F):=Zh hF.symm
 obtain ⟨At,ct,rfl,_,_⟩:=own_slice hrs.told
 have HRS:=Zh hrs
 have HLT:Hid (∀ k ∈ F,H≤k∧k < w.heap.size):=Zh HR.out.lt
 have HMO:Hid (r.steps≤(evL b r).1.steps):=Zh (mono_evL b r)
 obtain ⟨X,hX⟩:∃ X,evL b r=X:=⟨_,rfl⟩
 have HX:=Zh hX
 rw [hX] at HMO ⊢
 obtain ⟨Y,hY⟩:∃ Y,(if X.2=3 then evL e { r with steps:=X.1.steps } else X)=Y:=⟨_,rfl⟩
 have HY:=Zh hY
 rw [hY]
 have c0:=(hrs.upd0 UA.out).cells.1
 have hrb:=hrs.blk.lt
 obtain ⟨a0,a1,a2,a3,a4,a5,a6,a7,a8,hr9,hc9⟩:=hrs.nine
 have HR9:=Zh hr9
 have HC9:=Zh hc9
 clear hab hae hX hY hrs hF hr9 hc9
 go_enter Tryz.func47,Tryz.ntmps47
 go_wp2_with fail
 generalize (w.alloc (.cells #[.int .i64 14,.int .i64 c,.int .i64 reg,.int .i64 ar,.int .i64 an,.int .i64 br,.int .i64 bn,vb,ve] 61))=w1 at *
 refine (copy_r sb r.s w1 (HRS.out.upd0 UA.out).st).mono ?_
 rintro e' w2 ⟨wb,rfl,hs,hu,hge⟩
 have WS:=Zh hs
 have U12:=Zh hu
 have U2:=Zh (UA.out.trans hu)
 have WB:Hid (w.heap.size≤wb∧wb < w2.heap.size):=Zh ⟨Nat.le_trans UA.out.size hge,hs.lt⟩
 obtain ⟨y1,y2,y3,y4,y5,y6,y7,y8,y9⟩:=HC9.out w2 U2.out
 have c10:=(HRS.out.upd0 U2.out).cells.2.1
 have BX2:=Zh (XB.out.upd hu (by simp))
 have x7:w2.cell? ⟨w.heap.size,7,none⟩=some vb:=BX2.out.cell 7
 have wlt:=BX2.out.lt
 have rlt:=(HRS.out.upd0 U2.out).blk.lt
 clear hs hu hge c0
 go_wp2_with fail
 have B9:Hid (Blk (w2.alloc (.cells #[.int .i64 a0,.int .i64 a1,.int .i64 a2,.int .i64 a3,.int .i64 a4,.int .i64 a5,.int .i64 a6,.int .i64 a7,.int .i64 a8] 68)) w2.heap.size 68 #[.int .i64 a0,.int .i64 a1,.int .i64 a2,.int .i64 a3,.int .i64 a4,.int .i64 a5,.int .i64 a6,.int .i64 a7,.int .i64 a8]):=Zh (Blk.new _ _ _)
 have U29:Hid (Upd [] w2 (w2.alloc (.cells #[.int .i64 a0,.int .i64 a1,.int .i64 a2,.int .i64 a3,.int .i64 a4,.int .i64 a5,.int .i64 a6,.int .i64 a7,.int .i64 a8] 68))):=Zh ((Upd.refl [] w2).alloc _)
 generalize (w2.alloc (.cells #[.int .i64 a0,.int .i64 a1,.int .i64 a2,.int .i64 a3,.int .i64 a4,.int .i64 a5,.int .i64 a6,.int .i64 a7,.int .i64 a8] 68))=W9 at *
 have U9:Hid (Upd [] w W9):=Zh (U2.out.trans U29.out)
 have GW:Hid (wb < w2.heap.size∧w.heap.size < w2.heap.size∧rb < w.heap.size):=Zh ⟨WB.out.2,wlt,hrb⟩
 have HC:=Zh (HA.out H rb F vb r W9 (HR.out.upd0 U9.out) (tb_le HTB.out) (HB.out.belowW (U9.out.below HHH.out (by simp))) (Nat.le_trans HHH.out U9.out.size))
 rw [HX.out] at HC
 have HOD:Hid (∀ k ∈ F,k < w.heap.size∧Odd W9 k):=Zh (fun k hk => ⟨(HLT.out k hk).2,(HR.out.upd0 U9.out).odd k hk⟩)
 have BX9:=Zh (BX2.out.upd U29.out (by simp))
 clear y1 y2 y3 y4 y5 y6 y7 y8 y9 c10 x7 wlt rlt
 refine HC.out.mono ?_
 rintro e' w5 ⟨rfl,⟨F5,h5,f5⟩,t5⟩
 have H5:=Zh h5
 have T5:=Zh t5
 have G5:=Zh (f5.pre U9.out)
 have M5:=Zh ((WS.out.upd0 U29.out).odd f5.upd (fun k hk => ⟨by have h1:=(HOD.out k hk).1; have h2:=WB.out.1; omega,(HOD.out k hk).2⟩))
 have O5:=Zh (own_odd (own_upd0 HRS.out.told U9.out) (.inl rfl) f5.upd (fun k hk => (HOD.out k hk).2))
 have B5:=Zh (B9.out.upd f5.upd (fun hm => by have h1:=(HOD.out _ hm).1; have h2:=GW.out; omega))
 have BX5:=Zh (BX9.out.upd f5.upd (fun hm => by have h1:=(HOD.out _ hm).1; omega))
 clear h5 f5 t5 HC
 obtain ⟨X1,X2⟩:=X
 simp only at H5 T5 HY HMO ⊢
 by_cases h3:X2=3
 ·have HYY:Hid (Y=evL e { r with steps:=X1.steps }):=Zh (by rw [← HY.out,if_pos h3])
  subst h3
  obtain ⟨sb5,vt5,hF5,hr5⟩:=H5.out
  have HR5:=Zh hr5
  have HF5:=Zh hF5
  obtain ⟨y0,y10,_,yf,yl⟩:=hr5.cells
  obtain ⟨b0,b1,b2,b3,b4,b5,b6,b7,b8,_,hb9⟩:=hr5.nine
  obtain ⟨y1,y2,y3,y4,y5,y6,y7,y8,y9⟩:=hb9 w5 (.refl _ _)
  have x0:w5.cell? ⟨w2.heap.size,0,none⟩=some (.int .i64 a0):=B5.out.cell 0
  have x1:w5.cell? ⟨w2.heap.size,1,none⟩=some (.int .i64 a1):=B5.out.cell 1
  have x2:w5.cell? ⟨w2.heap.size,2,none⟩=some (.int .i64 a2):=B5.out.cell 2
  have x3:w5.cell? ⟨w2.heap.size,3,none⟩=some (.int .i64 a3):=B5.out.cell 3
  have x4:w5.cell? ⟨w2.heap.size,4,none⟩=some (.int .i64 a4):=B5.out.cell 4
  have x5:w5.cell? ⟨w2.heap.size,5,none⟩=some (.int .i64 a5):=B5.out.cell 5
  have x6:w5.cell? ⟨w2.heap.size,6,none⟩=some (.int .i64 a6):=B5.out.cell 6
  have x7:w5.cell? ⟨w2.heap.size,7,none⟩=some (.int .i64 a7):=B5.out.cell 7
  have x8:w5.cell? ⟨w2.heap.size,8,none⟩=some (.int .i64 a8):=B5.out.cell 8
  have gr:w2.heap.size≠rb:=by have:=GW.out; omega
  have rg:=gr.symm
  have nb:w.heap.size≠rb:=by have:=GW.out; omega
  have e8:w5.cell? ⟨w.heap.size,8,none⟩=some ve:=BX5.out.cell 8
  clear hb9 hr5 hF5
  go_wp2_with fail
  have WH:H≤wb:=Nat.le_trans HHH.out WB.out.1
  obtain ⟨s6,u6⟩:=HR5.out.setS M5.out WH HR.out.ok.K
  obtain ⟨s7,u7⟩:=s6.regs9 a0 a1 a2 a3 a4 a5 a6 a7 a8 _ rfl
  have o7:=own_odd O5.out (.inl rfl) (u6.trans u7) (fun k hk => by simp at hk; subst hk; exact odd_run HR5.out.blk)
  obtain ⟨s8,u8⟩:=s7.setT (v:=.slice At r.told.length ct) (td:=r.told) o7 HR.out.ok.told
  have U8:=Zh ((u6.trans u7).trans u8)
  have S8:=Zh s8
  clear s6 u6 s7 u7 o7 s8 u8 x0 x1 x2 x3 x4 x5 x6 x7 x8 y0 y1 y2 y3 y4 y5 y6 y7 y8 y9 y10 yf yl gr rg nb e8
  generalize ((((((((((w5.setCell ⟨rb,0,none⟩ (.pointer (some ⟨wb,0,none⟩))).setCell ⟨rb,1,none⟩ (.int .i64 a0)).setCell ⟨rb,2,none⟩ (.int .i64 a1)).setCell ⟨rb,3,none⟩ (.int .i64 a2)).setCell ⟨rb,4,none⟩ (.int .i64 a3)).setCell ⟨rb,5,none⟩ (.int .i64 a4)).setCell ⟨rb,6,none⟩ (.int .i64 a5)).setCell ⟨rb,7,none⟩ (.int .i64 a6)).setCell ⟨rb,8,none⟩ (.int .i64 a7)).setCell ⟨rb,9,none⟩ (.int .i64 a8)).setCell ⟨rb,10,none⟩ (.slice At r.told.length ct)=W6 at U8 S8 ⊢
  have RR:Hid (Rn H rb [rb,wb] ks W6 { r with steps:=X1.steps }):=Zh ⟨wb,_,rfl,by have:=S8.out; rw [← HR9.out] at this; exact this⟩
  have G6:Hid (Frm F [rb,wb] w W6):=Zh ⟨G5.out.upd.trans' U8.out (fun x hx => .inl (by simp at hx; subst hx; rw [← HFE.out]; simp)),fun k hk => by
   simp at hk
   rcases hk with rfl | rfl
   ·exact .inl (by rw [← HFE.out]; simp)
   ·exact .inr WB.out.1⟩
  have HC6:=Zh (HAE.out H rb [rb,wb] ve { r with steps:=X1.steps } W6 RR.out (by have h1:=HTB.out; have h2:=HMO.out; unfold TB; simp only; omega) (HE.out.frm G6.out (fun q hq => (HLT.out q hq).1) HHH.out) (Nat.le_trans HHH.out G6.out.upd.size))
  refine HC6.out.mono ?_
  rintro e' w7 ⟨rfl,hp7⟩
  have HP:=Zh (EvPR.preF ⟨rfl,hp7⟩ G6.out)
  clear hp7
  go_wp2_with fail
  go_ret
  rw [HYY.out]
  exact HP.out
 ·have d3:(X2 != 3)=true:=by simpa using h3
  have HYY:Hid (Y=(X1,X2)):=Zh (by rw [← HY.out,if_neg h3])
  clear h3
  go_wp2_with fail
  go_ret
  rw [HYY.out]
  exact ⟨rfl,⟨F5,H5.out,G5.out⟩,T5.out⟩
theorem one_right_r (ks:List Int) (k c reg ar an br bn:Int) (b e:List Stm) (hr:rightS ks (.mk k c reg ar an br bn b e)=true) (hb:AllR ks b) (he:AllR ks e):OneR ks (.mk k c reg ar an br bn b e):=by
 intro H rb F vb ve r w h ht sb se hH
 have hf:=right_facts hr
 rw [ev_mk]
 by_cases h9:k=9
 ·subst h9
  rw [if_pos rfl]
  exact one_set c reg ar an br bn vb ve w hf h ht sb se hH
 rw [if_neg h9]
 by_cases h10:k=10
 ·subst h10
  rw [if_pos rfl]
  exact one_add c reg ar an br bn vb ve w hf h ht sb se hH
 rw [if_neg h10]
 by_cases h11:k=11
 ·subst h11
  rw [if_pos rfl]
  by_cases hv:valV r ar an < valV r br bn
  ·rw [if_pos hv]
   exact one_then c reg ar an br bn vb ve w hf h ht sb se hH hb hv
  ·rw [if_neg hv]
   exact one_else c reg ar an br bn vb ve w hf h ht sb se hH he hv
 rw [if_neg h11]
 by_cases h12:k=12
 ·subst h12
  rw [if_pos rfl]
  exact one_loop c reg ar an br bn vb ve w hf h ht sb se hH hb
 rw [if_neg h12]
 by_cases h13:k=13
 ·subst h13
  rw [if_pos rfl]
  exact one_atomic c reg ar an br bn vb ve w hf h ht sb se hH hb
 rw [if_neg h13]
 by_cases h14:k=14
 ·subst h14
  rw [if_pos rfl]
  exact one_or c reg ar an br bn vb ve w hf h ht sb se hH hb he
 rw [if_neg h14]
 by_cases h15:k=15
 ·subst h15
  rw [if_pos rfl]
  exact one_retry c reg ar an br bn vb ve w hf h ht sb se hH
 rw [if_neg h15]
 by_cases h16:k=16
 ·subst h16
  rw [if_pos rfl]
  exact one_abort c reg ar an br bn vb ve w hf h ht sb se hH
 rw [if_neg h16]
 have h1:=hf.hk
 exact one_ask k c reg ar an br bn vb ve w hf h ht sb se hH (by omega)
mutual
theorem ones_right_r (ks:List Int):∀ x:Stm,rtS ks x=true→OneR ks x
 | .mk k c reg ar an br bn b e,h => by
   rw [rtS_mk,Bool.and_eq_true,Bool.and_eq_true] at h
   exact one_right_r ks k c reg ar an br bn b e h.1.1 (all_r ks b (list_right_r ks b h.1.2)) (all_r ks e (list_right_r ks e h.2))
theorem list_right_r (ks:List Int):∀ l:List Stm,rtL ks l=true→∀ x ∈ l,OneR ks x
 | [],_,_,hx => by simp at hx
 | y :: l,h,x,hx => by
   rw [rtL_cons,Bool.and_eq_true] at h
   have h1:=ones_right_r ks y h.1
   have h2:=list_right_r ks l h.2
   rcases List.mem_cons.1 hx with e | hx
   ·exact e ▸ h1
   ·exact h2 x hx
end
theorem all_right_r (ks:List Int) (l:List Stm) (h:rtL ks l=true):AllR ks l:=all_r ks l (list_right_r ks l h)
end Go.Proofs.YtngflimegnnjlaaGreatDoor.Rv
namespace Go.Proofs.YtngflimegnnjlaaGreatDoor.Rv
open Go.RowKit Assoc MP Ev Jd
attribute [local go_sem] litStep_value
def DoG (s:MS) (l:List Stm) (w:World) (e:Ending) (w':World):Prop :=
 ∃ (nb:Nat) (v:Value),e=.returned (.tuple #[.pointer (some ⟨nb,0,none⟩),.agg #[.int .i64 (endE s l),v],.int .i64 0,.int .i64 0])∧Upd [] w w'∧(toldE s l).length≤201000∧w'.ownsRow 0 3 1 v (toldE s l).length (Ev.ints (toldE s l))∧RSt nb w' (finE s l)
theorem do_ok (sb:Nat) (s:MS) (l:List Stm) (v:Value) (w:World) (h:RSt sb w s) (hv:Stms w w.heap.size v l) (hl:sizes l≤900000) (hk:KO s) (hr:(rightR s.K l).1=0) :
 Calls Tryz.prog 8 #[.pointer (some ⟨sb,0,none⟩),v] w (DoG s l w):=by
 have HS:=Zh h
 have HV:=Zh hv
 have HL:=Zh hl
 have HR:=Zh hr
 have he:=err_none hk hr
 have h5:=(kor_evL l (r0 s) hk).2
 have e1:endE s l=endC (evL l (r0 s)).2:=by unfold endE; rw [if_pos he]
 have e2:toldE s l=(evL l (r0 s)).1.told:=by unfold toldE; rw [if_pos he]
 have HE:=Zh (And.intro e1 e2)
 have H5:=Zh h5
 obtain ⟨F0,g0,vk,vl,ms,hF0,hst⟩:=h
 have HST:=Zh hst
 obtain ⟨Ak,ck,rfl,_,_⟩:=own_slice hst.k
 obtain ⟨nk,hnk⟩:∃ n,s.K.length=n:=⟨_,rfl⟩
 have HNK:=Zh hnk
 have nk8:nk≤8:=by rw [← hnk]; exact g0.k8
 have UA:Hid (Upd [] w (w.alloc (.cells #[.int .i64 0,.slice none 0 0] 34))):=Zh ((Upd.refl [] w).alloc _)
 have EB:Hid (Blk (w.alloc (.cells #[.int .i64 0,.slice none 0 0] 34)) w.heap.size 34 #[.int .i64 0,.slice none 0 0]):=Zh (Blk.new w _ _)
 have c0:(w.alloc (.cells #[.int .i64 0,.slice none 0 0] 34)).cell? ⟨sb,0,none⟩=some (.slice Ak nk ck):=by
  have hb:=(hst.box.upd UA.out (by simp)).cell 0
  rw [hnk] at hb
  exact hb
 have hsb:=hst.box.lt
 clear hv hl hk hr he h5 e1 e2 hF0 hst g0 hnk
 go_enter Tryz.func8,Tryz.ntmps8
 go_wp2_with fail
 generalize (w.alloc (.cells #[.int .i64 0,.slice none 0 0] 34))=w1 at *
 have SK:Hid (Src w1 1 (.slice Ak nk ck) nk (s.K.map (Value.int .i64))):=Zh (by
  have:=Src.of_own (own_upd0 HST.out.k UA.out)
  rw [flat_ints] at this
  rwa [HNK.out] at this)
 refine (Old.ref_right_ok l v Ak nk ck s.K w1 ((HV.out.belowW (UA.out.below (Nat.le_refl _) (by simp))).more UA.out.size) SK.out (by omega) HL.out).mono ?_
 rintro e w2 ⟨rfl,u2⟩
 rw [HR.out]
 obtain ⟨x2,hx2⟩:∃ x,(rightR s.K l).2=x:=⟨_,rfl⟩
 rw [hx2]
 have U2:=Zh (UA.out.trans u2)
 have EB2:=Zh (EB.out.upd u2 (by simp))
 clear u2 c0 hx2
 go_wp2_with fail
 refine (copy_r sb s w2 (HS.out.upd0 U2.out)).mono ?_
 rintro e w3 ⟨sb3,rfl,hs3,u3,hge⟩
 have WS:=Zh hs3
 have U3:=Zh (U2.out.trans u3)
 have EB3:=Zh (EB2.out.upd u3 (by simp))
 have WB:Hid (w.heap.size≤sb3):=Zh (Nat.le_trans U2.out.size hge)
 clear hs3 u3 hge
 go_wp2_with fail
 have R5:Hid (Rn w.heap.size w3.heap.size [w3.heap.size,sb3] s.K (w3.alloc (.cells #[.pointer (some ⟨sb3,0,none⟩),.int .i64 0,.int .i64 0,.int .i64 0,.int .i64 0,.int .i64 0,.int .i64 0,.int .i64 0,.int .i64 0,.int .i64 0,.slice none 0 0,.int .i64 0] 70)) (r0 s)):=Zh (by
  have hu:=(Upd.refl [] w3).alloc (.cells #[.pointer (some ⟨sb3,0,none⟩),.int .i64 0,.int .i64 0,.int .i64 0,.int .i64 0,.int .i64 0,.int .i64 0,.int .i64 0,.int .i64 0,.int .i64 0,.slice none 0 0,.int .i64 0] 70)
  exact ⟨sb3,_,rfl,⟨Blk.new w3 _ _,WS.out.upd0 hu,own_nil _ _ _ _,U3.out.size,WB.out,⟨rfl,rfl,by simp [r0],by simp [r0]⟩⟩⟩)
 have U5:Hid (Upd [] w (w3.alloc (.cells #[.pointer (some ⟨sb3,0,none⟩),.int .i64 0,.int .i64 0,.int .i64 0,.int .i64 0,.int .i64 0,.int .i64 0,.int .i64 0,.int .i64 0,.int .i64 0,.slice none 0 0,.int .i64 0] 70))):=Zh (U3.out.alloc _)
 have EB5:Hid (Blk (w3.alloc (.cells #[.pointer (some ⟨sb3,0,none⟩),.int .i64 0,.int .i64 0,.int .i64 0,.int .i64 0,.int .i64 0,.int .i64 0,.int .i64 0,.int .i64 0,.int .i64 0,.slice none 0 0,.int .i64 0] 70)) w.heap.size 34 #[.int .i64 0,.slice none 0 0]):=Zh (EB3.out.alloc _)
 have NE:Hid (w.heap.size≠w3.heap.size∧w.heap.size≠sb3):=Zh ⟨by have:=EB3.out.lt; omega,by obtain ⟨vk,vl,hb⟩:=WS.out.box; exact EB3.out.ne_ hb (by decide)⟩
 generalize (w3.alloc (.cells #[.pointer (some ⟨sb3,0,none⟩),.int .i64 0,.int .i64 0,.int .i64 0,.int .i64 0,.int .i64 0,.int .i64 0,.int .i64 0,.int .i64 0,.int .i64 0,.slice none 0 0,.int .i64 0] 70))=w5 at *
 have HC:=Zh (all_right_r s.K l (rt_of_right HR.out) _ _ _ v _ _ R5.out (by unfold TB; simp [r0]) (HV.out.belowW (U5.out.below (Nat.le_refl _) (by simp))) U5.out.size)
 refine HC.out.mono ?_
 rintro e w6 ⟨rfl,⟨F6,h6,f6⟩,t6⟩
 obtain ⟨X,hX⟩:∃ X,evL l (r0 s)=X:=⟨_,rfl⟩
 have HX:=Zh hX
 rw [hX] at h6 H5 HE ⊢
 obtain ⟨X1,X2⟩:=X
 simp only at h6 H5 HE ⊢
 obtain ⟨sb6,vt6,rfl,h6⟩:=h6
 have H6:=Zh h6
 obtain ⟨At,ct,rfl,_,_⟩:=own_slice h6.told
 obtain ⟨tn,htn⟩:∃ tn,X1.told.length=tn:=⟨_,rfl⟩
 have HTN:=Zh htn
 have LT5:=Zh R5.out.lt
 have U6:Hid (Upd [] w w6):=Zh (U5.out.trans' f6.upd (fun x hx => .inr (LT5.out x hx).1))
 have EB6:Hid (Blk w6 w.heap.size 34 #[.int .i64 0,.slice none 0 0]):=Zh (EB5.out.upd f6.upd (by simp; have:=NE.out; omega))
 have NE6:Hid (w.heap.size≠w3.heap.size∧w.heap.size≠sb6):=Zh ⟨NE.out.1,by obtain ⟨vk,vl,hb⟩:=h6.st.box; exact EB6.out.ne_ hb (by decide)⟩
 have T6:Hid (w6.ownsRow 0 3 1 (.slice At tn ct) tn (Ev.ints X1.told)):=Zh (by rw [← HTN.out]; exact h6.told)
 have k0:w6.cell? ⟨w3.heap.size,0,none⟩=some (.pointer (some ⟨sb6,0,none⟩)):=h6.cells.1
 have k10:w6.cell? ⟨w3.heap.size,10,none⟩=some (.slice At tn ct):=by rw [← htn]; exact h6.cells.2.1
 have e0:w6.cell? ⟨w.heap.size,0,none⟩=some (.int .i64 0):=EB6.out.cell 0
 have e1:w6.cell? ⟨w.heap.size,1,none⟩=some (.slice none 0 0):=EB6.out.cell 1
 have ef:=EB6.out.frozen
 have el:=EB6.out.lt
 have d5:(X2 == 5)=false:=by simpa using H5.out
 have LEN:Hid (X1.told.length≤201000):=Zh h6.ok.told
 clear h6 f6 t6 hX htn HC
 by_cases h0:X2=0
 ·subst h0
  go_wp2_with fail
  go_region
  have E9:Hid (Blk (((w6.setCell ⟨w.heap.size,0,none⟩ (.int .i64 1)).setCell ⟨w.heap.size,1,none⟩ (.slice At tn ct)).drew) w.heap.size 34 #[.int .i64 1,.slice At tn ct]):=Zh ((EB6.out.set_eq (i:=0) rfl).set_eq (i:=1) rfl).drew
  have U9:Hid (Upd [w.heap.size] w6 (((w6.setCell ⟨w.heap.size,0,none⟩ (.int .i64 1)).setCell ⟨w.heap.size,1,none⟩ (.slice At tn ct)).drew)):=Zh ((((Upd.refl [w.heap.size] w6).setCell (p:=⟨w.heap.size,0,none⟩) (.inl (by simp)) _).setCell (p:=⟨w.heap.size,1,none⟩) (.inl (by simp)) _)).drew
  clear k0 k10 e0 e1 ef el
  generalize (((w6.setCell ⟨w.heap.size,0,none⟩ (.int .i64 1)).setCell ⟨w.heap.size,1,none⟩ (.slice At tn ct)).drew)=W9 at E9 U9 ⊢
  go_wp2_with fail
  have d0:W9.cell? ⟨w.heap.size,0,none⟩=some (.int .i64 1):=E9.out.cell 0
  have d1:W9.cell? ⟨w.heap.size,1,none⟩=some (.slice At tn ct):=E9.out.cell 1
  have V9:Hid (Upd [] w W9):=Zh (U6.out.trans' U9.out (fun x hx => by simp at hx; subst hx; exact .inr (Nat.le_refl _)))
  have OD:∀ k ∈ [w.heap.size],Odd w6 k:=fun k hk => by simp at hk; subst hk; exact ⟨_,_,EB6.out,by decide,by decide,by decide⟩
  have T9:=own_odd T6.out (.inl rfl) U9.out OD
  refine bodyPost_ret (v:=.tuple #[.pointer (some ⟨sb6,0,none⟩),.agg #[.int .i64 1,.slice At tn ct],.int .i64 0,.int .i64 0]) (by simp [results,Tryz.results8,go_sem,d0,d1]) rfl ?_
  refine ⟨sb6,_,by rw [HE.out.1]; rfl,V9.out,by rw [HE.out.2]; exact LEN.out,by rw [HE.out.2,HTN.out]; exact T9,?_⟩
  unfold finE
  rw [HX.out,if_pos rfl]
  exact H6.out.st.odd U9.out (fun k hk => ⟨by simp at hk; subst hk; exact NE6.out.2,OD k hk⟩)
 ·have d0:(X2 == 0)=false:=by simpa using h0
  have H0:=Zh h0
  clear h0
  go_wp2_with fail
  go_region
  have E9:Hid (Blk (((w6.setCell ⟨w.heap.size,0,none⟩ (.int .i64 X2)).setCell ⟨w.heap.size,1,none⟩ (.slice At tn ct)).drew) w.heap.size 34 #[.int .i64 X2,.slice At tn ct]):=Zh ((EB6.out.set_eq (i:=0) rfl).set_eq (i:=1) rfl).drew
  have U9:Hid (Upd [w.heap.size] w6 (((w6.setCell ⟨w.heap.size,0,none⟩ (.int .i64 X2)).setCell ⟨w.heap.size,1,none⟩ (.slice At tn ct)).drew)):=Zh ((((Upd.refl [w.heap.size] w6).setCell (p:=⟨w.heap.size,0,none⟩) (.inl (by simp)) _).setCell (p:=⟨w.heap.size,1,none⟩) (.inl (by simp)) _)).drew
  clear k0 k10 e0 e1 ef el
  generalize (((w6.setCell ⟨w.heap.size,0,none⟩ (.int .i64 X2)).setCell ⟨w.heap.size,1,none⟩ (.slice At tn ct)).drew)=W9 at E9 U9 ⊢
  go_wp2_with fail
  have d0:W9.cell? ⟨w.heap.size,0,none⟩=some (.int .i64 X2):=E9.out.cell 0
  have d1:W9.cell? ⟨w.heap.size,1,none⟩=some (.slice At tn ct):=E9.out.cell 1
  have V9:Hid (Upd [] w W9):=Zh (U6.out.trans' U9.out (fun x hx => by simp at hx; subst hx; exact .inr (Nat.le_refl _)))
  have OD:∀ k ∈ [w.heap.size],Odd w6 k:=fun k hk => by simp at hk; subst hk; exact ⟨_,_,EB6.out,by decide,by decide,by decide⟩
  have T9:=own_odd T6.out (.inl rfl) U9.out OD
  refine bodyPost_ret (v:=.tuple #[.pointer (some ⟨sb,0,none⟩),.agg #[.int .i64 X2,.slice At tn ct],.int .i64 0,.int .i64 0]) (by simp [results,Tryz.results8,go_sem,d0,d1]) rfl ?_
  refine ⟨sb,_,by rw [HE.out.1]; unfold endC; rw [if_neg H0.out,if_neg H5.out],V9.out,by rw [HE.out.2]; exact LEN.out,by rw [HE.out.2,HTN.out]; exact T9,?_⟩
  unfold finE
  rw [HX.out,if_neg H0.out]
  exact HS.out.upd0 V9.out
end Go.Proofs.YtngflimegnnjlaaGreatDoor.Rv
namespace Go.Proofs.YtngflimegnnjlaaGreatDoor
open Go.RowKit St Jd Ev Rv
attribute [local go_sem] litStep_value
theorem odd_own {t:TypeId} {B n s:Nat} {w:World} {v:Value} {xs:List Value} (h:w.ownsRow B t s v n xs) (h1:t≠3) (h2:t≠156) (h3:t≠102) (h4:t≠64) {k:Nat} (hk:k ∈ v.ownBlock.toList):Odd w k∧∀ {q s},RSt q w s→k≠q:=by
 have hk:v.ownBlock=some k:=by simpa using hk
 obtain ⟨_,h5⟩:=h
 rcases h5 with ⟨h5,_⟩ | ⟨g,cap,cur,e1,e2,e3,_⟩
 ·subst h5; simp [Value.ownBlock] at hk
 ·subst e1
  simp only [Value.ownBlock,Option.some.injEq] at hk
  subst hk
  refine ⟨⟨_,_,e3,h1,h2,h3⟩,fun {q s} hs => ?_⟩
  obtain ⟨vk,vl,hb⟩:=hs.box
  exact Blk.ne_ (w:=w) e3 hb h4
def TdOk (w:World) (m:En):Prop:=∃ xs:List Int,w.ownsRow 0 3 1 (.slice m.ta m.tn m.tc) m.tn (Ev.ints xs)
theorem TdOk.src {w:World} {m:En} {xs:List Int} (h:w.ownsRow 0 3 1 (.slice m.ta m.tn m.tc) m.tn (Ev.ints xs)):EnOk w m∧tlW w m=xs:=by
 have h1:Src w 1 (.slice m.ta m.tn m.tc) m.tn (xs.map (Value.int .i64)):=Src.of_own h
 have e:=tlW_eq h1
 exact ⟨by unfold EnOk; rw [e]; exact h1,e⟩
theorem TdOk.en {w:World} {m:En} (h:TdOk w m):EnOk w m:=by obtain ⟨xs,h⟩:=h; exact (TdOk.src h).1
theorem TdOk.odd {w w':World} {m:En} {T:List Nat} (h:TdOk w m) (hu:Upd T w w') (hT:∀ k ∈ T,Odd w k):TdOk w' m∧tlW w' m=tlW w m:=by
 obtain ⟨xs,h⟩:=h
 have h':=own_odd h (.inl rfl) hu hT
 exact ⟨⟨xs,h'⟩,by rw [(TdOk.src h).2,(TdOk.src h').2]⟩
theorem eds_odd {w w':World} {M:List En} {T:List Nat} (h:∀ m ∈ M,TdOk w m) (hu:Upd T w w') (hT:∀ k ∈ T,Odd w k):edsW w' M=edsW w M:=by
 unfold edsW
 refine List.map_congr_left fun m hm => ?_
 unfold edW
 rw [((h m hm).odd hu hT).2]
theorem plan_row {w:World} {p:Pn} {kv tv:Value} (h:PlanV w p kv tv) {i:Nat} {ts:List (List Stm)} (hi:p.ths[i]?=some ts) :
 ∃ (ct cj:Nat) (a0:Addr) (Aj:Option Addr),tv=.slice (some a0) p.ths.length ct∧(∀ W,Upd [] w W→W.cell? (a0.add i)=some (.slice Aj ts.length cj)) ∧
   ∀ j l,ts[j]?=some l→∃ a1 u,Aj=some a1∧(∀ W,Upd [] w W→W.cell? (a1.add j)=some u)∧Stms w w.heap.size u l:=by
 obtain ⟨_,vs,hts,hrow⟩:=h
 have hil:=(List.getElem?_eq_some_iff.1 hi).1
 obtain ⟨hvl,A0,ct,e0,hts2⟩:=hts
 obtain ⟨v,hv⟩:∃ v,vs[i]?=some v:=⟨_,List.getElem?_eq_getElem (by omega)⟩
 obtain ⟨a0,e1,b1,c1⟩:=hts2 i v hv
 obtain ⟨us,⟨hul,A1,cj,e2,hus⟩,hst⟩:=hrow i v ts hv hi
 subst e0 e1 e2
 refine ⟨ct,cj,a0,A1,rfl,fun W hW => ((hW.below (Nat.le_refl _) (by simp)).cell (by rw [block_add]; exact b1)).trans c1,fun j l hl => ?_⟩
 have hjl:=(List.getElem?_eq_some_iff.1 hl).1
 obtain ⟨u,hu⟩:∃ u,us[j]?=some u:=⟨_,List.getElem?_eq_getElem (by omega)⟩
 obtain ⟨a1,e3,b2,c2⟩:=hus j u hu
 exact ⟨a1,u,e3,fun W hW => ((hW.below (Nat.le_refl _) (by simp)).cell (by rw [block_add]; exact b2)).trans c2,hst j u l hu hl⟩
def SpI (p:Pn) (w:World) (cs:Array Value) (wr:World) (sv lv:Value) (T:List Tq):Prop :=
 ∃ (M:List En) (q:Nat),sv=.pointer (some ⟨q,0,none⟩)∧TxT p T∧RSt q wr (runS (s0R p) T)∧Ow encE 42 wr w.heap.size lv M∧edsW wr M=runE (s0R p) 0 T∧(∀ m ∈ M,TdOk wr m∧m.tn≤201000)∧Blk wr w.heap.size 25 cs∧Upd [] w wr
theorem SpI.len {p:Pn} {w wr:World} {cs:Array Value} {sv lv:Value} {T:List Tq} (h:SpI p w cs wr sv lv T):∃ A c,lv=.slice A T.length c:=by
 obtain ⟨M,q,_,_,_,h4,h5,_⟩:=h
 have:M.length=T.length:=by have:=congrArg List.length h5; rw [runE_len] at this; simpa [edsW] using this
 obtain ⟨A,c,e,_⟩:=own_slice h4
 exact ⟨A,c,by rw [e,this]⟩
theorem SpI.plan {p:Pn} {w wr:World} {cs:Array Value} {sv lv:Value} {T:List Tq} (h:SpI p w cs wr sv lv T):Blk wr w.heap.size 25 cs∧Upd [] w wr:=by obtain ⟨M,q,_,_,_,_,_,_,h1,h2⟩:=h; exact ⟨h1,h2⟩
theorem bigmod (t:Int) (n:Nat) (h0:0 < n) (h60:n≤1000000):∃ d:Nat,(IntKind.i64.wrap (t.tmod (n:Int) + n)).tmod n=(d:Int)∧d < n∧IntKind.i64.wrap (t.tmod (n:Int) + n)=t.tmod (n:Int) + n:=by
 have h1:t.tmod (n:Int) < n:=Int.tmod_lt_of_pos t (by omega)
 have h2:-(n:Int) < t.tmod (n:Int):=Int.lt_tmod_of_pos t (show (0:Int) < n by omega)
 have hw:IntKind.i64.wrap (t.tmod (n:Int) + n)=t.tmod (n:Int) + n:=by rw [IntKind.wrap_i64]; omega
 rw [hw]
 have h3:0≤(t.tmod (n:Int) + n).tmod n:=Int.tmod_nonneg _ (by omega)
 have h4:(t.tmod (n:Int) + n).tmod n < n:=Int.tmod_lt_of_pos _ (by omega)
 exact ⟨((t.tmod (n:Int) + n).tmod n).toNat,by omega,by omega,rfl⟩
theorem emodb_ok (t:Int) (n:Nat) (h0:0 < n) (h60:n≤1000000) (w:World):Calls Tryz.prog 11 #[.int .i64 t,.int .i64 n] w fun e w' => ∃ d:Nat,e=.returned (.int .i64 d)∧d < n∧w=w':=by
 obtain ⟨d,hd,hdn,hw⟩:=bigmod t n h0 h60
 rw [hw] at hd
 have hn0:¬ (n:Int)=0:=by omega
 have hn1:(0:Int) < n∧(n:Int)≤1000000:=by omega
 have hk:-(n:Int) < t.tmod n∧t.tmod n < n:=⟨Int.lt_tmod_of_pos t (by omega),Int.tmod_lt_of_pos t (by omega)⟩
 have HD:=Zh (And.intro hd hdn)
 clear hdn h0 h60
 go_enter Tryz.func11,Tryz.ntmps11
 go_wp2_with fail
 go_ret
 exact ⟨d,rfl,HD.out.2,rfl⟩
def set9 (w:World) (g k:Nat) (y:En):World:=((((((((w.setCell ⟨g,k * 9,none⟩ (.int .i64 y.th)).setCell ⟨g,k * 9 + 1,none⟩ (.int .i64 y.ix)).setCell ⟨g,k * 9 + 2,none⟩ (.int .i64 y.st)).setCell ⟨g,k * 9 + 3,none⟩ (.bool y.wr)).setCell ⟨g,k * 9 + 4,none⟩ (.int .i64 y.be)).setCell ⟨g,k * 9 + 5,none⟩ (.int .i64 y.en)).setCell ⟨g,k * 9 + 6,none⟩ (.int .i64 y.kd)).setCell ⟨g,k * 9 + 7,none⟩ (.slice y.ta y.tn y.tc)).setCell ⟨g,k * 9 + 8,none⟩ (.int .i64 y.er)
theorem set9_ok {B g n c k:Nat} {w:World} {M:List En} {m:En} (y:En) (h:w.ownsRow B 42 9 (.slice (some ⟨g,0,none⟩) n c) n (flat encE M)) (hm:M[k]?=some m) :
 (set9 w g k y).ownsRow B 42 9 (.slice (some ⟨g,0,none⟩) n c) n (flat encE (M.set k y))∧Upd [g] w (set9 w g k y):=by
 have h9:=own_set (own_set (own_set (own_set (own_set (own_set (own_set (own_set (own_set h (k * 9) (.int .i64 y.th)) (k * 9 + 1) (.int .i64 y.ix)) (k * 9 + 2) (.int .i64 y.st)) (k * 9 + 3) (.bool y.wr)) (k * 9 + 4) (.int .i64 y.be)) (k * 9 + 5) (.int .i64 y.en)) (k * 9 + 6) (.int .i64 y.kd)) (k * 9 + 7) (.slice y.ta y.tn y.tc)) (k * 9 + 8) (.int .i64 y.er)
 have hk:=(List.getElem?_eq_some_iff.1 hm).1
 obtain ⟨e1,e2⟩:=set_parts hm y
 have hl:(flat encE (M.take k)).length=k * 9:=by rw [flat_len]; simp [encE,List.length_take]; omega
 have ef:flat encE (M.set k y)=((((((((((flat encE M).set (k * 9) (.int .i64 y.th)).set (k * 9 + 1) (.int .i64 y.ix)).set (k * 9 + 2) (.int .i64 y.st)).set (k * 9 + 3) (.bool y.wr)).set (k * 9 + 4) (.int .i64 y.be)).set (k * 9 + 5) (.int .i64 y.en)).set (k * 9 + 6) (.int .i64 y.kd)).set (k * 9 + 7) (.slice y.ta y.tn y.tc)).set (k * 9 + 8) (.int .i64 y.er)):=by
  rw [e2]
  conv => rhs; rw [e1]
  rw [flat_append,flat_append]
  have c1:∀ (x:En) (l:List En),flat encE (x :: l)=.int .i64 x.th :: .int .i64 x.ix :: .int .i64 x.st :: .bool x.wr :: .int .i64 x.be :: .int .i64 x.en :: .int .i64 x.kd :: .slice x.ta x.tn x.tc :: .int .i64 x.er :: flat encE l:=fun x l => rfl
  rw [c1,c1]
  have s:∀ (j:Nat) (l:List Value) (v:Value),(flat encE (M.take k) ++ l).set (k * 9 + j) v=flat encE (M.take k) ++ l.set j v:=fun j l v => by
   rw [List.set_append_right _ _ (by omega),hl,Nat.add_sub_cancel_left]
  have s0:=s 0
  rw [Nat.add_zero] at s0
  rw [s0,s,s,s,s,s,s,s,s]
  rfl
 refine ⟨by rw [ef]; exact h9,?_⟩
 unfold set9
 exact (((((((((Upd.refl [g] w).setCell (.inl (by simp)) _).setCell (.inl (by simp)) _).setCell (.inl (by simp)) _).setCell (.inl (by simp)) _).setCell (.inl (by simp)) _).setCell (.inl (by simp)) _).setCell (.inl (by simp)) _).setCell (.inl (by simp)) _).setCell (.inl (by simp)) _
theorem law_jspoilt (p:Pn) (kv tv:Value) (which how:Int) (w:World) (hP:PlanV w p kv tv) (hz:SzP p) (hb:CntP p) (hg:Typed w) :
 Calls Tryz.prog 3 #[planC p kv tv,.int .i64 which,.int .i64 how] w fun e w' => e=.returned (.bool true)∧Upd [] w w':=by
 have HP:=Zh hP
 have HZ:=Zh hz
 have HB:=Zh hb
 have HG:=Zh hg
 obtain ⟨wo,hwo⟩:∃ x,x=p.words:=⟨_,rfl⟩
 obtain ⟨pa,hpa⟩:∃ x,x=p.pat:=⟨_,rfl⟩
 have HPC:Hid (planC p kv tv=.agg #[.int .i64 wo,.int .i64 pa,kv,tv]):=Zh (by rw [hwo,hpa])
 unfold planC
 rw [← hwo,← hpa]
 obtain ⟨Ak,ck,hkv⟩:∃ A c,kv=.slice A p.ks.length c:=by obtain ⟨_,A,c,e,_⟩:=hP.ks; exact ⟨A,c,e⟩
 obtain ⟨At,ct,htv⟩:∃ A c,tv=.slice A p.ths.length c:=by obtain ⟨vs,⟨_,A,c,e,_⟩,_⟩:=hP.ths; exact ⟨A,c,e⟩
 obtain ⟨nk,hnk⟩:∃ k,k=p.ks.length:=⟨_,rfl⟩
 obtain ⟨nt,hnt⟩:∃ k,k=p.ths.length:=⟨_,rfl⟩
 have HNT:Hid (nk=p.ks.length∧nt=p.ths.length):=Zh ⟨hnk,hnt⟩
 rw [← hnk] at hkv
 rw [← hnt] at htv
 subst hkv htv
 clear hP hz hb hg hwo hpa hnk hnt
 go_enter Tryz.func3,Tryz.ntmps3
 obtain ⟨w1,hw1⟩:∃ w1,w1=w.alloc (.cells #[.int .i64 wo,.int .i64 pa,.slice Ak nk ck,.slice At nt ct] 25):=⟨_,rfl⟩
 have U1:Hid (Upd [] w w1):=Zh (by rw [hw1]; exact (Upd.refl _ _).alloc _)
 have X1:Hid (Blk w1 w.heap.size 25 #[.int .i64 wo,.int .i64 pa,.slice Ak nk ck,.slice At nt ct]):=Zh (by rw [hw1]; exact Blk.new _ _ _)
 go_wp2_with fail
 rw [← hw1]
 clear hw1
 have hf:=few25_ok p (.slice Ak nk ck) (.slice At nt ct) none 0 0 [] w1 (HP.out.upd0 U1.out) HZ.out HB.out (show Ow encE 42 w1 0 (.slice none 0 0) [] from Ow.nil _ _ _ _).rd rfl (by omega) (by simp)
 rw [HPC.out] at hf
 refine hf.mono ?_
 rintro e w2 ⟨b,rfl,hfew,u2⟩
 have U2:=Zh (U1.out.trans u2)
 have X2:=Zh (X1.out.upd u2 (by simp))
 have HFEW:=Zh hfew
 clear hf u2 hfew
 cases b with
 | false =>
   go_wp2_with fail
   refine (alive25_ok _ (HG.out.upd U2.out (by simp))).mono ?_
   rintro e w3 ⟨rfl,u3⟩
   have U3:=Zh (U2.out.trans u3)
   clear u3
   go_wp2_with fail
   go_ret
   exact ⟨rfl,U3.out⟩
 | true =>
   have HF:Hid (FitP p):=Zh (HFEW.out rfl).1
   have hnt6:(nt:Int)≤6:=by have:=HF.out.th6; have:=HNT.out.2; omega
   have HK:Hid (Rd encK w2 (.slice Ak nk ck) p.ks∧badK p.ks=none∧p.ks.length≤8):=Zh ⟨by
    have h1:=(HP.out.upd0 U2.out).ks
    rw [← HNT.out.1] at h1
    unfold Rd
    rw [flat_ints,← HNT.out.1]
    exact h1,by
    unfold badK
    rw [List.findIdx?_eq_none_iff]
    intro x hx
    have:=HF.out.kin x hx
    unfold kOk
    simp; omega,HF.out.ks8⟩
   have x2:w2.cell? ⟨w.heap.size,2,none⟩=some (.slice Ak nk ck):=X2.out.cell 2
   go_wp2_with fail
   refine (rm_new Ak nk ck p.ks w2 HK.out.1 HNT.out.1.symm (by have:=HNT.out.1; have:=HK.out.2.2; omega)).mono ?_
   rintro e w4 ⟨u4,hc⟩
   rcases hc with ⟨i,h1,_⟩ | ⟨_,h1,_⟩ | ⟨_,_,rb,F,rfl,hm⟩
   ·rw [HK.out.2.1] at h1; cases h1
   ·have:=HK.out.2.2; omega
   have U4:=Zh (U2.out.trans u4)
   have X4:=Zh (X2.out.upd u4 (by simp))
   have I0:Hid (SpI p w #[.int .i64 wo,.int .i64 pa,.slice Ak nk ck,.slice At nt ct] w4 (.pointer (some ⟨rb,0,none⟩)) (.slice none 0 0) []):=Zh ⟨[],rb,rfl,fun q hq => (by cases hq),RSt.of hm,Ow.nil _ _ _ _,rfl,fun m hm => (by cases hm),X4.out,U4.out⟩
   have x4:w4.cell? ⟨w.heap.size,3,none⟩=some (.slice At nt ct):=X4.out.cell 3
   clear u4 hm x2
   go_wp2_with fail
   clear x4
   go_loopw [7,10,11,12,13,14,15,16,17,18,37] (fun u7 u10 u11 u12 u13 u14 u15 u16 u17 u18 u37 wr => ∃ i:Nat,u37=.int .i64 i∧i≤nt∧∃ T,T.length≤20 * i∧Hid (SpI p w #[.int .i64 wo,.int .i64 pa,.slice Ak nk ck,.slice At nt ct] wr u7 u10 T)) (fun _ _ _ _ _ _ _ _ _ _ u _ => nt - (intOf u).toNat)
   case atStart => exact ⟨0,rfl,by omega,[],by simp,I0⟩
   case round =>
    obtain ⟨i,rfl,hi,T,hT,KI⟩:=hrel
    rename World => wr
    by_cases hlt:i < nt
    ·have hii:(i:Int) < nt:=by omega
     obtain ⟨ts,hts⟩:∃ ts,p.ths[i]?=some ts:=⟨_,List.getElem?_eq_getElem (by rw [← HNT.out.2]; exact hlt)⟩
     obtain ⟨ct2,cj,a0,Aj,ht,hrow,hcol⟩:=plan_row HP.out hts
     rw [← HNT.out.2] at ht
     injection ht with ht _ ht'
     subst ht ht'
     obtain ⟨nj,hnj⟩:∃ k,k=ts.length:=⟨_,rfl⟩
     have HTS:Hid (p.ths[i]?=some ts∧nj=ts.length∧nj≤20∧i < nt∧T.length≤20 * i):=Zh ⟨hts,hnj,by rw [hnj]; exact HF.out.tx20 ts (List.mem_of_getElem? hts),hlt,hT⟩
     rw [← hnj] at hrow
     have HROW:=Zh hrow
     have HCOL:=Zh hcol
     have hnj20:(nj:Int)≤20:=by have:=HTS.out.2.2.1; omega
     obtain ⟨hx,hu⟩:=KI.out.plan
     have UR:=Zh hu
     have x5:wr.cell? ⟨w.heap.size,3,none⟩=some (.slice (some a0) nt ct):=hx.cell 3
     have x6:wr.cell? (a0.add i)=some (.slice Aj nj cj):=hrow wr hu
     clear hts hnj hrow hcol hlt hi hT hx hu
     go_wp2_with fail
     clear x5 x6
     go_loopw [7,10,12,13,14,15,16,17,18,46] (fun u7 u10 u12 u13 u14 u15 u16 u17 u18 u46 wr => ∃ k:Nat,u46=.int .i64 k∧k≤nj∧∃ T,T.length≤20 * i + k∧Hid (SpI p w #[.int .i64 wo,.int .i64 pa,.slice Ak nk ck,.slice (some a0) nt ct] wr u7 u10 T)) (fun _ _ _ _ _ _ _ _ _ u _ => nj - (intOf u).toNat)
     case atStart => exact ⟨0,rfl,by omega,T,by have:=HTS.out.2.2.2.2; omega,KI⟩
     case round =>
      obtain ⟨k,rfl,hk,T2,hT2,KJ⟩:=hrel
      rename World => wr2
      by_cases hlk:k < nj
      ·have hkk:(k:Int) < nj:=by omega
       obtain ⟨A,c,hlv⟩:=KJ.out.len
       obtain ⟨tn,htn⟩:∃ k,k=T2.length:=⟨_,rfl⟩
       rw [← htn] at hlv
       subst hlv
       obtain ⟨M,q,rfl,g2,g3,g4,g5,g6,g7,g8⟩:=KJ.out
       obtain ⟨l,hl⟩:∃ l,ts[k]?=some l:=⟨_,List.getElem?_eq_getElem (by rw [← HTS.out.2.1]; exact hlk)⟩
       obtain ⟨a1,u,hA,hcell,hst⟩:=HCOL.out k l hl
       subst hA
       have HTN:Hid (tn=T2.length∧T2.length≤20 * i + k∧k < nj∧tn≤120):=Zh ⟨htn,hT2,hlk,by have h1:=HTS.out; have h2:=HF.out.th6; have h3:=HNT.out.2; omega⟩
       have htn120:(tn:Int)≤120:=by have:=HTN.out.2.2.2; omega
       have hi6:(i:Int)≤6:=by omega
       have x5:wr2.cell? ⟨w.heap.size,3,none⟩=some (.slice (some a0) nt ct):=g7.cell 3
       have x6:wr2.cell? (a0.add i)=some (.slice (some a1) nj cj):=HROW.out wr2 g8
       have x7:wr2.cell? (a1.add k)=some u:=hcell wr2 g8
       have HTX:Hid ((p.ths[i]?).bind (fun t => t[k]?)=some l):=Zh (by rw [HTS.out.1]; exact hl)
       have HST:=Zh hst
       have HLL:Hid (ts[k]?=some l):=Zh hl
       obtain ⟨sk,hsk⟩:∃ s,s=runS (s0R p) T2:=⟨_,rfl⟩
       rw [← hsk] at g3
       have SK:Hid (sk=runS (s0R p) T2∧StOk p sk):=Zh ⟨hsk,by rw [hsk]; exact st_run (st_s0 p) T2⟩
       have G:Hid (TxT p T2∧RSt q wr2 sk∧edsW wr2 M=runE (s0R p) 0 T2∧(∀ m ∈ M,TdOk wr2 m∧m.tn≤201000)∧Blk wr2 w.heap.size 25 #[.int .i64 wo,.int .i64 pa,.slice Ak nk ck,.slice (some a0) nt ct]∧Upd [] w wr2):=Zh ⟨g2,g3,g5,g6,g7,g8⟩
       have HML:Hid (M.length=tn):=Zh (by have:=congrArg List.length g5; rw [runE_len] at this; rw [htn]; simpa [edsW] using this)
       have G4:Hid (wr2.ownsRow w.heap.size 42 9 (.slice A tn c) tn (flat encE M)):=Zh (by have h:=g4; unfold Ow at h; rw [HML.out] at h; exact h)
       clear g2 g3 g4 g5 g6 g7 g8 hl hcell hst hk hlk htn hT2 hsk
       go_wp2_with fail
       refine (do_ok q sk l u wr2 G.out.2.1 ((HST.out.belowW (G.out.2.2.2.2.2.below (Nat.le_refl _) (by simp))).more G.out.2.2.2.2.2.size) (HZ.out ts (List.mem_of_getElem? HTS.out.1) l (List.mem_of_getElem? HLL.out)) SK.out.2.1 (by rw [SK.out.2.2]; exact bind_right (q:=((i,k),l)) HF.out HTX.out)).mono ?_
       rintro e w3 ⟨nb,v3,rfl,u3,l3,o3,s3⟩
       obtain ⟨en1,hen⟩:∃ en,en=endE sk l:=⟨_,rfl⟩
       obtain ⟨tl,htl⟩:∃ tl,tl=toldE sk l:=⟨_,rfl⟩
       obtain ⟨tk,htk⟩:∃ tk,tk=tl.length:=⟨_,rfl⟩
       rw [← htl,← htk] at l3 o3
       rw [← hen]
       obtain ⟨A3,c3,rfl,_,_⟩:=own_slice o3
       have HEQ:Hid (en1=endE sk l∧tl=toldE sk l∧tk=tl.length∧tk≤201000):=Zh ⟨hen,htl,htk,l3⟩
       have O3:=Zh o3
       have S3:=Zh s3
       have U3:=Zh u3
       clear u3 l3 o3 s3 hen htl htk x5 x6 x7
       go_wp2_with (at_builtin; refine stoppedJ ?_)
       have UA:Hid (Upd [] wr2 (((w3.alloc (.cells #[.int .i64 en1,.slice A3 tk c3] 34)).alloc (.cells #[.int .i64 i,.int .i64 k,.int .i64 tn,.bool true,.int .i64 (2 * tn),.int .i64 (2 * tn + 1),.int .i64 en1,.slice A3 tk c3,.int .i64 0] 42)).alloc (.cells #[.int .i64 i,.int .i64 k,.int .i64 tn,.bool true,.int .i64 (2 * tn),.int .i64 (2 * tn + 1),.int .i64 en1,.slice A3 tk c3,.int .i64 0] 42))):=Zh (((U3.out.alloc _).alloc _).alloc _)
       have UB:Hid (Upd [] w3 (((w3.alloc (.cells #[.int .i64 en1,.slice A3 tk c3] 34)).alloc (.cells #[.int .i64 i,.int .i64 k,.int .i64 tn,.bool true,.int .i64 (2 * tn),.int .i64 (2 * tn + 1),.int .i64 en1,.slice A3 tk c3,.int .i64 0] 42)).alloc (.cells #[.int .i64 i,.int .i64 k,.int .i64 tn,.bool true,.int .i64 (2 * tn),.int .i64 (2 * tn + 1),.int .i64 en1,.slice A3 tk c3,.int .i64 0] 42))):=Zh ((((Upd.refl _ _).alloc _).alloc _).alloc _)
       refine Zh ?_
       refine wpList_app _ (by rfl) (.tmp 80) (.tmp 82) _ (by rfl) ended_elem (.slice A tn c) _ (by rfl) (by rfl) (own_upd0 G4.out UA.out) (.of_blk (Blk.newAt _ _ (by simp)) (m:=1) 1 rfl) (by intro u hu; simp at hu; rcases hu with rfl | rfl | rfl | rfl | rfl | rfl | rfl | rfl | rfl <;> rfl) (by have:=HTN.out.2.2.2; simp only [maxLen]; omega) (by have:=HTN.out.2.2.2; omega) (by have:=G.out.2.2.2.2.2.size; have:=UA.out.size; omega) ?_
       intro v5 w5 o5 u5 b5
       generalize (((w3.alloc (.cells #[.int .i64 en1,.slice A3 tk c3] 34)).alloc (.cells #[.int .i64 i,.int .i64 k,.int .i64 tn,.bool true,.int .i64 (2 * tn),.int .i64 (2 * tn + 1),.int .i64 en1,.slice A3 tk c3,.int .i64 0] 42)).alloc (.cells #[.int .i64 i,.int .i64 k,.int .i64 tn,.bool true,.int .i64 (2 * tn),.int .i64 (2 * tn + 1),.int .i64 en1,.slice A3 tk c3,.int .i64 0] 42))=w4 at *
       have NX:Hid (SpI p w #[.int .i64 wo,.int .i64 pa,.slice Ak nk ck,.slice (some a0) nt ct] w5 (.pointer (some ⟨nb,0,none⟩)) v5 (T2 ++ [((i,k),l)])):=Zh (by
        have ow:=own_upd0 G4.out UA.out
        have OD:∀ k ∈ (Value.slice A tn c).ownBlock.toList,Odd w4 k:=fun k hk => (odd_own ow (by decide) (by decide) (by decide) (by decide) hk).1
        have ot:w5.ownsRow 0 3 1 (.slice A3 tk c3) tk (Ev.ints tl):=own_odd (own_upd0 O3.out UB.out) (.inl rfl) u5 OD
        have td:∀ m ∈ M,TdOk w4 m∧tlW w4 m=tlW wr2 m:=fun m hm => (G.out.2.2.2.1 m hm).1.odd UA.out (by simp)
        refine ⟨M ++ [⟨i,k,tn,true,2 * tn,2 * tn + 1,en1,0,A3,tk,c3⟩],nb,rfl,fun q' hq' => ?_,?_,?_,?_,fun m hm => ?_,?_,?_⟩
        ·rcases List.mem_append.1 hq' with h | h
         ·exact G.out.1 q' h
         ·simp at h; subst h; exact HTX.out
        ·rw [runS_append,← SK.out.1]
         exact (S3.out.upd0 UB.out).odd u5 (fun k hk => ⟨(odd_own ow (by decide) (by decide) (by decide) (by decide) hk).2 (S3.out.upd0 UB.out),OD k hk⟩)
        ·unfold Ow
         rw [flat_append,List.length_append,HML.out]
         exact o5
        ·rw [runE_append,← SK.out.1,← G.out.2.2.1]
         have e1:edsW w5 M=edsW wr2 M:=(eds_odd (fun m hm => (td m hm).1) u5 OD).trans (eds_odd (fun m hm => (G.out.2.2.2.1 m hm).1) UA.out (by simp))
         show (M ++ [_]).map (edW w5)=_
         rw [List.map_append]
         show edsW w5 M ++ _=_
         rw [e1]
         congr 1
         show [edW w5 _]=[mkE sk (0 + T2.length) ((i,k),l)]
         congr 1
         unfold edW mkE attE
         simp only
         rw [(TdOk.src (m:=⟨i,k,tn,true,2 * tn,2 * tn + 1,en1,0,A3,tk,c3⟩) ot).2,HEQ.out.1,HEQ.out.2.1,Nat.zero_add,← HTN.out.1]
        ·rcases List.mem_append.1 hm with h | h
         ·exact ⟨((td m h).1.odd u5 OD).1,(G.out.2.2.2.1 m h).2⟩
         ·simp at h; subst h; exact ⟨⟨tl,ot⟩,HEQ.out.2.2.2⟩
        ·have hb:=G.out.2.2.2.2.1.upd UA.out (by simp)
         exact hb.upd u5 (fun hm => own_type ow hb (by decide) (by simpa using hm))
        ·exact (G.out.2.2.2.2.2.trans UA.out).trans' u5 (fun x hx => .inr (own_lt ow (b:=x) (by simpa using hx)).1))
       have HT5:Hid ((T2 ++ [((i,k),l)]).length≤20 * i + (k + 1)):=Zh (by have:=HTN.out.2.1; rw [List.length_append]; simp; omega)
       clear o5 u5 b5
       go_wp2_with fail
       go_roundw
       case rel => exact ⟨k + 1,by simp,by have:=HTN.out.2.2.1; omega,_,HT5.out,NX⟩
       case measure => have:=HTN.out.2.2.1; simp [intOf]; omega
      ·have hkk:¬ ((k:Int) < nj):=by omega
       have hkn:k=nj:=by omega
       have hT3:T2.length≤20 * (i + 1):=by have:=HTS.out.2.2.1; omega
       clear hk hlk hT2 hkn
       go_wp2_with fail
       go_roundw
       case rel => exact ⟨i + 1,by simp,by have:=HTS.out.2.2.2.1; omega,T2,hT3,KJ⟩
       case measure => have:=HTS.out.2.2.2.1; simp [intOf]; omega
    ·have hii:¬ ((i:Int) < nt):=by omega
     have HTL:Hid (T.length≤120):=Zh (by have:=HF.out.th6; have:=HNT.out.2; omega)
     obtain ⟨A,c,hlv⟩:=KI.out.len
     obtain ⟨tn,htn⟩:∃ k,k=T.length:=⟨_,rfl⟩
     rw [← htn] at hlv
     subst hlv
     obtain ⟨M,q,hq,g2,g3,g4,g5,g6,g7,g8⟩:=KI.out
     have HML:Hid (M.length=tn∧T.length=tn∧tn≤120):=Zh ⟨by have:=congrArg List.length g5; rw [runE_len] at this; rw [htn]; simpa [edsW] using this,htn.symm,by rw [htn]; exact HTL.out⟩
     have htn120:(tn:Int)≤120:=by have:=HML.out.2.2; omega
     have G4:Hid (wr.ownsRow w.heap.size 42 9 (.slice A tn c) tn (flat encE M)):=Zh (by have h:=g4; unfold Ow at h; rw [HML.out.1] at h; exact h)
     have GT:=Zh g2
     have GE:Hid (edsW wr M=runE (s0R p) 0 T∧(∀ m ∈ M,TdOk wr m∧m.tn≤201000)):=Zh ⟨g5,g6⟩
     have GP:Hid (Blk wr w.heap.size 25 #[.int .i64 wo,.int .i64 pa,.slice Ak nk ck,.slice At nt ct]∧Upd [] w wr):=Zh ⟨g7,g8⟩
     clear hi hT hlt hq g2 g3 g4 g5 g6 g7 g8 htn
     by_cases h40:40 < tn
     ·have d40:decide ((40:Int) < tn)=true:=by simp; omega
      clear h40
      go_wp2_with fail
      refine (alive25_ok _ (HG.out.upd GP.out.2 (by simp))).mono ?_
      rintro e w3 ⟨rfl,u3⟩
      have U3:=Zh (GP.out.2.trans u3)
      clear u3
      go_wp2_with fail
      go_ret
      exact ⟨rfl,U3.out⟩
     ·have d40:decide ((40:Int) < tn)=false:=by simp; omega
      have H40:Hid (tn≤40):=Zh (by omega)
      have hp:=GP.out.1.facts
      clear h40
      go_wp2_with fail
      have BW:Hid (∀ W,Upd [] wr W→Base W p (.slice Ak nk ck) (.slice At nt ct) M∧Rd encE W (.slice A tn c) M∧edsW W M=runE (s0R p) 0 T):=Zh (fun W hW => by
       have hen:∀ m ∈ M,EnOk wr m:=fun m hm => (GE.out.2 m hm).1.en
       refine ⟨⟨HP.out.upd0 (GP.out.2.trans hW),fun m hm => ((hen m hm).upd0 hW).1,HG.out.upd (GP.out.2.trans hW) (by simp)⟩,?_,by rw [edsW_upd hen hW]; exact GE.out.1⟩
       have:=Src.of_own (own_upd0 G4.out hW)
       unfold Rd
       rw [HML.out.1]
       exact this)
      have HFIN:Hid (Fine0 p (runE (s0R p) 0 T)):=Zh (run_right HF.out T GT.out)
      have h3:=judge_ok A tn c M p (.slice Ak nk ck) (.slice At nt ct) wr (BW.out wr (.refl _ _)).1 (BW.out wr (.refl _ _)).2.1 HML.out.1 H40.out HF.out HZ.out (fun m hm => Nat.le_trans (GE.out.2 m hm).2 (by omega))
      rw [HPC.out,(BW.out wr (.refl _ _)).2.2] at h3
      refine h3.mono ?_
      rintro e w3 ⟨v3,rfl,e3,u3⟩
      have U3:=Zh u3
      rw [(judge_zero p _).2 HFIN.out] at e3
      obtain ⟨rfl,_⟩:=errv_nil e3
      clear h3 e3 u3 hp
      go_wp2_with fail
      refine (no_err (no:=0) (at_:=0) (.inl ⟨rfl,rfl,rfl⟩)).mono ?_
      rintro e w4 ⟨rfl,rfl⟩
      by_cases h0:tn=0
      ·have d0:((tn:Int) == 0)=true:=by simpa using h0
       clear h0
       go_wp2_with fail
       refine (alive25_ok _ (HG.out.upd (GP.out.2.trans U3.out) (by simp))).mono ?_
       rintro e w5 ⟨rfl,u5⟩
       have U5:=Zh ((GP.out.2.trans U3.out).trans u5)
       clear u5
       go_wp2_with fail
       go_ret
       exact ⟨rfl,U5.out⟩
      ·have d0:((tn:Int) == 0)=false:=by simpa using h0
       go_wp2_with fail
       refine (emodb_ok which tn (by omega) (by have:=H40.out; omega) w3).mono ?_
       rintro e w5 ⟨d,rfl,hd,rfl⟩
       obtain ⟨m,hm⟩:∃ m,M[d]?=some m:=⟨_,List.getElem?_eq_getElem (by rw [HML.out.1]; exact hd)⟩
       obtain ⟨gl,cl,cur,e1,_⟩:=own_form G4.out (by omega)
       injection e1 with e1 e2 e3
       clear e2
       subst e1 e3
       have HM:Hid (M[d]?=some m∧d < tn):=Zh ⟨hm,hd⟩
       have O5:Hid (w3.ownsRow w.heap.size 42 9 (.slice (some ⟨gl,0,none⟩) tn c) tn (flat encE M)):=Zh (own_upd0 G4.out U3.out)
       have hat:∀ j u,(encE.c m)[j]?=some u→w3.cell? ⟨gl,d * 9 + j,none⟩=some u:=fun j u hu => own_cell O5.out _ _ (by show (flat encE M)[d * encE.s + j]?=_; rw [flat_get hm (by have:=(List.getElem?_eq_some_iff.1 hu).1; simpa [encE,enCells] using this)]; exact hu)
       have c0:=hat 0 _ rfl
       have c1:=hat 1 _ rfl
       have c2:=hat 2 _ rfl
       have c3:=hat 3 _ rfl
       have c4:=hat 4 _ rfl
       have c5:=hat 5 _ rfl
       have c6:=hat 6 _ rfl
       have c7:=hat 7 _ rfl
       have c8:=hat 8 _ rfl
       rw [Nat.add_zero] at c0
       have gll:gl < w3.heap.size:=(own_lt O5.out rfl).2
       have hdi:(d:Int) < tn:=by omega
       clear h0 hm hd hat
       obtain ⟨wx,hwx⟩:∃ W,W=w3.alloc (.cells #[.int .i64 m.th,.int .i64 m.ix,.int .i64 m.st,.bool m.wr,.int .i64 m.be,.int .i64 m.en,.int .i64 m.kd,.slice m.ta m.tn m.tc,.int .i64 m.er] 42):=⟨_,rfl⟩
       have UX:Hid (Upd [] wr wx):=Zh (by rw [hwx]; exact U3.out.alloc _)
       have XB:Hid (Blk wx w3.heap.size 42 #[.int .i64 m.th,.int .i64 m.ix,.int .i64 m.st,.bool m.wr,.int .i64 m.be,.int .i64 m.en,.int .i64 m.kd,.slice m.ta m.tn m.tc,.int .i64 m.er]):=Zh (by rw [hwx]; exact Blk.new _ _ _)
       obtain ⟨xb,hxb⟩:∃ b,b=w3.heap.size:=⟨_,rfl⟩
       have HXB:Hid (wr.heap.size≤xb):=Zh (by rw [hxb]; exact U3.out.size)
       rw [← hxb] at XB
       have HSZ:Hid (wx.heap.size=xb + 1):=Zh (by rw [hwx,hxb]; simp)
       by_cases hkd:m.kd=1
       ·have dk:(m.kd != 1)=false:=by simpa using hkd
        have EM:Hid ((runE (s0R p) 0 T)[d]?=some (edW wr m)∧isDone (edW wr m)=true∧d < (runE (s0R p) 0 T).length∧TdOk wr m∧m.tn≤201000∧∃ ts,0≤m.th∧p.ths[m.th.toNat]?=some ts):=Zh (by
         have hmm:=List.mem_of_getElem? HM.out.1
         have hl:(runE (s0R p) 0 T)[d]?=some (edW wr m):=by rw [← GE.out.1]; unfold edsW; rw [List.getElem?_map,HM.out.1]; rfl
         refine ⟨hl,by unfold isDone edW; simp [hkd],(List.getElem?_eq_some_iff.1 hl).1,(GE.out.2 m hmm).1,(GE.out.2 m hmm).2,?_⟩
         obtain ⟨T1,q,T2,eT,ex⟩:=runE_mem (List.mem_of_getElem? hl)
         have e1:m.th=(q.1.1:Int):=by have:=congrArg (fun e => e.a.th) ex; exact this
         have h2:=GT.out q (by rw [eT]; simp)
         cases h3:p.ths[q.1.1]? with
         | none => rw [h3] at h2; simp at h2
         | some ts => exact ⟨ts,by omega,by rw [e1]; simpa using h3⟩)
        clear hkd
        have HTM:Hid (m.tn≤201000):=Zh EM.out.2.2.2.2.1
        have mt:(m.tn:Int)≤201000:=by have:=HTM.out; omega
        have ES:Hid (Src wx 1 (.slice m.ta m.tn m.tc) m.tn ((tlW wr m).map (Value.int .i64))∧(tlW wr m).length=m.tn):=Zh ⟨Src.upd0 (EM.out.2.2.2.1.en) UX.out,tlW_len _ _⟩
        by_cases hA:how.tmod 3=0
        ·have dA:(how.tmod 3 == 0)=true:=by simpa using hA
         have dA1:(how.tmod 3 == 1)=false:=by simp; omega
         by_cases h0:0 < m.tn
         ·have tA:decide ((0:Int) < m.tn)=true:=by simp; omega
          have H0:=Zh h0
          clear hA h0
          go_wp2_with (at_builtin; refine stoppedJ ?_)
          rw [← hwx,← hxb]
          clear hwx hxb
          refine Zh ?_
          refine wpList_app _ (by rfl) (.tmp 139) (.tmp 141) _ (by rfl) elem_int _ _ (by rfl) (by rfl) (own_made (B:=w.heap.size) 1 (Blk.newAt 3 #[] HSZ.out) (by have:=(GP.out.2.trans UX.out).size; have:=HSZ.out; omega)) (Src.upd0 ES.out.1 ((Upd.refl [] wx).alloc _)) (by intro u hu; obtain ⟨x,_,rfl⟩:=List.mem_map.1 hu; rfl) (by have:=HTM.out; simp only [maxLen]; omega) (by have:=HTM.out; omega) (by have:=(GP.out.2.trans UX.out).size; simp; omega) ?_
          intro v5 w5 o5 u5 b5
          rw [Nat.zero_add,List.nil_append] at o5
          obtain ⟨g5,c5',cur5,e5,hg5,_⟩:=own_form o5 H0.out
          subst e5
          have U5:Hid (Upd [] wx w5):=Zh (((Upd.refl [] wx).alloc _).trans' u5 (by intro x hx; simp [Value.ownBlock] at hx; subst hx; exact .inr (Nat.le_of_eq HSZ.out)))
          have G5:Hid (wx.heap.size≤g5):=Zh (by have hs:=HSZ.out; rcases b5 with h | h <;> simp [Value.ownBlock] at h <;> omega)
          have O5':=Zh o5
          have XB5:=Zh (XB.out.upd U5.out (by simp))
          clear o5 u5 b5 c0 c1 c2 c3 c4 c5 c6 c7 c8
          go_wp2_with fail
          refine (emodb_ok how m.tn H0.out (by have:=HTM.out; omega) w5).mono ?_
          rintro e w6 ⟨f,rfl,hf,rfl⟩
          obtain ⟨x0,hx0⟩:∃ x,(tlW wr m)[f]?=some x:=⟨_,List.getElem?_eq_getElem (by rw [ES.out.2]; exact hf)⟩
          have HX0:Hid ((tlW wr m)[f]?=some x0∧f < m.tn):=Zh ⟨hx0,hf⟩
          have z0:w5.cell? ⟨g5,f,none⟩=some (.int .i64 x0):=own_cell O5'.out f _ (by rw [List.getElem?_map,hx0]; rfl)
          have z1:=own_frozen O5'.out
          have z2:g5 < w5.heap.size:=(own_lt O5'.out rfl).2
          have hfi:(f:Int) < m.tn:=by omega
          have xf:=XB5.out.facts
          have xn:¬ xb=g5:=by have h1:=XB.out.lt; have:=G5.out; omega
          obtain ⟨x1,hx1⟩:∃ x,IntKind.i64.wrap (x0 + 1)=x:=⟨_,rfl⟩
          have HX1:Hid (x1≠x0):=Zh (by rw [← hx1,IntKind.wrap_i64]; omega)
          clear hx0 hf
          go_wp2_with (at_builtin; refine stoppedJ ?_)
          obtain ⟨wT,hwT⟩:∃ W,W=((w5.setCell ⟨g5,f,none⟩ (.int .i64 x1)).setCell ⟨xb,7,none⟩ (.slice (some ⟨g5,0,none⟩) m.tn c5')):=⟨_,rfl⟩
          have TSZ:Hid (wT.heap.size=w5.heap.size):=Zh (by rw [hwT]; simp)
          obtain ⟨y,hy⟩:∃ y:En,y=⟨m.th,m.ix,m.st,m.wr,m.be,m.en,m.kd,m.er,some ⟨g5,0,none⟩,m.tn,c5'⟩:=⟨_,rfl⟩
          have YB:Hid (Blk wT xb 42 #[.int .i64 y.th,.int .i64 y.ix,.int .i64 y.st,.bool y.wr,.int .i64 y.be,.int .i64 y.en,.int .i64 y.kd,.slice y.ta y.tn y.tc,.int .i64 y.er]):=Zh (by rw [hwT,hy]; exact (XB5.out.far xn _).set_eq (i:=7) rfl)
          have YU:Hid (Upd [] wr wT):=Zh (by rw [hwT]; exact ((UX.out.trans U5.out).setCell (.inr (by have:=G5.out; have:=UX.out.size; show _≤g5; omega)) _).setCell (.inr HXB.out) _)
          have OY:wT.ownsRow w.heap.size 3 1 (.slice (some ⟨g5,0,none⟩) m.tn c5') m.tn (Ev.ints ((tlW wr m).set f x1)):=by
           have h1:=own_set O5'.out f (.int .i64 x1)
           have h2:=own_upd h1 ((Upd.refl [xb] _).setCell (p:=⟨xb,7,none⟩) (.inl (by simp)) (.slice (some ⟨g5,0,none⟩) m.tn c5')) (fun b hb hm => by simp [Value.ownBlock] at hb hm; omega)
           rw [hwT]
           unfold Ev.ints
           rw [List.map_set]
           exact h2
          have SY:=TdOk.src (m:=y) (xs:=(tlW wr m).set f x1) (by rw [hy]; exact own_base OY (Nat.zero_le _))
          have YE:Hid (EnOk wT y∧y.tn≤300000):=Zh ⟨SY.1,by rw [hy]; have:=HTM.out; simp only; omega⟩
          have YJ:Hid ((judgeR p ((runE (s0R p) 0 T).set d (edW wT y))).1≠0):=Zh (fun h => spoilt_told (reg_run _ _ _) HFIN.out EM.out.1 EM.out.2.1 (y:=edW wT y) (by rw [hy]; rfl) (by rw [hy]; rfl) (by
           show tlW wT y≠tlW wr m
           rw [SY.2]
           intro e
           have h1:=HX0.out.1
           rw [← e,List.getElem?_set,if_pos rfl,if_pos (by rw [ES.out.2]; exact HX0.out.2)] at h1
           injection h1 with h1
           exact HX1.out h1) ((judge_zero p _).1 h))
          rw [← hwT]
          clear hwT hy OY SY xf z0 z1 z2 hx1
          refine Zh ?_
          refine wpList_app _ (by rfl) (.tmp 165) (.tmp 166) _ (by rfl) ended_elem _ _ (by rfl) (by rfl) (own_made (B:=w.heap.size) 9 (Blk.newAt (H:=w5.heap.size) 42 #[] TSZ.out) (by have:=(GP.out.2.trans YU.out).size; have:=TSZ.out; omega)) (Src.of_own (own_upd0 G4.out (YU.out.alloc _))) (flat_cells (E:=encE) (L:=M)) (by have:=H40.out; simp only [maxLen]; omega) (by have:=H40.out; omega) (by have:=(GP.out.2.trans YU.out).size; simp; omega) ?_
          intro v7 w7 o7 u7 b7
          rw [Nat.zero_add,List.nil_append] at o7
          obtain ⟨g7,c7',cur7,e7,hg7,_⟩:=own_form o7 (by have:=HM.out.2; omega)
          subst e7
          have UT:Hid (Upd [] wT w7):=Zh (((Upd.refl [] wT).alloc _).trans' u7 (by intro x hx; simp [Value.ownBlock] at hx; subst hx; exact .inr (Nat.le_of_eq TSZ.out)))
          have G7:Hid (wT.heap.size≤g7):=Zh (by have hs:=TSZ.out; rcases b7 with h | h <;> simp [Value.ownBlock] at h <;> omega)
          have O7:=Zh o7
          have YB7:Hid (Blk w7 xb 42 #[.int .i64 y.th,.int .i64 y.ix,.int .i64 y.st,.bool y.wr,.int .i64 y.be,.int .i64 y.en,.int .i64 y.kd,.slice y.ta y.tn y.tc,.int .i64 y.er]):=Zh (YB.out.upd UT.out (by simp))
          have yb:=YB7.out.facts
          have yf:=own_frozen O7.out
          have yl:g7 < w7.heap.size:=(own_lt O7.out rfl).2
          have yn:¬ xb=g7:=by have h1:=YB.out.lt; have:=G7.out; omega
          have hat:∀ j u,(encE.c m)[j]?=some u→w7.cell? ⟨g7,d * 9 + j,none⟩=some u:=fun j u hu => own_cell O7.out _ _ (by show (flat encE M)[d * encE.s + j]?=_; rw [flat_get HM.out.1 (by have:=(List.getElem?_eq_some_iff.1 hu).1; simpa [encE,enCells] using this)]; exact hu)
          have z0:=hat 0 _ rfl
          have z1:=hat 1 _ rfl
          have z2:=hat 2 _ rfl
          have z3:=hat 3 _ rfl
          have z4:=hat 4 _ rfl
          have z5:=hat 5 _ rfl
          have z6:=hat 6 _ rfl
          have z7:=hat 7 _ rfl
          have z8:=hat 8 _ rfl
          rw [Nat.add_zero] at z0
          have px:=(GP.out.1.upd (YU.out.trans UT.out) (by simp)).facts
          have pn:¬ w.heap.size=g7:=by have h1:=(GP.out.1.upd (YU.out) (by simp)).lt; have:=G7.out; omega
          clear o7 u7 b7 hat
          go_wp2_with fail
          obtain ⟨w8,hw8⟩:∃ W,W=set9 w7 g7 d y:=⟨_,rfl⟩
          have N9:Hid (w8.ownsRow w.heap.size 42 9 (.slice (some ⟨g7,0,none⟩) tn c7') tn (flat encE (M.set d y))∧Upd [g7] w7 w8):=Zh (by rw [hw8]; exact set9_ok y O7.out HM.out.1)
          unfold set9 at hw8
          rw [← hw8]
          have V8:Hid (Upd [] wT w8):=Zh (UT.out.trans' N9.out.2 (fun x hx => .inr (by simp at hx; subst hx; exact G7.out)))
          have U8:Hid (Upd [] wr w8):=Zh (YU.out.trans V8.out)
          clear hw8 z0 z1 z2 z3 z4 z5 z6 z7 z8 yb yf yl yn px pn
          have h8:=judge_ok (some ⟨g7,0,none⟩) tn c7' (M.set d y) p (.slice Ak nk ck) (.slice At nt ct) w8 ⟨HP.out.upd0 (GP.out.2.trans U8.out),fun m' hm' => by
           rcases List.mem_or_eq_of_mem_set hm' with h | rfl
           ·exact ((GE.out.2 m' h).1.en.upd0 U8.out).1
           ·exact (YE.out.1.upd0 V8.out).1,HG.out.upd (GP.out.2.trans U8.out) (by simp)⟩ (by have:=Src.of_own N9.out.1; unfold Rd; rw [List.length_set,HML.out.1]; exact this) (by rw [List.length_set,HML.out.1]) H40.out HF.out HZ.out (fun m' hm' => by
           rcases List.mem_or_eq_of_mem_set hm' with h | rfl
           ·exact Nat.le_trans (GE.out.2 m' h).2 (by omega)
           ·exact YE.out.2)
          have E8:edsW w8 (M.set d y)=(runE (s0R p) 0 T).set d (edW wT y):=by
           have e1:edsW w8 M=runE (s0R p) 0 T:=(edsW_upd (fun m hm => (GE.out.2 m hm).1.en) U8.out).trans GE.out.1
           rw [← e1]
           unfold edsW
           rw [List.map_set,edW_upd YE.out.1 V8.out]
          rw [HPC.out,E8] at h8
          refine h8.mono ?_
          rintro e w9 ⟨v9,rfl,e9,u9⟩
          obtain ⟨j,hj⟩:∃ j,(judgeR p ((runE (s0R p) 0 T).set d (edW wT y))).1=j:=⟨_,rfl⟩
          rw [hj] at e9
          have j0:(j != 0)=true:=by have:=YJ.out; rw [hj] at this; simpa using this
          have E9:=Zh e9
          have U9:=Zh (GP.out.2.trans (U8.out.trans u9))
          clear h8 E8 e9 u9 hj
          go_wp2_with fail
          refine (no_err E9.out).mono ?_
          rintro e w10 ⟨rfl,rfl⟩
          go_wp2_with fail
          refine (alive25_ok _ (HG.out.upd U9.out (by simp))).mono ?_
          rintro e w11 ⟨rfl,u11⟩
          have U11:=Zh (U9.out.trans u11)
          clear u11
          go_wp2_with fail
          go_ret
          exact ⟨rfl,U11.out⟩
         ·have tA:decide ((0:Int) < m.tn)=false:=by simp; omega
          clear hA
          obtain ⟨ts,mth,mts⟩:=EM.out.2.2.2.2.2
          obtain ⟨th,hth⟩:=Int.eq_ofNat_of_zero_le mth
          rw [hth] at mts
          simp only [Int.ofNat_eq_natCast,Int.toNat_natCast] at mts
          obtain ⟨ct2,cj,a0,Aj,ht,hrow,_⟩:=plan_row HP.out mts
          rw [← HNT.out.2] at ht
          injection ht with ht _ ht'
          subst ht ht'
          obtain ⟨nj,hnj⟩:∃ k,k=ts.length:=⟨_,rfl⟩
          rw [← hnj] at hrow
          have HTS:Hid (p.ths[th]?=some ts∧nj=ts.length∧m.th=th):=Zh ⟨mts,hnj,hth⟩
          have thn:(th:Int) < nt:=by have:=(List.getElem?_eq_some_iff.1 mts).1; have:=HNT.out.2; omega
          rw [hth] at c0 hwx XB
          have xp:wx.cell? ⟨w.heap.size,3,none⟩=some (.slice (some a0) nt ct):=(GP.out.1.upd UX.out (by simp)).cell 3
          have xr:wx.cell? (a0.add th)=some (.slice Aj nj cj):=hrow _ (GP.out.2.trans UX.out)
          rw [hwx] at xp xr
          clear mth mts hth hrow hnj
          go_wp2_with (at_builtin; refine stoppedJ ?_)
          rw [← hxb]
          obtain ⟨wT,hwT⟩:∃ W,W=w3.alloc (.cells #[.int .i64 th,.int .i64 nj,.int .i64 m.st,.bool m.wr,.int .i64 m.be,.int .i64 m.en,.int .i64 m.kd,.slice m.ta m.tn m.tc,.int .i64 m.er] 42):=⟨_,rfl⟩
          have TSZ:Hid (wT.heap.size=xb + 1):=Zh (by rw [hwT,hxb]; simp)
          obtain ⟨y,hy⟩:∃ y:En,y=⟨th,nj,m.st,m.wr,m.be,m.en,m.kd,m.er,m.ta,m.tn,m.tc⟩:=⟨_,rfl⟩
          have YB:Hid (Blk wT xb 42 #[.int .i64 y.th,.int .i64 y.ix,.int .i64 y.st,.bool y.wr,.int .i64 y.be,.int .i64 y.en,.int .i64 y.kd,.slice y.ta y.tn y.tc,.int .i64 y.er]):=Zh (by rw [hwT,hy,hxb]; exact Blk.new _ _ _)
          have YU:Hid (Upd [] wr wT):=Zh (by rw [hwT]; exact U3.out.alloc _)
          have YE:Hid (EnOk wT y∧y.tn≤300000):=Zh (by
           have h1:=(EM.out.2.2.2.1.en.upd0 YU.out).1
           rw [hy]
           exact ⟨h1,by have:=HTM.out; simp only; omega⟩)
          have YJ:Hid ((judgeR p ((runE (s0R p) 0 T).set d (edW wT y))).1≠0):=Zh (fun h => spoilt_none EM.out.2.2.1 (y:=edW wT y) (by
           rw [hy]
           show txnR p ⟨th,nj,m.st,m.wr,m.be,m.en⟩=none
           unfold txnR
           rw [if_pos (by simp only; omega)]
           simp only [Int.toNat_natCast]
           rw [HTS.out.1]
           simp only [Option.bind_some]
           exact List.getElem?_eq_none (by rw [HTS.out.2.1]; exact Nat.le_refl _)) ((judge_zero p _).1 h))
          rw [← hwT]
          clear hwT hy xp xr hwx hxb c0 c1 c2 c3 c4 c5 c6 c7 c8
          refine Zh ?_
          refine wpList_app _ (by rfl) (.tmp 165) (.tmp 166) _ (by rfl) ended_elem _ _ (by rfl) (by rfl) (own_made (B:=w.heap.size) 9 (Blk.newAt (H:=xb + 1) 42 #[] TSZ.out) (by have:=(GP.out.2.trans YU.out).size; have:=TSZ.out; omega)) (Src.of_own (own_upd0 G4.out (YU.out.alloc _))) (flat_cells (E:=encE) (L:=M)) (by have:=H40.out; simp only [maxLen]; omega) (by have:=H40.out; omega) (by have:=(GP.out.2.trans YU.out).size; simp; omega) ?_
          intro v7 w7 o7 u7 b7
          rw [Nat.zero_add,List.nil_append] at o7
          obtain ⟨g7,c7',cur7,e7,hg7,_⟩:=own_form o7 (by have:=HM.out.2; omega)
          subst e7
          have UT:Hid (Upd [] wT w7):=Zh (((Upd.refl [] wT).alloc _).trans' u7 (by intro x hx; simp [Value.ownBlock] at hx; subst hx; exact .inr (Nat.le_of_eq TSZ.out)))
          have G7:Hid (wT.heap.size≤g7):=Zh (by have hs:=TSZ.out; rcases b7 with h | h <;> simp [Value.ownBlock] at h <;> omega)
          have O7:=Zh o7
          have YB7:Hid (Blk w7 xb 42 #[.int .i64 y.th,.int .i64 y.ix,.int .i64 y.st,.bool y.wr,.int .i64 y.be,.int .i64 y.en,.int .i64 y.kd,.slice y.ta y.tn y.tc,.int .i64 y.er]):=Zh (YB.out.upd UT.out (by simp))
          have yb:=YB7.out.facts
          have yf:=own_frozen O7.out
          have yl:g7 < w7.heap.size:=(own_lt O7.out rfl).2
          have yn:¬ xb=g7:=by have h1:=YB.out.lt; have:=G7.out; omega
          have hat:∀ j u,(encE.c m)[j]?=some u→w7.cell? ⟨g7,d * 9 + j,none⟩=some u:=fun j u hu => own_cell O7.out _ _ (by show (flat encE M)[d * encE.s + j]?=_; rw [flat_get HM.out.1 (by have:=(List.getElem?_eq_some_iff.1 hu).1; simpa [encE,enCells] using this)]; exact hu)
          have z0:=hat 0 _ rfl
          have z1:=hat 1 _ rfl
          have z2:=hat 2 _ rfl
          have z3:=hat 3 _ rfl
          have z4:=hat 4 _ rfl
          have z5:=hat 5 _ rfl
          have z6:=hat 6 _ rfl
          have z7:=hat 7 _ rfl
          have z8:=hat 8 _ rfl
          rw [Nat.add_zero] at z0
          have px:=(GP.out.1.upd (YU.out.trans UT.out) (by simp)).facts
          have pn:¬ w.heap.size=g7:=by have h1:=(GP.out.1.upd (YU.out) (by simp)).lt; have:=G7.out; omega
          clear o7 u7 b7 hat
          go_wp2_with fail
          obtain ⟨w8,hw8⟩:∃ W,W=set9 w7 g7 d y:=⟨_,rfl⟩
          have N9:Hid (w8.ownsRow w.heap.size 42 9 (.slice (some ⟨g7,0,none⟩) tn c7') tn (flat encE (M.set d y))∧Upd [g7] w7 w8):=Zh (by rw [hw8]; exact set9_ok y O7.out HM.out.1)
          unfold set9 at hw8
          rw [← hw8]
          have V8:Hid (Upd [] wT w8):=Zh (UT.out.trans' N9.out.2 (fun x hx => .inr (by simp at hx; subst hx; exact G7.out)))
          have U8:Hid (Upd [] wr w8):=Zh (YU.out.trans V8.out)
          clear hw8 z0 z1 z2 z3 z4 z5 z6 z7 z8 yb yf yl yn px pn
          have h8:=judge_ok (some ⟨g7,0,none⟩) tn c7' (M.set d y) p (.slice Ak nk ck) (.slice (some a0) nt ct) w8 ⟨HP.out.upd0 (GP.out.2.trans U8.out),fun m' hm' => by
           rcases List.mem_or_eq_of_mem_set hm' with h | rfl
           ·exact ((GE.out.2 m' h).1.en.upd0 U8.out).1
           ·exact (YE.out.1.upd0 V8.out).1,HG.out.upd (GP.out.2.trans U8.out) (by simp)⟩ (by have:=Src.of_own N9.out.1; unfold Rd; rw [List.length_set,HML.out.1]; exact this) (by rw [List.length_set,HML.out.1]) H40.out HF.out HZ.out (fun m' hm' => by
           rcases List.mem_or_eq_of_mem_set hm' with h | rfl
           ·exact Nat.le_trans (GE.out.2 m' h).2 (by omega)
           ·exact YE.out.2)
          have E8:edsW w8 (M.set d y)=(runE (s0R p) 0 T).set d (edW wT y):=by
           have e1:edsW w8 M=runE (s0R p) 0 T:=(edsW_upd (fun m hm => (GE.out.2 m hm).1.en) U8.out).trans GE.out.1
           rw [← e1]
           unfold edsW
           rw [List.map_set,edW_upd YE.out.1 V8.out]
          rw [HPC.out,E8] at h8
          refine h8.mono ?_
          rintro e w9 ⟨v9,rfl,e9,u9⟩
          obtain ⟨j,hj⟩:∃ j,(judgeR p ((runE (s0R p) 0 T).set d (edW wT y))).1=j:=⟨_,rfl⟩
          rw [hj] at e9
          have j0:(j != 0)=true:=by have:=YJ.out; rw [hj] at this; simpa using this
          have E9:=Zh e9
          have U9:=Zh (GP.out.2.trans (U8.out.trans u9))
          clear h8 E8 e9 u9 hj
          go_wp2_with fail
          refine (no_err E9.out).mono ?_
          rintro e w10 ⟨rfl,rfl⟩
          go_wp2_with fail
          refine (alive25_ok _ (HG.out.upd U9.out (by simp))).mono ?_
          rintro e w11 ⟨rfl,u11⟩
          have U11:=Zh (U9.out.trans u11)
          clear u11
          go_wp2_with fail
          go_ret
          exact ⟨rfl,U11.out⟩
        ·have dA:(how.tmod 3 == 0)=false:=by simpa using hA
         by_cases hB:how.tmod 3=1
         ·have dB:(how.tmod 3 == 1)=true:=by simpa using hB
          clear hA hB
          go_wp2_with (at_builtin; refine stoppedJ ?_)
          rw [← hwx,← hxb]
          clear hwx hxb
          refine Zh ?_
          refine wpList_app _ (by rfl) (.tmp 158) (.tmp 160) _ (by rfl) elem_int _ _ (by rfl) (by rfl) (own_made (B:=w.heap.size) 1 (Blk.newAt 3 #[] HSZ.out) (by have:=(GP.out.2.trans UX.out).size; have:=HSZ.out; omega)) (Src.upd0 ES.out.1 ((Upd.refl [] wx).alloc _)) (by intro u hu; obtain ⟨x,_,rfl⟩:=List.mem_map.1 hu; rfl) (by have:=HTM.out; simp only [maxLen]; omega) (by have:=HTM.out; omega) (by have:=(GP.out.2.trans UX.out).size; simp; omega) ?_
          intro v5 w5 o5 u5 b5
          rw [Nat.zero_add,List.nil_append] at o5
          have U5:Hid (Upd [] wx w5):=Zh (((Upd.refl [] wx).alloc _).trans' u5 (by intro x hx; simp [Value.ownBlock] at hx; subst hx; exact .inr (Nat.le_of_eq HSZ.out)))
          have N5:Hid (∀ b,v5.ownBlock=some b→wx.heap.size≤b):=Zh (by intro b hb; have hs:=HSZ.out; rcases b5 with h | h <;> rw [hb] at h <;> simp [Value.ownBlock] at h <;> omega)
          obtain ⟨A5,c5',rfl,_,_⟩:=own_slice o5
          have O5':=Zh o5
          clear o5 u5 b5 c0 c1 c2 c3 c4 c5 c6 c7 c8
          go_wp2_with (at_builtin; refine stoppedJ ?_)
          refine Zh ?_
          refine wpList_app _ (by rfl) (.tmp 161) (.tmp 162) _ (by rfl) elem_int _ _ (by rfl) (by rfl) (own_upd0 O5'.out ((Upd.refl [] w5).alloc _)) (.of_blk (Blk.new w5 3 #[.int .i64 0]) (m:=1) 1 rfl) (by intro u hu; simp at hu; subst hu; rfl) (by have:=HTM.out; simp only [maxLen]; omega) (by have:=HTM.out; omega) (by have:=((GP.out.2.trans UX.out).trans U5.out).size; simp; omega) ?_
          intro v6 w6 o6 u6 b6
          have U6:Hid (Upd [] wx w6):=Zh ((U5.out.alloc _).trans' u6 (by intro x hx; simp only [Option.mem_toList] at hx; exact .inr (N5.out _ hx)))
          have N6:Hid (∀ b,v6.ownBlock=some b→wx.heap.size≤b):=Zh (by intro b hb; have hs:=U5.out.size; rcases b6 with h | h <;> rw [hb] at h; exact N5.out b h.symm; (injection h with h; simp at h; omega))
          obtain ⟨A6,c6',rfl,_,_⟩:=own_slice o6
          have O6':=Zh o6
          have XB6:=Zh (XB.out.upd U6.out (by simp))
          have xf:=XB6.out.facts
          clear o6 u6 b6
          go_wp2_with (at_builtin; refine stoppedJ ?_)
          obtain ⟨wT,hwT⟩:∃ W,W=w6.setCell ⟨xb,7,none⟩ (.slice A6 (m.tn + 1) c6'):=⟨_,rfl⟩
          have TSZ:Hid (wT.heap.size=w6.heap.size):=Zh (by rw [hwT]; simp)
          obtain ⟨y,hy⟩:∃ y:En,y=⟨m.th,m.ix,m.st,m.wr,m.be,m.en,m.kd,m.er,A6,m.tn + 1,c6'⟩:=⟨_,rfl⟩
          have YB:Hid (Blk wT xb 42 #[.int .i64 y.th,.int .i64 y.ix,.int .i64 y.st,.bool y.wr,.int .i64 y.be,.int .i64 y.en,.int .i64 y.kd,.slice y.ta y.tn y.tc,.int .i64 y.er]):=Zh (by rw [hwT,hy]; exact XB6.out.set_eq (i:=7) rfl)
          have YU:Hid (Upd [] wr wT):=Zh (by rw [hwT]; exact (UX.out.trans U6.out).setCell (.inr HXB.out) _)
          have OY:wT.ownsRow w.heap.size 3 1 (.slice A6 (m.tn + 1) c6') (m.tn + 1) (Ev.ints (tlW wr m ++ [0])):=by
           have h2:=own_upd O6'.out ((Upd.refl [xb] w6).setCell (p:=⟨xb,7,none⟩) (.inl (by simp)) (.slice A6 (m.tn + 1) c6')) (fun b hb hm => by simp at hm; have:=N6.out b hb; have:=XB.out.lt; omega)
           rw [hwT]
           unfold Ev.ints
           rw [List.map_append]
           exact h2
          have SY:=TdOk.src (m:=y) (xs:=tlW wr m ++ [0]) (by rw [hy]; exact own_base OY (Nat.zero_le _))
          have YE:Hid (EnOk wT y∧y.tn≤300000):=Zh ⟨SY.1,by rw [hy]; have:=HTM.out; simp only; omega⟩
          have YJ:Hid ((judgeR p ((runE (s0R p) 0 T).set d (edW wT y))).1≠0):=Zh (fun h => spoilt_told (reg_run _ _ _) HFIN.out EM.out.1 EM.out.2.1 (y:=edW wT y) (by rw [hy]; rfl) (by rw [hy]; rfl) (by
           show tlW wT y≠tlW wr m
           rw [SY.2]
           intro e
           have:=congrArg List.length e
           simp at this) ((judge_zero p _).1 h))
          rw [← hwT]
          clear hwT hy OY SY xf
          refine Zh ?_
          refine wpList_app _ (by rfl) (.tmp 165) (.tmp 166) _ (by rfl) ended_elem _ _ (by rfl) (by rfl) (own_made (B:=w.heap.size) 9 (Blk.newAt (H:=w6.heap.size) 42 #[] TSZ.out) (by have:=(GP.out.2.trans YU.out).size; have:=TSZ.out; omega)) (Src.of_own (own_upd0 G4.out (YU.out.alloc _))) (flat_cells (E:=encE) (L:=M)) (by have:=H40.out; simp only [maxLen]; omega) (by have:=H40.out; omega) (by have:=(GP.out.2.trans YU.out).size; simp; omega) ?_
          intro v7 w7 o7 u7 b7
          rw [Nat.zero_add,List.nil_append] at o7
          obtain ⟨g7,c7',cur7,e7,hg7,_⟩:=own_form o7 (by have:=HM.out.2; omega)
          subst e7
          have UT:Hid (Upd [] wT w7):=Zh (((Upd.refl [] wT).alloc _).trans' u7 (by intro x hx; simp [Value.ownBlock] at hx; subst hx; exact .inr (Nat.le_of_eq TSZ.out)))
          have G7:Hid (wT.heap.size≤g7):=Zh (by have hs:=TSZ.out; rcases b7 with h | h <;> simp [Value.ownBlock] at h <;> omega)
          have O7:=Zh o7
          have YB7:Hid (Blk w7 xb 42 #[.int .i64 y.th,.int .i64 y.ix,.int .i64 y.st,.bool y.wr,.int .i64 y.be,.int .i64 y.en,.int .i64 y.kd,.slice y.ta y.tn y.tc,.int .i64 y.er]):=Zh (YB.out.upd UT.out (by simp))
          have yb:=YB7.out.facts
          have yf:=own_frozen O7.out
          have yl:g7 < w7.heap.size:=(own_lt O7.out rfl).2
          have yn:¬ xb=g7:=by have h1:=YB.out.lt; have:=G7.out; omega
          have hat:∀ j u,(encE.c m)[j]?=some u→w7.cell? ⟨g7,d * 9 + j,none⟩=some u:=fun j u hu => own_cell O7.out _ _ (by show (flat encE M)[d * encE.s + j]?=_; rw [flat_get HM.out.1 (by have:=(List.getElem?_eq_some_iff.1 hu).1; simpa [encE,enCells] using this)]; exact hu)
          have z0:=hat 0 _ rfl
          have z1:=hat 1 _ rfl
          have z2:=hat 2 _ rfl
          have z3:=hat 3 _ rfl
          have z4:=hat 4 _ rfl
          have z5:=hat 5 _ rfl
          have z6:=hat 6 _ rfl
          have z7:=hat 7 _ rfl
          have z8:=hat 8 _ rfl
          rw [Nat.add_zero] at z0
          have px:=(GP.out.1.upd (YU.out.trans UT.out) (by simp)).facts
          have pn:¬ w.heap.size=g7:=by have h1:=(GP.out.1.upd (YU.out) (by simp)).lt; have:=G7.out; omega
          clear o7 u7 b7 hat
          go_wp2_with fail
          obtain ⟨w8,hw8⟩:∃ W,W=set9 w7 g7 d y:=⟨_,rfl⟩
          have N9:Hid (w8.ownsRow w.heap.size 42 9 (.slice (some ⟨g7,0,none⟩) tn c7') tn (flat encE (M.set d y))∧Upd [g7] w7 w8):=Zh (by rw [hw8]; exact set9_ok y O7.out HM.out.1)
          unfold set9 at hw8
          rw [← hw8]
          have V8:Hid (Upd [] wT w8):=Zh (UT.out.trans' N9.out.2 (fun x hx => .inr (by simp at hx; subst hx; exact G7.out)))
          have U8:Hid (Upd [] wr w8):=Zh (YU.out.trans V8.out)
          clear hw8 z0 z1 z2 z3 z4 z5 z6 z7 z8 yb yf yl yn px pn
          have h8:=judge_ok (some ⟨g7,0,none⟩) tn c7' (M.set d y) p (.slice Ak nk ck) (.slice At nt ct) w8 ⟨HP.out.upd0 (GP.out.2.trans U8.out),fun m' hm' => by
           rcases List.mem_or_eq_of_mem_set hm' with h | rfl
           ·exact ((GE.out.2 m' h).1.en.upd0 U8.out).1
           ·exact (YE.out.1.upd0 V8.out).1,HG.out.upd (GP.out.2.trans U8.out) (by simp)⟩ (by have:=Src.of_own N9.out.1; unfold Rd; rw [List.length_set,HML.out.1]; exact this) (by rw [List.length_set,HML.out.1]) H40.out HF.out HZ.out (fun m' hm' => by
           rcases List.mem_or_eq_of_mem_set hm' with h | rfl
           ·exact Nat.le_trans (GE.out.2 m' h).2 (by omega)
           ·exact YE.out.2)
          have E8:edsW w8 (M.set d y)=(runE (s0R p) 0 T).set d (edW wT y):=by
           have e1:edsW w8 M=runE (s0R p) 0 T:=(edsW_upd (fun m hm => (GE.out.2 m hm).1.en) U8.out).trans GE.out.1
           rw [← e1]
           unfold edsW
           rw [List.map_set,edW_upd YE.out.1 V8.out]
          rw [HPC.out,E8] at h8
          refine h8.mono ?_
          rintro e w9 ⟨v9,rfl,e9,u9⟩
          obtain ⟨j,hj⟩:∃ j,(judgeR p ((runE (s0R p) 0 T).set d (edW wT y))).1=j:=⟨_,rfl⟩
          rw [hj] at e9
          have j0:(j != 0)=true:=by have:=YJ.out; rw [hj] at this; simpa using this
          have E9:=Zh e9
          have U9:=Zh (GP.out.2.trans (U8.out.trans u9))
          clear h8 E8 e9 u9 hj
          go_wp2_with fail
          refine (no_err E9.out).mono ?_
          rintro e w10 ⟨rfl,rfl⟩
          go_wp2_with fail
          refine (alive25_ok _ (HG.out.upd U9.out (by simp))).mono ?_
          rintro e w11 ⟨rfl,u11⟩
          have U11:=Zh (U9.out.trans u11)
          clear u11
          go_wp2_with fail
          go_ret
          exact ⟨rfl,U11.out⟩
         ·have dB:(how.tmod 3 == 1)=false:=by simpa using hB
          clear hA hB
          obtain ⟨ts,mth,mts⟩:=EM.out.2.2.2.2.2
          obtain ⟨th,hth⟩:=Int.eq_ofNat_of_zero_le mth
          rw [hth] at mts
          simp only [Int.ofNat_eq_natCast,Int.toNat_natCast] at mts
          obtain ⟨ct2,cj,a0,Aj,ht,hrow,_⟩:=plan_row HP.out mts
          rw [← HNT.out.2] at ht
          injection ht with ht _ ht'
          subst ht ht'
          obtain ⟨nj,hnj⟩:∃ k,k=ts.length:=⟨_,rfl⟩
          rw [← hnj] at hrow
          have HTS:Hid (p.ths[th]?=some ts∧nj=ts.length∧m.th=th):=Zh ⟨mts,hnj,hth⟩
          have thn:(th:Int) < nt:=by have:=(List.getElem?_eq_some_iff.1 mts).1; have:=HNT.out.2; omega
          rw [hth] at c0 hwx XB
          have xp:wx.cell? ⟨w.heap.size,3,none⟩=some (.slice (some a0) nt ct):=(GP.out.1.upd UX.out (by simp)).cell 3
          have xr:wx.cell? (a0.add th)=some (.slice Aj nj cj):=hrow _ (GP.out.2.trans UX.out)
          rw [hwx] at xp xr
          clear mth mts hth hrow hnj
          go_wp2_with (at_builtin; refine stoppedJ ?_)
          rw [← hxb]
          obtain ⟨wT,hwT⟩:∃ W,W=w3.alloc (.cells #[.int .i64 th,.int .i64 nj,.int .i64 m.st,.bool m.wr,.int .i64 m.be,.int .i64 m.en,.int .i64 m.kd,.slice m.ta m.tn m.tc,.int .i64 m.er] 42):=⟨_,rfl⟩
          have TSZ:Hid (wT.heap.size=xb + 1):=Zh (by rw [hwT,hxb]; simp)
          obtain ⟨y,hy⟩:∃ y:En,y=⟨th,nj,m.st,m.wr,m.be,m.en,m.kd,m.er,m.ta,m.tn,m.tc⟩:=⟨_,rfl⟩
          have YB:Hid (Blk wT xb 42 #[.int .i64 y.th,.int .i64 y.ix,.int .i64 y.st,.bool y.wr,.int .i64 y.be,.int .i64 y.en,.int .i64 y.kd,.slice y.ta y.tn y.tc,.int .i64 y.er]):=Zh (by rw [hwT,hy,hxb]; exact Blk.new _ _ _)
          have YU:Hid (Upd [] wr wT):=Zh (by rw [hwT]; exact U3.out.alloc _)
          have YE:Hid (EnOk wT y∧y.tn≤300000):=Zh (by
           have h1:=(EM.out.2.2.2.1.en.upd0 YU.out).1
           rw [hy]
           exact ⟨h1,by have:=HTM.out; simp only; omega⟩)
          have YJ:Hid ((judgeR p ((runE (s0R p) 0 T).set d (edW wT y))).1≠0):=Zh (fun h => spoilt_none EM.out.2.2.1 (y:=edW wT y) (by
           rw [hy]
           show txnR p ⟨th,nj,m.st,m.wr,m.be,m.en⟩=none
           unfold txnR
           rw [if_pos (by simp only; omega)]
           simp only [Int.toNat_natCast]
           rw [HTS.out.1]
           simp only [Option.bind_some]
           exact List.getElem?_eq_none (by rw [HTS.out.2.1]; exact Nat.le_refl _)) ((judge_zero p _).1 h))
          rw [← hwT]
          clear hwT hy xp xr hwx hxb c0 c1 c2 c3 c4 c5 c6 c7 c8
          refine Zh ?_
          refine wpList_app _ (by rfl) (.tmp 165) (.tmp 166) _ (by rfl) ended_elem _ _ (by rfl) (by rfl) (own_made (B:=w.heap.size) 9 (Blk.newAt (H:=xb + 1) 42 #[] TSZ.out) (by have:=(GP.out.2.trans YU.out).size; have:=TSZ.out; omega)) (Src.of_own (own_upd0 G4.out (YU.out.alloc _))) (flat_cells (E:=encE) (L:=M)) (by have:=H40.out; simp only [maxLen]; omega) (by have:=H40.out; omega) (by have:=(GP.out.2.trans YU.out).size; simp; omega) ?_
          intro v7 w7 o7 u7 b7
          rw [Nat.zero_add,List.nil_append] at o7
          obtain ⟨g7,c7',cur7,e7,hg7,_⟩:=own_form o7 (by have:=HM.out.2; omega)
          subst e7
          have UT:Hid (Upd [] wT w7):=Zh (((Upd.refl [] wT).alloc _).trans' u7 (by intro x hx; simp [Value.ownBlock] at hx; subst hx; exact .inr (Nat.le_of_eq TSZ.out)))
          have G7:Hid (wT.heap.size≤g7):=Zh (by have hs:=TSZ.out; rcases b7 with h | h <;> simp [Value.ownBlock] at h <;> omega)
          have O7:=Zh o7
          have YB7:Hid (Blk w7 xb 42 #[.int .i64 y.th,.int .i64 y.ix,.int .i64 y.st,.bool y.wr,.int .i64 y.be,.int .i64 y.en,.int .i64 y.kd,.slice y.ta y.tn y.tc,.int .i64 y.er]):=Zh (YB.out.upd UT.out (by simp))
          have yb:=YB7.out.facts
          have yf:=own_frozen O7.out
          have yl:g7 < w7.heap.size:=(own_lt O7.out rfl).2
          have yn:¬ xb=g7:=by have h1:=YB.out.lt; have:=G7.out; omega
          have hat:∀ j u,(encE.c m)[j]?=some u→w7.cell? ⟨g7,d * 9 + j,none⟩=some u:=fun j u hu => own_cell O7.out _ _ (by show (flat encE M)[d * encE.s + j]?=_; rw [flat_get HM.out.1 (by have:=(List.getElem?_eq_some_iff.1 hu).1; simpa [encE,enCells] using this)]; exact hu)
          have z0:=hat 0 _ rfl
          have z1:=hat 1 _ rfl
          have z2:=hat 2 _ rfl
          have z3:=hat 3 _ rfl
          have z4:=hat 4 _ rfl
          have z5:=hat 5 _ rfl
          have z6:=hat 6 _ rfl
          have z7:=hat 7 _ rfl
          have z8:=hat 8 _ rfl
          rw [Nat.add_zero] at z0
          have px:=(GP.out.1.upd (YU.out.trans UT.out) (by simp)).facts
          have pn:¬ w.heap.size=g7:=by have h1:=(GP.out.1.upd (YU.out) (by simp)).lt; have:=G7.out; omega
          clear o7 u7 b7 hat
          go_wp2_with fail
          obtain ⟨w8,hw8⟩:∃ W,W=set9 w7 g7 d y:=⟨_,rfl⟩
          have N9:Hid (w8.ownsRow w.heap.size 42 9 (.slice (some ⟨g7,0,none⟩) tn c7') tn (flat encE (M.set d y))∧Upd [g7] w7 w8):=Zh (by rw [hw8]; exact set9_ok y O7.out HM.out.1)
          unfold set9 at hw8
          rw [← hw8]
          have V8:Hid (Upd [] wT w8):=Zh (UT.out.trans' N9.out.2 (fun x hx => .inr (by simp at hx; subst hx; exact G7.out)))
          have U8:Hid (Upd [] wr w8):=Zh (YU.out.trans V8.out)
          clear hw8 z0 z1 z2 z3 z4 z5 z6 z7 z8 yb yf yl yn px pn
          have h8:=judge_ok (some ⟨g7,0,none⟩) tn c7' (M.set d y) p (.slice Ak nk ck) (.slice (some a0) nt ct) w8 ⟨HP.out.upd0 (GP.out.2.trans U8.out),fun m' hm' => by
           rcases List.mem_or_eq_of_mem_set hm' with h | rfl
           ·exact ((GE.out.2 m' h).1.en.upd0 U8.out).1
           ·exact (YE.out.1.upd0 V8.out).1,HG.out.upd (GP.out.2.trans U8.out) (by simp)⟩ (by have:=Src.of_own N9.out.1; unfold Rd; rw [List.length_set,HML.out.1]; exact this) (by rw [List.length_set,HML.out.1]) H40.out HF.out HZ.out (fun m' hm' => by
           rcases List.mem_or_eq_of_mem_set hm' with h | rfl
           ·exact Nat.le_trans (GE.out.2 m' h).2 (by omega)
           ·exact YE.out.2)
          have E8:edsW w8 (M.set d y)=(runE (s0R p) 0 T).set d (edW wT y):=by
           have e1:edsW w8 M=runE (s0R p) 0 T:=(edsW_upd (fun m hm => (GE.out.2 m hm).1.en) U8.out).trans GE.out.1
           rw [← e1]
           unfold edsW
           rw [List.map_set,edW_upd YE.out.1 V8.out]
          rw [HPC.out,E8] at h8
          refine h8.mono ?_
          rintro e w9 ⟨v9,rfl,e9,u9⟩
          obtain ⟨j,hj⟩:∃ j,(judgeR p ((runE (s0R p) 0 T).set d (edW wT y))).1=j:=⟨_,rfl⟩
          rw [hj] at e9
          have j0:(j != 0)=true:=by have:=YJ.out; rw [hj] at this; simpa using this
          have E9:=Zh e9
          have U9:=Zh (GP.out.2.trans (U8.out.trans u9))
          clear h8 E8 e9 u9 hj
          go_wp2_with fail
          refine (no_err E9.out).mono ?_
          rintro e w10 ⟨rfl,rfl⟩
          go_wp2_with fail
          refine (alive25_ok _ (HG.out.upd U9.out (by simp))).mono ?_
          rintro e w11 ⟨rfl,u11⟩
          have U11:=Zh (U9.out.trans u11)
          clear u11
          go_wp2_with fail
          go_ret
          exact ⟨rfl,U11.out⟩
       ·have dk:(m.kd != 1)=true:=by simpa using hkd
        clear hkd
        go_wp2_with fail
        rw [← hwx]
        refine (alive25_ok _ (HG.out.upd (GP.out.2.trans UX.out) (by simp))).mono ?_
        rintro e w5 ⟨rfl,u5⟩
        have U5:=Zh ((GP.out.2.trans UX.out).trans u5)
        clear u5
        go_wp2_with fail
        go_ret
        exact ⟨rfl,U5.out⟩
end Go.Proofs.YtngflimegnnjlaaGreatDoor
namespace Go.Proofs.YtngflimegnnjlaaGreatDoor.DoorKit
open Go.ChangeShapes Go.WideShapes Go.ChangeAt Go.RowKit
theorem own:ownKnob Tryz.prog.godebug=none:=by kernel_rfl
theorem laidOut:laidOutB Tryz.prog=true:=by kernel_rfl
theorem et:Tryz.prog.globalNamed "errors.errorType"=some 0:=by kernel_rfl
theorem rt:(Tryz.prog.cutTypes.find? (·.1 == "internal/reflectlite.rtype")).map (·.2)=some 163:=by kernel_rfl
theorem oneRow:((List.range 276).filter fun t => Tryz.prog.rowNamed t [101,114,114,111,114])=[45]:=by kernel_rfl
theorem size:Tryz.prog.types.size=276:=by kernel_rfl
theorem of_laid {W:World} (h:laidMetH Tryz.prog [("errors.errorType",Rows.laid_errors_errorType)] W):Typed W:=by
 have h':laidMet Tryz.prog [] W∧handlesMet Tryz.prog [("errors.errorType",Rows.laid_errors_errorType)] W:=h
 obtain ⟨name,u,ty,e1,e2,e3,e4,e5⟩:=h'.2 _ (List.mem_singleton.2 rfl)
 have en:name=[101,114,114,111,114]:=(Option.some.inj e1).symm
 subst en
 obtain rfl:=Option.some.inj (rt.symm.trans e2)
 have hm:ty ∈ (List.range 276).filter fun t => Tryz.prog.rowNamed t [101,114,114,111,114]:=List.mem_filter.2 ⟨List.mem_range.2 (by rw [← size]; exact e3),e4⟩
 rw [oneRow] at hm
 obtain rfl:=List.mem_singleton.1 hm
 have hh:typeHandle Tryz.prog 45=.pointer (some ⟨1,45,none⟩):=by kernel_rfl
 rw [hh] at e5
 have hc:W.cell? ⟨0,0,none⟩=some (.iface 163 (.agg #[.pointer (some ⟨1,45,none⟩)])):=by simpa using World.var?_cell et e5 0
 exact ⟨hc,World.block_lt_of_cell? _ _ hc⟩
theorem door_met (os:Os) (args:Array Value):laidMetH Tryz.prog [("errors.errorType",Rows.laid_errors_errorType)] ((World.doorLaid Tryz.prog 400 os).forCall (fun _ _ => 0) ⟨#[],args,[]⟩).memory :=
 laidMetH_of_parts3 (fuel:=8) (laidMet_nil _ _) (by kernel_rfl) (by kernel_rfl)
end Go.Proofs.YtngflimegnnjlaaGreatDoor.DoorKit

/-
 eval.runner: ask.
-/
import Derived.Test.YtmjnmpifibemjaaGreatDoorJtB12
import Derived.Test.YtmjnmpifibemjaaGreatDoorJtB2
import Derived.Test.YtmjnmpifibemjaaGreatDoorJtB0
set_option linter.unusedVariables false
set_option linter.unusedSimpArgs false
set_option maxRecDepth 100000
set_option maxHeartbeats 16000000
namespace Go.Proofs.YtmjnmpifibemjaaGreatDoor.Ev
open Go.RowKit Assoc MP
attribute [local go_sem] litStep_value
theorem errv_zero {w:World} {v:Value} {at_:Int} (h:ErrV w v 0 at_):v=.nilIface:=by
 rcases h with ⟨h,_⟩ | ⟨_,h,_⟩ | ⟨g,_,_,h,_⟩
 ·exact h
 ·omega
 ·omega
theorem Run.mdl {H rb:Nat} {F:List Nat} {ks:List Int} {w:World} {r:RS} (h:Run H rb F ks w r):∃ sb FM,∀ w',Upd [] w w'→Mdl H sb FM w' r.s∧w'.cell? ⟨rb,0,none⟩=some (.pointer (some ⟨sb,0,none⟩)):=by
 obtain ⟨sb,FM,vt,_,h⟩:=h
 exact ⟨sb,FM,fun w' hu => ⟨(h.upd0 hu).mdl,(h.upd0 hu).cells.1⟩⟩
theorem RunPost.pre {H rb:Nat} {F:List Nat} {ks:List Int} {r:RS} {w w1 w':World} (h:RunPost H rb F ks r w1 w') (hu:Upd [] w w1):RunPost H rb F ks r w w':=by
 obtain ⟨F',h1,h2⟩:=h
 exact ⟨F',h1,h2.pre hu⟩
theorem ask_get1 {H rb:Nat} {F:List Nat} {ks:List Int} {r:RS} (c reg ar an br bn:Int) (vb ve:Value) (w:World) (h:Run H rb F ks w r) (hc:isC r.s c=true) (h0:0≤reg) (h8:reg≤8) (ha:0≤ar∧ar≤8) (hb:0≤br∧br≤8) (hk3:True) (hH:H≤w.heap.size) (hl:r.told.length + 1≤201 * 1000) (g:Int) (hg:get (coll r.s c.toNat) (keyV r ar an)=some g) :
 Calls Tryz.prog 122 #[.pointer (some ⟨rb,0,none⟩),.agg #[.int .i64 1,.int .i64 c,.int .i64 reg,.int .i64 ar,.int .i64 an,.int .i64 br,.int .i64 bn,vb,ve]] w fun e w' => e=.returned .nilIface∧RunPost H rb F ks (tell r reg g) w w':=by
 have HR:=Zh h
 obtain ⟨sb,FM,hM⟩:=h.mdl
 have HM:=Zh hM
 have HC:=Zh hc
 have H3:=Zh hk3
 have HAB:=Zh (And.intro ha hb)
 have HL:=Zh (And.intro (And.intro h0 h8) (And.intro hH hl))
 obtain ⟨z,hz⟩:∃ z,keyV r ar an=z:=⟨_,rfl⟩
 have HZ:=Zh hz
 clear hz
 rw [HZ.out] at hg
 have HG:=Zh hg
 clear hg
 have hrb:=HR.out.lt
 clear h hM hc hk3 ha hb h0 h8 hH hl
 go_enter Tryz.func122,Tryz.ntmps122
 go_wp2_with fail
 have XB:Hid (Blk (w.alloc (.cells #[.int .i64 1,.int .i64 c,.int .i64 reg,.int .i64 ar,.int .i64 an,.int .i64 br,.int .i64 bn,vb,ve] 62)) w.heap.size 62 #[.int .i64 1,.int .i64 c,.int .i64 reg,.int .i64 ar,.int .i64 an,.int .i64 br,.int .i64 bn,vb,ve]):=Zh (Blk.new w _ _)
 have UA:Hid (Upd [] w (w.alloc (.cells #[.int .i64 1,.int .i64 c,.int .i64 reg,.int .i64 ar,.int .i64 an,.int .i64 br,.int .i64 bn,vb,ve] 62))):=Zh ((Upd.refl [] w).alloc _)
 generalize (w.alloc (.cells #[.int .i64 1,.int .i64 c,.int .i64 reg,.int .i64 ar,.int .i64 an,.int .i64 br,.int .i64 bn,vb,ve] 62))=w1 at *
 have CS:Hid (∀ W,Upd [] w1.drew W→W.cell? ⟨w.heap.size,1,none⟩=some (.int .i64 c)∧W.cell? ⟨w.heap.size,3,none⟩=some (.int .i64 ar)∧W.cell? ⟨w.heap.size,4,none⟩=some (.int .i64 an)∧W.cell? ⟨w.heap.size,5,none⟩=some (.int .i64 br)∧W.cell? ⟨w.heap.size,6,none⟩=some (.int .i64 bn)∧W.cell? ⟨rb,0,none⟩=some (.pointer (some ⟨sb,0,none⟩))):=Zh (fun W hW => by
  have hu:=(Upd.refl [] w1).drew.trans hW
  have hb:=XB.out.upd hu (by simp)
  exact ⟨hb.cell 1,hb.cell 3,hb.cell 4,hb.cell 5,hb.cell 6,(HM.out W (UA.out.trans hu)).2⟩)
 refine wp_invN [(9,.det (.int .i64 z)),(10,.det (.tuple #[.int .i64 g,.bool true,.nilIface]))] [] (by kernel_rfl) (by kernel_rfl) (by kernel_rfl) ⟨lasts_det _,lasts_det _,trivial⟩ ?_
 iterate 9 (
  with_reducible apply wpV_light
  ·simp only [lightOp]
  ·intro W hU hF
   have f0:=CS.out W hU
   clear hU hF
   go_simp
   exact rfl
  simp only [aP])
 refine wpV_heavy (by simp only [lightOp]) (by rfl) (fun W hU hk hF K hK => ?_) ?_
 ·go_wp2_with fail
  refine (key_ok ar an W (HR.out.upd0 (UA.out.trans ((Upd.refl [] w1).drew.trans hU))) HAB.out.1).mono ?_
  rintro e wx ⟨rfl,ux⟩
  go_wp2_with fail
  rw [HZ.out]
  exact hK.out _ _ (outV_new rfl rfl (by intro b hb; cases hb) ux)
 rintro _ rfl
 simp only [aP]
 refine wpV_heavy (by simp only [lightOp]) (by rfl) (fun W hU hk hF K hK => ?_) ?_
 ·go_wp2_with fail
  refine (m_get H sb FM r.s c z W (HM.out W (UA.out.trans ((Upd.refl [] w1).drew.trans hU))).1).mono ?_
  rintro e wx ⟨v,rfl,ev,ux⟩
  simp only [HC.out,HG.out,Option.getD_some,Option.isSome_some,Option.getD_none,Option.isSome_none,if_true] at ev ⊢
  obtain rfl:=errv_zero ev
  go_wp2_with fail
  exact hK.out _ _ (outV_new rfl rfl (by intro b hb; cases hb) ux)
 rintro _ rfl
 simp only [aP]
 iterate 7 (
  with_reducible apply wpV_light
  ·simp only [lightOp]
  ·intro W hU hF
   have f0:=CS.out W hU
   clear hU hF
   go_simp
   exact rfl
  simp only [aP])
 refine wpV_end (fun W hU _ hF => ?_)
 have UX:Hid (Upd [] w W):=Zh (UA.out.trans ((Upd.refl [] w1).drew.trans hU))
 have BX:Hid (Blk W w.heap.size 62 _):=Zh (XB.out.upd ((Upd.refl [] w1).drew.trans hU) (by simp))
 have e0:W.cell? ⟨w.heap.size,0,none⟩=some (.int .i64 1):=BX.out.cell 0
 have e2:W.cell? ⟨w.heap.size,2,none⟩=some (.int .i64 reg):=BX.out.cell 2
 clear hU hF
 refine wpT_end ?_
 go_wp2_with fail
 refine (tell_ok reg g W (HR.out.upd0 UX.out) HL.out.1.1 HL.out.1.2 (Nat.le_trans HL.out.2.1 UX.out.size) HL.out.2.2).mono ?_
 rintro e w4 ⟨rfl,hp⟩
 have HP:=Zh (hp.pre UX.out)
 clear hp e0 e2
 go_wp2_with fail
 go_ret
 exact ⟨rfl,HP.out⟩
theorem ask_get0 {H rb:Nat} {F:List Nat} {ks:List Int} {r:RS} (c reg ar an br bn:Int) (vb ve:Value) (w:World) (h:Run H rb F ks w r) (hc:isC r.s c=true) (h0:0≤reg) (h8:reg≤8) (ha:0≤ar∧ar≤8) (hb:0≤br∧br≤8) (hk3:True) (hH:H≤w.heap.size) (hl:r.told.length + 1≤201 * 1000) (hg:get (coll r.s c.toNat) (keyV r ar an)=none) :
 Calls Tryz.prog 122 #[.pointer (some ⟨rb,0,none⟩),.agg #[.int .i64 1,.int .i64 c,.int .i64 reg,.int .i64 ar,.int .i64 an,.int .i64 br,.int .i64 bn,vb,ve]] w fun e w' => e=.returned .nilIface∧RunPost H rb F ks (tell r reg (-1)) w w':=by
 have HR:=Zh h
 obtain ⟨sb,FM,hM⟩:=h.mdl
 have HM:=Zh hM
 have HC:=Zh hc
 have H3:=Zh hk3
 have HAB:=Zh (And.intro ha hb)
 have HL:=Zh (And.intro (And.intro h0 h8) (And.intro hH hl))
 obtain ⟨z,hz⟩:∃ z,keyV r ar an=z:=⟨_,rfl⟩
 have HZ:=Zh hz
 clear hz
 rw [HZ.out] at hg
 have HG:=Zh hg
 clear hg
 have hrb:=HR.out.lt
 clear h hM hc hk3 ha hb h0 h8 hH hl
 go_enter Tryz.func122,Tryz.ntmps122
 go_wp2_with fail
 have XB:Hid (Blk (w.alloc (.cells #[.int .i64 1,.int .i64 c,.int .i64 reg,.int .i64 ar,.int .i64 an,.int .i64 br,.int .i64 bn,vb,ve] 62)) w.heap.size 62 #[.int .i64 1,.int .i64 c,.int .i64 reg,.int .i64 ar,.int .i64 an,.int .i64 br,.int .i64 bn,vb,ve]):=Zh (Blk.new w _ _)
 have UA:Hid (Upd [] w (w.alloc (.cells #[.int .i64 1,.int .i64 c,.int .i64 reg,.int .i64 ar,.int .i64 an,.int .i64 br,.int .i64 bn,vb,ve] 62))):=Zh ((Upd.refl [] w).alloc _)
 generalize (w.alloc (.cells #[.int .i64 1,.int .i64 c,.int .i64 reg,.int .i64 ar,.int .i64 an,.int .i64 br,.int .i64 bn,vb,ve] 62))=w1 at *
 have CS:Hid (∀ W,Upd [] w1.drew W→W.cell? ⟨w.heap.size,1,none⟩=some (.int .i64 c)∧W.cell? ⟨w.heap.size,3,none⟩=some (.int .i64 ar)∧W.cell? ⟨w.heap.size,4,none⟩=some (.int .i64 an)∧W.cell? ⟨w.heap.size,5,none⟩=some (.int .i64 br)∧W.cell? ⟨w.heap.size,6,none⟩=some (.int .i64 bn)∧W.cell? ⟨rb,0,none⟩=some (.pointer (some ⟨sb,0,none⟩))):=Zh (fun W hW => by
  have hu:=(Upd.refl [] w1).drew.trans hW
  have hb:=XB.out.upd hu (by simp)
  exact ⟨hb.cell 1,hb.cell 3,hb.cell 4,hb.cell 5,hb.cell 6,(HM.out W (UA.out.trans hu)).2⟩)
 refine wp_invN [(9,.det (.int .i64 z)),(10,.det (.tuple #[.int .i64 0,.bool false,.nilIface]))] [] (by kernel_rfl) (by kernel_rfl) (by kernel_rfl) ⟨lasts_det _,lasts_det _,trivial⟩ ?_
 iterate 9 (
  with_reducible apply wpV_light
  ·simp only [lightOp]
  ·intro W hU hF
   have f0:=CS.out W hU
   clear hU hF
   go_simp
   exact rfl
  simp only [aP])
 refine wpV_heavy (by simp only [lightOp]) (by rfl) (fun W hU hk hF K hK => ?_) ?_
 ·go_wp2_with fail
  refine (key_ok ar an W (HR.out.upd0 (UA.out.trans ((Upd.refl [] w1).drew.trans hU))) HAB.out.1).mono ?_
  rintro e wx ⟨rfl,ux⟩
  go_wp2_with fail
  rw [HZ.out]
  exact hK.out _ _ (outV_new rfl rfl (by intro b hb; cases hb) ux)
 rintro _ rfl
 simp only [aP]
 refine wpV_heavy (by simp only [lightOp]) (by rfl) (fun W hU hk hF K hK => ?_) ?_
 ·go_wp2_with fail
  refine (m_get H sb FM r.s c z W (HM.out W (UA.out.trans ((Upd.refl [] w1).drew.trans hU))).1).mono ?_
  rintro e wx ⟨v,rfl,ev,ux⟩
  simp only [HC.out,HG.out,Option.getD_some,Option.isSome_some,Option.getD_none,Option.isSome_none,if_true] at ev ⊢
  obtain rfl:=errv_zero ev
  go_wp2_with fail
  exact hK.out _ _ (outV_new rfl rfl (by intro b hb; cases hb) ux)
 rintro _ rfl
 simp only [aP]
 iterate 7 (
  with_reducible apply wpV_light
  ·simp only [lightOp]
  ·intro W hU hF
   have f0:=CS.out W hU
   clear hU hF
   go_simp
   exact rfl
  simp only [aP])
 refine wpV_end (fun W hU _ hF => ?_)
 have UX:Hid (Upd [] w W):=Zh (UA.out.trans ((Upd.refl [] w1).drew.trans hU))
 have BX:Hid (Blk W w.heap.size 62 _):=Zh (XB.out.upd ((Upd.refl [] w1).drew.trans hU) (by simp))
 have e0:W.cell? ⟨w.heap.size,0,none⟩=some (.int .i64 1):=BX.out.cell 0
 have e2:W.cell? ⟨w.heap.size,2,none⟩=some (.int .i64 reg):=BX.out.cell 2
 clear hU hF
 refine wpT_end ?_
 go_wp2_with fail
 refine (tell_ok reg (-1) W (HR.out.upd0 UX.out) HL.out.1.1 HL.out.1.2 (Nat.le_trans HL.out.2.1 UX.out.size) HL.out.2.2).mono ?_
 rintro e w4 ⟨rfl,hp⟩
 have HP:=Zh (hp.pre UX.out)
 clear hp e0 e2
 go_wp2_with fail
 go_ret
 exact ⟨rfl,HP.out⟩
theorem ask_has1 {H rb:Nat} {F:List Nat} {ks:List Int} {r:RS} (c reg ar an br bn:Int) (vb ve:Value) (w:World) (h:Run H rb F ks w r) (hc:isC r.s c=true) (h0:0≤reg) (h8:reg≤8) (ha:0≤ar∧ar≤8) (hb:0≤br∧br≤8) (hk3:True) (hH:H≤w.heap.size) (hl:r.told.length + 1≤201 * 1000) (g:Int) (hg:get (coll r.s c.toNat) (keyV r ar an)=some g) :
 Calls Tryz.prog 122 #[.pointer (some ⟨rb,0,none⟩),.agg #[.int .i64 4,.int .i64 c,.int .i64 reg,.int .i64 ar,.int .i64 an,.int .i64 br,.int .i64 bn,vb,ve]] w fun e w' => e=.returned .nilIface∧RunPost H rb F ks (tell r reg 1) w w':=by
 have HR:=Zh h
 obtain ⟨sb,FM,hM⟩:=h.mdl
 have HM:=Zh hM
 have HC:=Zh hc
 have H3:=Zh hk3
 have HAB:=Zh (And.intro ha hb)
 have HL:=Zh (And.intro (And.intro h0 h8) (And.intro hH hl))
 obtain ⟨z,hz⟩:∃ z,keyV r ar an=z:=⟨_,rfl⟩
 have HZ:=Zh hz
 clear hz
 rw [HZ.out] at hg
 have HG:=Zh hg
 clear hg
 have hrb:=HR.out.lt
 clear h hM hc hk3 ha hb h0 h8 hH hl
 go_enter Tryz.func122,Tryz.ntmps122
 go_wp2_with fail
 have XB:Hid (Blk (w.alloc (.cells #[.int .i64 4,.int .i64 c,.int .i64 reg,.int .i64 ar,.int .i64 an,.int .i64 br,.int .i64 bn,vb,ve] 62)) w.heap.size 62 #[.int .i64 4,.int .i64 c,.int .i64 reg,.int .i64 ar,.int .i64 an,.int .i64 br,.int .i64 bn,vb,ve]):=Zh (Blk.new w _ _)
 have UA:Hid (Upd [] w (w.alloc (.cells #[.int .i64 4,.int .i64 c,.int .i64 reg,.int .i64 ar,.int .i64 an,.int .i64 br,.int .i64 bn,vb,ve] 62))):=Zh ((Upd.refl [] w).alloc _)
 generalize (w.alloc (.cells #[.int .i64 4,.int .i64 c,.int .i64 reg,.int .i64 ar,.int .i64 an,.int .i64 br,.int .i64 bn,vb,ve] 62))=w1 at *
 have CS:Hid (∀ W,Upd [] w1.drew W→W.cell? ⟨w.heap.size,1,none⟩=some (.int .i64 c)∧W.cell? ⟨w.heap.size,3,none⟩=some (.int .i64 ar)∧W.cell? ⟨w.heap.size,4,none⟩=some (.int .i64 an)∧W.cell? ⟨w.heap.size,5,none⟩=some (.int .i64 br)∧W.cell? ⟨w.heap.size,6,none⟩=some (.int .i64 bn)∧W.cell? ⟨rb,0,none⟩=some (.pointer (some ⟨sb,0,none⟩))):=Zh (fun W hW => by
  have hu:=(Upd.refl [] w1).drew.trans hW
  have hb:=XB.out.upd hu (by simp)
  exact ⟨hb.cell 1,hb.cell 3,hb.cell 4,hb.cell 5,hb.cell 6,(HM.out W (UA.out.trans hu)).2⟩)
 refine wp_invN [(9,.det (.int .i64 z)),(10,.det (.tuple #[.int .i64 g,.bool true,.nilIface]))] [] (by kernel_rfl) (by kernel_rfl) (by kernel_rfl) ⟨lasts_det _,lasts_det _,trivial⟩ ?_
 iterate 9 (
  with_reducible apply wpV_light
  ·simp only [lightOp]
  ·intro W hU hF
   have f0:=CS.out W hU
   clear hU hF
   go_simp
   exact rfl
  simp only [aP])
 refine wpV_heavy (by simp only [lightOp]) (by rfl) (fun W hU hk hF K hK => ?_) ?_
 ·go_wp2_with fail
  refine (key_ok ar an W (HR.out.upd0 (UA.out.trans ((Upd.refl [] w1).drew.trans hU))) HAB.out.1).mono ?_
  rintro e wx ⟨rfl,ux⟩
  go_wp2_with fail
  rw [HZ.out]
  exact hK.out _ _ (outV_new rfl rfl (by intro b hb; cases hb) ux)
 rintro _ rfl
 simp only [aP]
 refine wpV_heavy (by simp only [lightOp]) (by rfl) (fun W hU hk hF K hK => ?_) ?_
 ·go_wp2_with fail
  refine (m_get H sb FM r.s c z W (HM.out W (UA.out.trans ((Upd.refl [] w1).drew.trans hU))).1).mono ?_
  rintro e wx ⟨v,rfl,ev,ux⟩
  simp only [HC.out,HG.out,Option.getD_some,Option.isSome_some,Option.getD_none,Option.isSome_none,if_true] at ev ⊢
  obtain rfl:=errv_zero ev
  go_wp2_with fail
  exact hK.out _ _ (outV_new rfl rfl (by intro b hb; cases hb) ux)
 rintro _ rfl
 simp only [aP]
 iterate 7 (
  with_reducible apply wpV_light
  ·simp only [lightOp]
  ·intro W hU hF
   have f0:=CS.out W hU
   clear hU hF
   go_simp
   exact rfl
  simp only [aP])
 refine wpV_end (fun W hU _ hF => ?_)
 have UX:Hid (Upd [] w W):=Zh (UA.out.trans ((Upd.refl [] w1).drew.trans hU))
 have BX:Hid (Blk W w.heap.size 62 _):=Zh (XB.out.upd ((Upd.refl [] w1).drew.trans hU) (by simp))
 have e0:W.cell? ⟨w.heap.size,0,none⟩=some (.int .i64 4):=BX.out.cell 0
 have e2:W.cell? ⟨w.heap.size,2,none⟩=some (.int .i64 reg):=BX.out.cell 2
 clear hU hF
 refine wpT_end ?_
 go_wp2_with fail
 refine (tell_ok reg 1 W (HR.out.upd0 UX.out) HL.out.1.1 HL.out.1.2 (Nat.le_trans HL.out.2.1 UX.out.size) HL.out.2.2).mono ?_
 rintro e w4 ⟨rfl,hp⟩
 have HP:=Zh (hp.pre UX.out)
 clear hp e0 e2
 go_wp2_with fail
 go_ret
 exact ⟨rfl,HP.out⟩
theorem ask_has0 {H rb:Nat} {F:List Nat} {ks:List Int} {r:RS} (c reg ar an br bn:Int) (vb ve:Value) (w:World) (h:Run H rb F ks w r) (hc:isC r.s c=true) (h0:0≤reg) (h8:reg≤8) (ha:0≤ar∧ar≤8) (hb:0≤br∧br≤8) (hk3:True) (hH:H≤w.heap.size) (hl:r.told.length + 1≤201 * 1000) (hg:get (coll r.s c.toNat) (keyV r ar an)=none) :
 Calls Tryz.prog 122 #[.pointer (some ⟨rb,0,none⟩),.agg #[.int .i64 4,.int .i64 c,.int .i64 reg,.int .i64 ar,.int .i64 an,.int .i64 br,.int .i64 bn,vb,ve]] w fun e w' => e=.returned .nilIface∧RunPost H rb F ks (tell r reg 0) w w':=by
 have HR:=Zh h
 obtain ⟨sb,FM,hM⟩:=h.mdl
 have HM:=Zh hM
 have HC:=Zh hc
 have H3:=Zh hk3
 have HAB:=Zh (And.intro ha hb)
 have HL:=Zh (And.intro (And.intro h0 h8) (And.intro hH hl))
 obtain ⟨z,hz⟩:∃ z,keyV r ar an=z:=⟨_,rfl⟩
 have HZ:=Zh hz
 clear hz
 rw [HZ.out] at hg
 have HG:=Zh hg
 clear hg
 have hrb:=HR.out.lt
 clear h hM hc hk3 ha hb h0 h8 hH hl
 go_enter Tryz.func122,Tryz.ntmps122
 go_wp2_with fail
 have XB:Hid (Blk (w.alloc (.cells #[.int .i64 4,.int .i64 c,.int .i64 reg,.int .i64 ar,.int .i64 an,.int .i64 br,.int .i64 bn,vb,ve] 62)) w.heap.size 62 #[.int .i64 4,.int .i64 c,.int .i64 reg,.int .i64 ar,.int .i64 an,.int .i64 br,.int .i64 bn,vb,ve]):=Zh (Blk.new w _ _)
 have UA:Hid (Upd [] w (w.alloc (.cells #[.int .i64 4,.int .i64 c,.int .i64 reg,.int .i64 ar,.int .i64 an,.int .i64 br,.int .i64 bn,vb,ve] 62))):=Zh ((Upd.refl [] w).alloc _)
 generalize (w.alloc (.cells #[.int .i64 4,.int .i64 c,.int .i64 reg,.int .i64 ar,.int .i64 an,.int .i64 br,.int .i64 bn,vb,ve] 62))=w1 at *
 have CS:Hid (∀ W,Upd [] w1.drew W→W.cell? ⟨w.heap.size,1,none⟩=some (.int .i64 c)∧W.cell? ⟨w.heap.size,3,none⟩=some (.int .i64 ar)∧W.cell? ⟨w.heap.size,4,none⟩=some (.int .i64 an)∧W.cell? ⟨w.heap.size,5,none⟩=some (.int .i64 br)∧W.cell? ⟨w.heap.size,6,none⟩=some (.int .i64 bn)∧W.cell? ⟨rb,0,none⟩=some (.pointer (some ⟨sb,0,none⟩))):=Zh (fun W hW => by
  have hu:=(Upd.refl [] w1).drew.trans hW
  have hb:=XB.out.upd hu (by simp)
  exact ⟨hb.cell 1,hb.cell 3,hb.cell 4,hb.cell 5,hb.cell 6,(HM.out W (UA.out.trans hu)).2⟩)
 refine wp_invN [(9,.det (.int .i64 z)),(10,.det (.tuple #[.int .i64 0,.bool false,.nilIface]))] [] (by kernel_rfl) (by kernel_rfl) (by kernel_rfl) ⟨lasts_det _,lasts_det _,trivial⟩ ?_
 iterate 9 (
  with_reducible apply wpV_light
  ·simp only [lightOp]
  ·intro W hU hF
   have f0:=CS.out W hU
   clear hU hF
   go_simp
   exact rfl
  simp only [aP])
 refine wpV_heavy (by simp only [lightOp]) (by rfl) (fun W hU hk hF K hK => ?_) ?_
 ·go_wp2_with fail
  refine (key_ok ar an W (HR.out.upd0 (UA.out.trans ((Upd.refl [] w1).drew.trans hU))) HAB.out.1).mono ?_
  rintro e wx ⟨rfl,ux⟩
  go_wp2_with fail
  rw [HZ.out]
  exact hK.out _ _ (outV_new rfl rfl (by intro b hb; cases hb) ux)
 rintro _ rfl
 simp only [aP]
 refine wpV_heavy (by simp only [lightOp]) (by rfl) (fun W hU hk hF K hK => ?_) ?_
 ·go_wp2_with fail
  refine (m_get H sb FM r.s c z W (HM.out W (UA.out.trans ((Upd.refl [] w1).drew.trans hU))).1).mono ?_
  rintro e wx ⟨v,rfl,ev,ux⟩
  simp only [HC.out,HG.out,Option.getD_some,Option.isSome_some,Option.getD_none,Option.isSome_none,if_true] at ev ⊢
  obtain rfl:=errv_zero ev
  go_wp2_with fail
  exact hK.out _ _ (outV_new rfl rfl (by intro b hb; cases hb) ux)
 rintro _ rfl
 simp only [aP]
 iterate 7 (
  with_reducible apply wpV_light
  ·simp only [lightOp]
  ·intro W hU hF
   have f0:=CS.out W hU
   clear hU hF
   go_simp
   exact rfl
  simp only [aP])
 refine wpV_end (fun W hU _ hF => ?_)
 have UX:Hid (Upd [] w W):=Zh (UA.out.trans ((Upd.refl [] w1).drew.trans hU))
 have BX:Hid (Blk W w.heap.size 62 _):=Zh (XB.out.upd ((Upd.refl [] w1).drew.trans hU) (by simp))
 have e0:W.cell? ⟨w.heap.size,0,none⟩=some (.int .i64 4):=BX.out.cell 0
 have e2:W.cell? ⟨w.heap.size,2,none⟩=some (.int .i64 reg):=BX.out.cell 2
 clear hU hF
 refine wpT_end ?_
 go_wp2_with fail
 refine (tell_ok reg 0 W (HR.out.upd0 UX.out) HL.out.1.1 HL.out.1.2 (Nat.le_trans HL.out.2.1 UX.out.size) HL.out.2.2).mono ?_
 rintro e w4 ⟨rfl,hp⟩
 have HP:=Zh (hp.pre UX.out)
 clear hp e0 e2
 go_wp2_with fail
 go_ret
 exact ⟨rfl,HP.out⟩
theorem ask_ceil1 {H rb:Nat} {F:List Nat} {ks:List Int} {r:RS} (c reg ar an br bn:Int) (vb ve:Value) (w:World) (h:Run H rb F ks w r) (hc:isC r.s c=true) (h0:0≤reg) (h8:reg≤8) (ha:0≤ar∧ar≤8) (hb:0≤br∧br≤8) (hk3:oErr r.s c=0) (hH:H≤w.heap.size) (hl:r.told.length + 1≤201 * 1000) (g:Int) (hg:ceilL (coll r.s c.toNat) (keyV r ar an)=some g) :
 Calls Tryz.prog 122 #[.pointer (some ⟨rb,0,none⟩),.agg #[.int .i64 6,.int .i64 c,.int .i64 reg,.int .i64 ar,.int .i64 an,.int .i64 br,.int .i64 bn,vb,ve]] w fun e w' => e=.returned .nilIface∧RunPost H rb F ks (tell r reg g) w w':=by
 have HR:=Zh h
 obtain ⟨sb,FM,hM⟩:=h.mdl
 have HM:=Zh hM
 have HC:=Zh hc
 have H3:=Zh hk3
 have HAB:=Zh (And.intro ha hb)
 have HL:=Zh (And.intro (And.intro h0 h8) (And.intro hH hl))
 obtain ⟨z,hz⟩:∃ z,keyV r ar an=z:=⟨_,rfl⟩
 have HZ:=Zh hz
 clear hz
 have HG:Hid (ceilC r.s c z=some g):=Zh (by unfold ceilC; rw [if_pos H3.out,← HZ.out]; exact hg)
 clear hg
 have hrb:=HR.out.lt
 clear h hM hc hk3 ha hb h0 h8 hH hl
 go_enter Tryz.func122,Tryz.ntmps122
 go_wp2_with fail
 have XB:Hid (Blk (w.alloc (.cells #[.int .i64 6,.int .i64 c,.int .i64 reg,.int .i64 ar,.int .i64 an,.int .i64 br,.int .i64 bn,vb,ve] 62)) w.heap.size 62 #[.int .i64 6,.int .i64 c,.int .i64 reg,.int .i64 ar,.int .i64 an,.int .i64 br,.int .i64 bn,vb,ve]):=Zh (Blk.new w _ _)
 have UA:Hid (Upd [] w (w.alloc (.cells #[.int .i64 6,.int .i64 c,.int .i64 reg,.int .i64 ar,.int .i64 an,.int .i64 br,.int .i64 bn,vb,ve] 62))):=Zh ((Upd.refl [] w).alloc _)
 generalize (w.alloc (.cells #[.int .i64 6,.int .i64 c,.int .i64 reg,.int .i64 ar,.int .i64 an,.int .i64 br,.int .i64 bn,vb,ve] 62))=w1 at *
 have CS:Hid (∀ W,Upd [] w1.drew W→W.cell? ⟨w.heap.size,1,none⟩=some (.int .i64 c)∧W.cell? ⟨w.heap.size,3,none⟩=some (.int .i64 ar)∧W.cell? ⟨w.heap.size,4,none⟩=some (.int .i64 an)∧W.cell? ⟨w.heap.size,5,none⟩=some (.int .i64 br)∧W.cell? ⟨w.heap.size,6,none⟩=some (.int .i64 bn)∧W.cell? ⟨rb,0,none⟩=some (.pointer (some ⟨sb,0,none⟩))):=Zh (fun W hW => by
  have hu:=(Upd.refl [] w1).drew.trans hW
  have hb:=XB.out.upd hu (by simp)
  exact ⟨hb.cell 1,hb.cell 3,hb.cell 4,hb.cell 5,hb.cell 6,(HM.out W (UA.out.trans hu)).2⟩)
 refine wp_invN [(9,.det (.int .i64 z)),(10,.det (.tuple #[.int .i64 g,.bool true,.nilIface]))] [] (by kernel_rfl) (by kernel_rfl) (by kernel_rfl) ⟨lasts_det _,lasts_det _,trivial⟩ ?_
 iterate 9 (
  with_reducible apply wpV_light
  ·simp only [lightOp]
  ·intro W hU hF
   have f0:=CS.out W hU
   clear hU hF
   go_simp
   exact rfl
  simp only [aP])
 refine wpV_heavy (by simp only [lightOp]) (by rfl) (fun W hU hk hF K hK => ?_) ?_
 ·go_wp2_with fail
  refine (key_ok ar an W (HR.out.upd0 (UA.out.trans ((Upd.refl [] w1).drew.trans hU))) HAB.out.1).mono ?_
  rintro e wx ⟨rfl,ux⟩
  go_wp2_with fail
  rw [HZ.out]
  exact hK.out _ _ (outV_new rfl rfl (by intro b hb; cases hb) ux)
 rintro _ rfl
 simp only [aP]
 refine wpV_heavy (by simp only [lightOp]) (by rfl) (fun W hU hk hF K hK => ?_) ?_
 ·go_wp2_with fail
  refine (m_ceil H sb FM r.s c z W (HM.out W (UA.out.trans ((Upd.refl [] w1).drew.trans hU))).1).mono ?_
  rintro e wx ⟨v,rfl,ev,ux⟩
  simp only [HC.out,H3.out,HG.out,Option.getD_some,Option.isSome_some,Option.getD_none,Option.isSome_none,if_true] at ev ⊢
  obtain rfl:=errv_zero ev
  go_wp2_with fail
  exact hK.out _ _ (outV_new rfl rfl (by intro b hb; cases hb) ux)
 rintro _ rfl
 simp only [aP]
 iterate 7 (
  with_reducible apply wpV_light
  ·simp only [lightOp]
  ·intro W hU hF
   have f0:=CS.out W hU
   clear hU hF
   go_simp
   exact rfl
  simp only [aP])
 refine wpV_end (fun W hU _ hF => ?_)
 have UX:Hid (Upd [] w W):=Zh (UA.out.trans ((Upd.refl [] w1).drew.trans hU))
 have BX:Hid (Blk W w.heap.size 62 _):=Zh (XB.out.upd ((Upd.refl [] w1).drew.trans hU) (by simp))
 have e0:W.cell? ⟨w.heap.size,0,none⟩=some (.int .i64 6):=BX.out.cell 0
 have e2:W.cell? ⟨w.heap.size,2,none⟩=some (.int .i64 reg):=BX.out.cell 2
 clear hU hF
 refine wpT_end ?_
 go_wp2_with fail
 refine (tell_ok reg g W (HR.out.upd0 UX.out) HL.out.1.1 HL.out.1.2 (Nat.le_trans HL.out.2.1 UX.out.size) HL.out.2.2).mono ?_
 rintro e w4 ⟨rfl,hp⟩
 have HP:=Zh (hp.pre UX.out)
 clear hp e0 e2
 go_wp2_with fail
 go_ret
 exact ⟨rfl,HP.out⟩
theorem ask_ceil0 {H rb:Nat} {F:List Nat} {ks:List Int} {r:RS} (c reg ar an br bn:Int) (vb ve:Value) (w:World) (h:Run H rb F ks w r) (hc:isC r.s c=true) (h0:0≤reg) (h8:reg≤8) (ha:0≤ar∧ar≤8) (hb:0≤br∧br≤8) (hk3:oErr r.s c=0) (hH:H≤w.heap.size) (hl:r.told.length + 1≤201 * 1000) (hg:ceilL (coll r.s c.toNat) (keyV r ar an)=none) :
 Calls Tryz.prog 122 #[.pointer (some ⟨rb,0,none⟩),.agg #[.int .i64 6,.int .i64 c,.int .i64 reg,.int .i64 ar,.int .i64 an,.int .i64 br,.int .i64 bn,vb,ve]] w fun e w' => e=.returned .nilIface∧RunPost H rb F ks (tell r reg (-1)) w w':=by
 have HR:=Zh h
 obtain ⟨sb,FM,hM⟩:=h.mdl
 have HM:=Zh hM
 have HC:=Zh hc
 have H3:=Zh hk3
 have HAB:=Zh (And.intro ha hb)
 have HL:=Zh (And.intro (And.intro h0 h8) (And.intro hH hl))
 obtain ⟨z,hz⟩:∃ z,keyV r ar an=z:=⟨_,rfl⟩
 have HZ:=Zh hz
 clear hz
 have HG:Hid (ceilC r.s c z=none):=Zh (by unfold ceilC; rw [if_pos H3.out,← HZ.out]; exact hg)
 clear hg
 have hrb:=HR.out.lt
 clear h hM hc hk3 ha hb h0 h8 hH hl
 go_enter Tryz.func122,Tryz.ntmps122
 go_wp2_with fail
 have XB:Hid (Blk (w.alloc (.cells #[.int .i64 6,.int .i64 c,.int .i64 reg,.int .i64 ar,.int .i64 an,.int .i64 br,.int .i64 bn,vb,ve] 62)) w.heap.size 62 #[.int .i64 6,.int .i64 c,.int .i64 reg,.int .i64 ar,.int .i64 an,.int .i64 br,.int .i64 bn,vb,ve]):=Zh (Blk.new w _ _)
 have UA:Hid (Upd [] w (w.alloc (.cells #[.int .i64 6,.int .i64 c,.int .i64 reg,.int .i64 ar,.int .i64 an,.int .i64 br,.int .i64 bn,vb,ve] 62))):=Zh ((Upd.refl [] w).alloc _)
 generalize (w.alloc (.cells #[.int .i64 6,.int .i64 c,.int .i64 reg,.int .i64 ar,.int .i64 an,.int .i64 br,.int .i64 bn,vb,ve] 62))=w1 at *
 have CS:Hid (∀ W,Upd [] w1.drew W→W.cell? ⟨w.heap.size,1,none⟩=some (.int .i64 c)∧W.cell? ⟨w.heap.size,3,none⟩=some (.int .i64 ar)∧W.cell? ⟨w.heap.size,4,none⟩=some (.int .i64 an)∧W.cell? ⟨w.heap.size,5,none⟩=some (.int .i64 br)∧W.cell? ⟨w.heap.size,6,none⟩=some (.int .i64 bn)∧W.cell? ⟨rb,0,none⟩=some (.pointer (some ⟨sb,0,none⟩))):=Zh (fun W hW => by
  have hu:=(Upd.refl [] w1).drew.trans hW
  have hb:=XB.out.upd hu (by simp)
  exact ⟨hb.cell 1,hb.cell 3,hb.cell 4,hb.cell 5,hb.cell 6,(HM.out W (UA.out.trans hu)).2⟩)
 refine wp_invN [(9,.det (.int .i64 z)),(10,.det (.tuple #[.int .i64 0,.bool false,.nilIface]))] [] (by kernel_rfl) (by kernel_rfl) (by kernel_rfl) ⟨lasts_det _,lasts_det _,trivial⟩ ?_
 iterate 9 (
  with_reducible apply wpV_light
  ·simp only [lightOp]
  ·intro W hU hF
   have f0:=CS.out W hU
   clear hU hF
   go_simp
   exact rfl
  simp only [aP])
 refine wpV_heavy (by simp only [lightOp]) (by rfl) (fun W hU hk hF K hK => ?_) ?_
 ·go_wp2_with fail
  refine (key_ok ar an W (HR.out.upd0 (UA.out.trans ((Upd.refl [] w1).drew.trans hU))) HAB.out.1).mono ?_
  rintro e wx ⟨rfl,ux⟩
  go_wp2_with fail
  rw [HZ.out]
  exact hK.out _ _ (outV_new rfl rfl (by intro b hb; cases hb) ux)
 rintro _ rfl
 simp only [aP]
 refine wpV_heavy (by simp only [lightOp]) (by rfl) (fun W hU hk hF K hK => ?_) ?_
 ·go_wp2_with fail
  refine (m_ceil H sb FM r.s c z W (HM.out W (UA.out.trans ((Upd.refl [] w1).drew.trans hU))).1).mono ?_
  rintro e wx ⟨v,rfl,ev,ux⟩
  simp only [HC.out,H3.out,HG.out,Option.getD_some,Option.isSome_some,Option.getD_none,Option.isSome_none,if_true] at ev ⊢
  obtain rfl:=errv_zero ev
  go_wp2_with fail
  exact hK.out _ _ (outV_new rfl rfl (by intro b hb; cases hb) ux)
 rintro _ rfl
 simp only [aP]
 iterate 7 (
  with_reducible apply wpV_light
  ·simp only [lightOp]
  ·intro W hU hF
   have f0:=CS.out W hU
   clear hU hF
   go_simp
   exact rfl
  simp only [aP])
 refine wpV_end (fun W hU _ hF => ?_)
 have UX:Hid (Upd [] w W):=Zh (UA.out.trans ((Upd.refl [] w1).drew.trans hU))
 have BX:Hid (Blk W w.heap.size 62 _):=Zh (XB.out.upd ((Upd.refl [] w1).drew.trans hU) (by simp))
 have e0:W.cell? ⟨w.heap.size,0,none⟩=some (.int .i64 6):=BX.out.cell 0
 have e2:W.cell? ⟨w.heap.size,2,none⟩=some (.int .i64 reg):=BX.out.cell 2
 clear hU hF
 refine wpT_end ?_
 go_wp2_with fail
 refine (tell_ok reg (-1) W (HR.out.upd0 UX.out) HL.out.1.1 HL.out.1.2 (Nat.le_trans HL.out.2.1 UX.out.size) HL.out.2.2).mono ?_
 rintro e w4 ⟨rfl,hp⟩
 have HP:=Zh (hp.pre UX.out)
 clear hp e0 e2
 go_wp2_with fail
 go_ret
 exact ⟨rfl,HP.out⟩
theorem ask_size {H rb:Nat} {F:List Nat} {ks:List Int} {r:RS} (c reg ar an br bn:Int) (vb ve:Value) (w:World) (h:Run H rb F ks w r) (hc:isC r.s c=true) (h0:0≤reg) (h8:reg≤8) (ha:0≤ar∧ar≤8) (hb:0≤br∧br≤8) (hk3:True) (hH:H≤w.heap.size) (hl:r.told.length + 1≤201 * 1000) (g:Int) (hg:((coll r.s c.toNat).length:Int)=g) :
 Calls Tryz.prog 122 #[.pointer (some ⟨rb,0,none⟩),.agg #[.int .i64 5,.int .i64 c,.int .i64 reg,.int .i64 ar,.int .i64 an,.int .i64 br,.int .i64 bn,vb,ve]] w fun e w' => e=.returned .nilIface∧RunPost H rb F ks (tell r reg g) w w':=by
 have HR:=Zh h
 obtain ⟨sb,FM,hM⟩:=h.mdl
 have HM:=Zh hM
 have HC:=Zh hc
 have H3:=Zh hk3
 have HAB:=Zh (And.intro ha hb)
 have HL:=Zh (And.intro (And.intro h0 h8) (And.intro hH hl))
 have HG:=Zh hg
 clear hg
 have hrb:=HR.out.lt
 clear h hM hc hk3 ha hb h0 h8 hH hl
 go_enter Tryz.func122,Tryz.ntmps122
 go_wp2_with fail
 have XB:Hid (Blk (w.alloc (.cells #[.int .i64 5,.int .i64 c,.int .i64 reg,.int .i64 ar,.int .i64 an,.int .i64 br,.int .i64 bn,vb,ve] 62)) w.heap.size 62 #[.int .i64 5,.int .i64 c,.int .i64 reg,.int .i64 ar,.int .i64 an,.int .i64 br,.int .i64 bn,vb,ve]):=Zh (Blk.new w _ _)
 have UA:Hid (Upd [] w (w.alloc (.cells #[.int .i64 5,.int .i64 c,.int .i64 reg,.int .i64 ar,.int .i64 an,.int .i64 br,.int .i64 bn,vb,ve] 62))):=Zh ((Upd.refl [] w).alloc _)
 generalize (w.alloc (.cells #[.int .i64 5,.int .i64 c,.int .i64 reg,.int .i64 ar,.int .i64 an,.int .i64 br,.int .i64 bn,vb,ve] 62))=w1 at *
 have CS:Hid (∀ W,Upd [] w1.drew W→W.cell? ⟨w.heap.size,1,none⟩=some (.int .i64 c)∧W.cell? ⟨w.heap.size,3,none⟩=some (.int .i64 ar)∧W.cell? ⟨w.heap.size,4,none⟩=some (.int .i64 an)∧W.cell? ⟨w.heap.size,5,none⟩=some (.int .i64 br)∧W.cell? ⟨w.heap.size,6,none⟩=some (.int .i64 bn)∧W.cell? ⟨rb,0,none⟩=some (.pointer (some ⟨sb,0,none⟩))):=Zh (fun W hW => by
  have hu:=(Upd.refl [] w1).drew.trans hW
  have hb:=XB.out.upd hu (by simp)
  exact ⟨hb.cell 1,hb.cell 3,hb.cell 4,hb.cell 5,hb.cell 6,(HM.out W (UA.out.trans hu)).2⟩)
 refine wp_invN [(6,.det (.tuple #[.int .i64 g,.nilIface]))] [] (by kernel_rfl) (by kernel_rfl) (by kernel_rfl) ⟨lasts_det _,trivial⟩ ?_
 iterate 6 (
  with_reducible apply wpV_light
  ·simp only [lightOp]
  ·intro W hU hF
   have f0:=CS.out W hU
   clear hU hF
   go_simp
   exact rfl
  simp only [aP])
 refine wpV_heavy (by simp only [lightOp]) (by rfl) (fun W hU hk hF K hK => ?_) ?_
 ·go_wp2_with fail
  refine (m_size H sb FM r.s c W (HM.out W (UA.out.trans ((Upd.refl [] w1).drew.trans hU))).1).mono ?_
  rintro e wx ⟨v,rfl,ev,ux⟩
  simp only [HC.out,HG.out,if_true] at ev ⊢
  obtain rfl:=errv_zero ev
  go_wp2_with fail
  exact hK.out _ _ (outV_new rfl rfl (by intro b hb; cases hb) ux)
 rintro _ rfl
 simp only [aP]
 iterate 5 (
  with_reducible apply wpV_light
  ·simp only [lightOp]
  ·intro W hU hF
   have f0:=CS.out W hU
   clear hU hF
   go_simp
   exact rfl
  simp only [aP])
 refine wpV_end (fun W hU _ hF => ?_)
 have UX:Hid (Upd [] w W):=Zh (UA.out.trans ((Upd.refl [] w1).drew.trans hU))
 have BX:Hid (Blk W w.heap.size 62 _):=Zh (XB.out.upd ((Upd.refl [] w1).drew.trans hU) (by simp))
 have e0:W.cell? ⟨w.heap.size,0,none⟩=some (.int .i64 5):=BX.out.cell 0
 have e2:W.cell? ⟨w.heap.size,2,none⟩=some (.int .i64 reg):=BX.out.cell 2
 clear hU hF
 refine wpT_end ?_
 go_wp2_with fail
 refine (tell_ok reg g W (HR.out.upd0 UX.out) HL.out.1.1 HL.out.1.2 (Nat.le_trans HL.out.2.1 UX.out.size) HL.out.2.2).mono ?_
 rintro e w4 ⟨rfl,hp⟩
 have HP:=Zh (hp.pre UX.out)
 clear hp e0 e2
 go_wp2_with fail
 go_ret
 exact ⟨rfl,HP.out⟩
theorem ask_range {H rb:Nat} {F:List Nat} {ks:List Int} {r:RS} (c reg ar an br bn:Int) (vb ve:Value) (w:World) (h:Run H rb F ks w r) (hc:isC r.s c=true) (h0:0≤reg) (h8:reg≤8) (ha:0≤ar∧ar≤8) (hb:0≤br∧br≤8) (hk3:oErr r.s c=0) (hH:H≤w.heap.size) (hl:r.told.length + 1≤201 * 1000) (g:Int) (hg:(rangeL (coll r.s c.toNat) (keyV r ar an) (keyV r br bn):Int)=g) :
 Calls Tryz.prog 122 #[.pointer (some ⟨rb,0,none⟩),.agg #[.int .i64 7,.int .i64 c,.int .i64 reg,.int .i64 ar,.int .i64 an,.int .i64 br,.int .i64 bn,vb,ve]] w fun e w' => e=.returned .nilIface∧RunPost H rb F ks (tell r reg g) w w':=by
 have HR:=Zh h
 obtain ⟨sb,FM,hM⟩:=h.mdl
 have HM:=Zh hM
 have HC:=Zh hc
 have H3:=Zh hk3
 have HAB:=Zh (And.intro ha hb)
 have HL:=Zh (And.intro (And.intro h0 h8) (And.intro hH hl))
 obtain ⟨z,hz⟩:∃ z,keyV r ar an=z:=⟨_,rfl⟩
 have HZ:=Zh hz
 clear hz
 obtain ⟨y,hy⟩:∃ y,keyV r br bn=y:=⟨_,rfl⟩
 have HY:=Zh hy
 have HG:Hid ((rangeC r.s c z y:Int)=g):=Zh (by unfold rangeC; rw [if_pos H3.out,← HZ.out,← HY.out]; exact hg)
 clear hg hy
 have hrb:=HR.out.lt
 clear h hM hc hk3 ha hb h0 h8 hH hl
 go_enter Tryz.func122,Tryz.ntmps122
 go_wp2_with fail
 have XB:Hid (Blk (w.alloc (.cells #[.int .i64 7,.int .i64 c,.int .i64 reg,.int .i64 ar,.int .i64 an,.int .i64 br,.int .i64 bn,vb,ve] 62)) w.heap.size 62 #[.int .i64 7,.int .i64 c,.int .i64 reg,.int .i64 ar,.int .i64 an,.int .i64 br,.int .i64 bn,vb,ve]):=Zh (Blk.new w _ _)
 have UA:Hid (Upd [] w (w.alloc (.cells #[.int .i64 7,.int .i64 c,.int .i64 reg,.int .i64 ar,.int .i64 an,.int .i64 br,.int .i64 bn,vb,ve] 62))):=Zh ((Upd.refl [] w).alloc _)
 generalize (w.alloc (.cells #[.int .i64 7,.int .i64 c,.int .i64 reg,.int .i64 ar,.int .i64 an,.int .i64 br,.int .i64 bn,vb,ve] 62))=w1 at *
 have CS:Hid (∀ W,Upd [] w1.drew W→W.cell? ⟨w.heap.size,1,none⟩=some (.int .i64 c)∧W.cell? ⟨w.heap.size,3,none⟩=some (.int .i64 ar)∧W.cell? ⟨w.heap.size,4,none⟩=some (.int .i64 an)∧W.cell? ⟨w.heap.size,5,none⟩=some (.int .i64 br)∧W.cell? ⟨w.heap.size,6,none⟩=some (.int .i64 bn)∧W.cell? ⟨rb,0,none⟩=some (.pointer (some ⟨sb,0,none⟩))):=Zh (fun W hW => by
  have hu:=(Upd.refl [] w1).drew.trans hW
  have hb:=XB.out.upd hu (by simp)
  exact ⟨hb.cell 1,hb.cell 3,hb.cell 4,hb.cell 5,hb.cell 6,(HM.out W (UA.out.trans hu)).2⟩)
 refine wp_invN [(9,.det (.int .i64 z)),(13,.det (.int .i64 y)),(14,.det (.tuple #[.int .i64 g,.nilIface]))] [] (by kernel_rfl) (by kernel_rfl) (by kernel_rfl) ⟨lasts_det _,lasts_det _,lasts_det _,trivial⟩ ?_
 iterate 9 (
  with_reducible apply wpV_light
  ·simp only [lightOp]
  ·intro W hU hF
   have f0:=CS.out W hU
   clear hU hF
   go_simp
   exact rfl
  simp only [aP])
 refine wpV_heavy (by simp only [lightOp]) (by rfl) (fun W hU hk hF K hK => ?_) ?_
 ·go_wp2_with fail
  refine (key_ok ar an W (HR.out.upd0 (UA.out.trans ((Upd.refl [] w1).drew.trans hU))) HAB.out.1).mono ?_
  rintro e wx ⟨rfl,ux⟩
  go_wp2_with fail
  rw [HZ.out]
  exact hK.out _ _ (outV_new rfl rfl (by intro b hb; cases hb) ux)
 rintro _ rfl
 simp only [aP]
 iterate 3 (
  with_reducible apply wpV_light
  ·simp only [lightOp]
  ·intro W hU hF
   have f0:=CS.out W hU
   clear hU hF
   go_simp
   exact rfl
  simp only [aP])
 refine wpV_heavy (by simp only [lightOp]) (by rfl) (fun W hU hk hF K hK => ?_) ?_
 ·go_wp2_with fail
  refine (key_ok br bn W (HR.out.upd0 (UA.out.trans ((Upd.refl [] w1).drew.trans hU))) HAB.out.2).mono ?_
  rintro e wx ⟨rfl,ux⟩
  go_wp2_with fail
  rw [HY.out]
  exact hK.out _ _ (outV_new rfl rfl (by intro b hb; cases hb) ux)
 rintro _ rfl
 simp only [aP]
 refine wpV_heavy (by simp only [lightOp]) (by rfl) (fun W hU hk hF K hK => ?_) ?_
 ·go_wp2_with fail
  refine (m_range H sb FM r.s c z y W (HM.out W (UA.out.trans ((Upd.refl [] w1).drew.trans hU))).1).mono ?_
  rintro e wx ⟨v,rfl,ev,ux⟩
  simp only [HC.out,H3.out,HG.out,if_true] at ev ⊢
  obtain rfl:=errv_zero ev
  go_wp2_with fail
  exact hK.out _ _ (outV_new rfl rfl (by intro b hb; cases hb) ux)
 rintro _ rfl
 simp only [aP]
 iterate 5 (
  with_reducible apply wpV_light
  ·simp only [lightOp]
  ·intro W hU hF
   have f0:=CS.out W hU
   clear hU hF
   go_simp
   exact rfl
  simp only [aP])
 refine wpV_end (fun W hU _ hF => ?_)
 have UX:Hid (Upd [] w W):=Zh (UA.out.trans ((Upd.refl [] w1).drew.trans hU))
 have BX:Hid (Blk W w.heap.size 62 _):=Zh (XB.out.upd ((Upd.refl [] w1).drew.trans hU) (by simp))
 have e0:W.cell? ⟨w.heap.size,0,none⟩=some (.int .i64 7):=BX.out.cell 0
 have e2:W.cell? ⟨w.heap.size,2,none⟩=some (.int .i64 reg):=BX.out.cell 2
 clear hU hF
 refine wpT_end ?_
 go_wp2_with fail
 refine (tell_ok reg g W (HR.out.upd0 UX.out) HL.out.1.1 HL.out.1.2 (Nat.le_trans HL.out.2.1 UX.out.size) HL.out.2.2).mono ?_
 rintro e w4 ⟨rfl,hp⟩
 have HP:=Zh (hp.pre UX.out)
 clear hp e0 e2
 go_wp2_with fail
 go_ret
 exact ⟨rfl,HP.out⟩
theorem isC_lt {s:MS} {c:Int} (h:isC s c=true):c.toNat < s.L.length:=by
 obtain ⟨i,rfl,hi⟩:=isC_form h
 simpa using hi
theorem m_full (B sb:Nat) (F:List Nat) (s:MS) (c k v:Int) (w:World) (h:Mdl B sb F w s) (hcc:isC s c=true) (h8:putE (coll s c.toNat) k=8) :
 Calls Tryz.prog 137 #[.pointer (some ⟨sb,0,none⟩),.int .i64 c,.int .i64 k,.int .i64 v] w fun e w' => e=.returned (.iface 40 (.int .i64 8))∧w=w':=by
 have h9:(get (coll s c.toNat) k).isSome=false∧100≤(coll s c.toNat).length:=by
  unfold putE at h8
  by_cases h0:(get (coll s c.toNat) k).isSome=false∧100≤(coll s c.toNat).length
  ·exact h0
  ·rw [if_neg h0] at h8; omega
 have HQ:=Zh h9
 have HCC:=Zh hcc
 clear h8 h9 hcc
 have H:=Zh h
 obtain ⟨g,vk,gc,cc,ms,hF,h⟩:=h
 have HF:=Zh hF
 have HS:=Zh h
 have K8:=Zh (show s.L.length≤8 by have:=g.k8; rw [g.kl] at this; exact this)
 clear g hF h
 go_enter Tryz.func137,Tryz.ntmps137
 go_wp2_with fail
 refine (m_coll B sb vk gc cc ms s c w HS.out K8.out).mono ?_
 rintro e w1 (⟨hc,rfl,i,m,rfl,hi,hm,rfl⟩ | ⟨hc,u1,gf,rfl,bf⟩)
 ·obtain ⟨m',hm',him⟩:=HS.out.at_ hi
  obtain rfl:m'=m:=by rw [hm] at hm'; exact (Option.some.inj hm').symm
  have HQ':=HQ.out
  rw [Int.toNat_natCast] at HQ'
  have hg:get (coll s i) k=none:=by
   cases hx:get (coll s i) k with
   | none => rfl
   | some _ => rw [hx] at HQ'; simp at HQ'
  have l0:(Instr.lookup 149 (.map (some m')) (.int .i64 k) true).run Tryz.prog w=.ok (.tuple #[.int .i64 0,.bool false]) w:=by
   have hr:=run_lookup_int (P:=Tryz.prog) (z:=.int .i64 0) (mt:=149) Tryz.underlying149 Tryz.underlying3 (w:=w) (by kernel_rfl) him k
   rw [hr]
   unfold mapI
   rw [hg]
   rfl
  obtain ⟨N,hN⟩:∃ N,(coll s i).length=N:=⟨_,rfl⟩
  have ln:(Builtin.len_ #[149] 3 #[.map (some m')]).run Tryz.prog w=.ok (.int .i64 N) w:=hN ▸ run_len_int Tryz.underlying149 him _
  have d:decide ((100:Int)≤(N:Int))=true:=by have:=HQ'.2; rw [hN] at this; simp; omega
  clear hm hm' hi hc him hN hg HQ'
  go_wp2_with fail
  go_ret
  exact ⟨rfl,rfl⟩
 ·rw [HCC.out] at hc; simp at hc
theorem RunSt.setM {H rb sb:Nat} {FM:List Nat} {vt:Value} {ks:List Int} {w w':World} {r:RS} {s':MS} (h:RunSt H rb sb FM vt ks w r) (hm:Mdl H sb FM w' s') (hu:Upd FM w w') (hK:s'.K=r.s.K) :
 RunSt H rb sb FM vt ks w' { r with s:=s' }∧Frm (fpR rb vt FM) (fpR rb vt FM) w w' :=
 ⟨⟨h.blk.upd hu h.rm,hm,own_upd h.told hu (fun b hb => h.tm b hb),h.low,h.rm,h.tm,⟨hK.trans h.ok.K,h.ok.regs,h.ok.steps,h.ok.told⟩⟩,⟨hu.mono (fun x hx => .inl (by unfold fpR; rw [List.mem_cons,List.mem_append]; exact .inr (.inr hx))),fun k hk => .inl hk⟩⟩
theorem kB_key (r:RS) (a n:Int):kB (keyV r a n):=by
 have:=modI_rng (argV r a n) 64 (by omega)
 unfold kB keyV
 omega
theorem ask_put {H rb:Nat} {F:List Nat} {ks:List Int} {r:RS} (c reg ar an br bn:Int) (vb ve:Value) (w:World) (h:Run H rb F ks w r) (hc:isC r.s c=true) (ha:0≤ar∧ar≤8) (hb:0≤br∧br≤8) (hp:putE (coll r.s c.toNat) (keyV r ar an)=0) :
 Calls Tryz.prog 122 #[.pointer (some ⟨rb,0,none⟩),.agg #[.int .i64 2,.int .i64 c,.int .i64 reg,.int .i64 ar,.int .i64 an,.int .i64 br,.int .i64 bn,vb,ve]] w fun e w' => e=.returned .nilIface∧RunPost H rb F ks { r with s:=mPut r.s c.toNat (keyV r ar an) (valV r br bn) } w w':=by
 have HR:=Zh h
 obtain ⟨sb,FM,vt,hF,h⟩:=h
 have HFE:Hid (fpR rb vt FM=F):=Zh hF.symm
 have HST:=Zh h
 have HM:Hid (∀ w',Upd [] w w'→Mdl H sb FM w' r.s∧w'.cell? ⟨rb,0,none⟩=some (.pointer (some ⟨sb,0,none⟩))):=Zh (fun w' hu => ⟨(HST.out.upd0 hu).mdl,(HST.out.upd0 hu).cells.1⟩)
 have HC:=Zh hc
 have HAB:=Zh (And.intro ha hb)
 have hM:=trivial
 have hk3:=trivial
 have h0:=trivial
 have h8:=trivial
 have hH:=trivial
 have hl:=trivial
 clear hF
 have KBZ:=Zh (kB_key r ar an)
 obtain ⟨z,hz⟩:∃ z,keyV r ar an=z:=⟨_,rfl⟩
 obtain ⟨y,hy⟩:∃ y,valV r br bn=y:=⟨_,rfl⟩
 have HZ:=Zh hz
 have HY:=Zh hy
 rw [hz] at hp KBZ ⊢
 rw [hy]
 have HP:=Zh hp
 clear hz hy hp
 have hrb:=HR.out.lt
 clear h hM hc hk3 ha hb h0 h8 hH hl
 go_enter Tryz.func122,Tryz.ntmps122
 go_wp2_with fail
 have XB:Hid (Blk (w.alloc (.cells #[.int .i64 2,.int .i64 c,.int .i64 reg,.int .i64 ar,.int .i64 an,.int .i64 br,.int .i64 bn,vb,ve] 62)) w.heap.size 62 #[.int .i64 2,.int .i64 c,.int .i64 reg,.int .i64 ar,.int .i64 an,.int .i64 br,.int .i64 bn,vb,ve]):=Zh (Blk.new w _ _)
 have UA:Hid (Upd [] w (w.alloc (.cells #[.int .i64 2,.int .i64 c,.int .i64 reg,.int .i64 ar,.int .i64 an,.int .i64 br,.int .i64 bn,vb,ve] 62))):=Zh ((Upd.refl [] w).alloc _)
 generalize (w.alloc (.cells #[.int .i64 2,.int .i64 c,.int .i64 reg,.int .i64 ar,.int .i64 an,.int .i64 br,.int .i64 bn,vb,ve] 62))=w1 at *
 have CS:Hid (∀ W,Upd [] w1.drew W→W.cell? ⟨w.heap.size,1,none⟩=some (.int .i64 c)∧W.cell? ⟨w.heap.size,3,none⟩=some (.int .i64 ar)∧W.cell? ⟨w.heap.size,4,none⟩=some (.int .i64 an)∧W.cell? ⟨w.heap.size,5,none⟩=some (.int .i64 br)∧W.cell? ⟨w.heap.size,6,none⟩=some (.int .i64 bn)∧W.cell? ⟨rb,0,none⟩=some (.pointer (some ⟨sb,0,none⟩))):=Zh (fun W hW => by
  have hu:=(Upd.refl [] w1).drew.trans hW
  have hb:=XB.out.upd hu (by simp)
  exact ⟨hb.cell 1,hb.cell 3,hb.cell 4,hb.cell 5,hb.cell 6,(HM.out W (UA.out.trans hu)).2⟩)
 refine wp_invNT 14 [(9,.det (.int .i64 z)),(13,.det (.int .i64 y))] [] (by kernel_rfl) (by simp) (by kernel_rfl) (by kernel_rfl) ⟨lasts_det _,lasts_det _,trivial⟩ ?_
 simp only [List.take_succ_cons,List.take_zero,List.drop_succ_cons,List.drop_zero]
 iterate 9 (
  with_reducible apply wpV_light
  ·simp only [lightOp]
  ·intro W hU hF
   have f0:=CS.out W hU
   clear hU hF
   go_simp
   exact rfl
  simp only [aP])
 refine wpV_heavy (by simp only [lightOp]) (by rfl) (fun W hU hk hF K hK => ?_) ?_
 ·go_wp2_with fail
  refine (key_ok ar an W (HR.out.upd0 (UA.out.trans ((Upd.refl [] w1).drew.trans hU))) HAB.out.1).mono ?_
  rintro e wx ⟨rfl,ux⟩
  go_wp2_with fail
  rw [HZ.out]
  exact hK.out _ _ (outV_new rfl rfl (by intro b hb; cases hb) ux)
 rintro _ rfl
 simp only [aP]
 iterate 3 (
  with_reducible apply wpV_light
  ·simp only [lightOp]
  ·intro W hU hF
   have f0:=CS.out W hU
   clear hU hF
   go_simp
   exact rfl
  simp only [aP])
 refine wpV_heavy (by simp only [lightOp]) (by rfl) (fun W hU hk hF K hK => ?_) ?_
 ·go_wp2_with fail
  refine (value_ok br bn W (HR.out.upd0 (UA.out.trans ((Upd.refl [] w1).drew.trans hU))) HAB.out.2).mono ?_
  rintro e wx ⟨rfl,ux⟩
  go_wp2_with fail
  rw [HY.out]
  exact hK.out _ _ (outV_new rfl rfl (by intro b hb; cases hb) ux)
 rintro _ rfl
 simp only [aP]
 refine wpV_end (fun W hU _ hF => ?_)
 have UX:Hid (Upd [] w W):=Zh (UA.out.trans ((Upd.refl [] w1).drew.trans hU))
 clear hU hF
 refine wpT_op (by rfl) (fun K hK => ?_)
 go_wp2_with fail
 refine (m_put H sb FM r.s c z y W (HM.out W UX.out).1 KBZ.out).mono ?_
 rintro e w5 ⟨u,rfl,ev,hm,hu⟩
 simp only [HC.out,HP.out,if_true] at ev hm
 obtain rfl:=errv_zero ev
 have R5:=Zh ((HST.out.upd0 UX.out).setM hm hu (by unfold mPut setC; split <;> rfl))
 clear ev hm hu
 go_wp2_with fail
 refine hK.out _ _ ?_
 clear hK K
 try simp only [aP]
 refine wpT_op (by rfl) (fun K hK => ?_)
 go_wp2_with fail
 refine hK.out _ _ ?_
 clear hK K
 try simp only [aP]
 refine wpT_end ?_
 go_wp2_with fail
 go_ret
 refine ⟨rfl,F,?_,?_⟩
 ·rw [← HFE.out]; exact ⟨sb,FM,vt,rfl,R5.out.1⟩
 ·rw [← HFE.out]; exact R5.out.2.pre UX.out
theorem ask_full {H rb:Nat} {F:List Nat} {ks:List Int} {r:RS} (c reg ar an br bn:Int) (vb ve:Value) (w:World) (h:Run H rb F ks w r) (hc:isC r.s c=true) (ha:0≤ar∧ar≤8) (hb:0≤br∧br≤8) (hp:putE (coll r.s c.toNat) (keyV r ar an)=8) :
 Calls Tryz.prog 122 #[.pointer (some ⟨rb,0,none⟩),.agg #[.int .i64 2,.int .i64 c,.int .i64 reg,.int .i64 ar,.int .i64 an,.int .i64 br,.int .i64 bn,vb,ve]] w fun e w' => e=.returned (.iface 40 (.int .i64 8))∧RunPost H rb F ks r w w':=by
 have HR:=Zh h
 obtain ⟨sb,FM,vt,hF,h⟩:=h
 have HFE:Hid (fpR rb vt FM=F):=Zh hF.symm
 have HST:=Zh h
 have HM:Hid (∀ w',Upd [] w w'→Mdl H sb FM w' r.s∧w'.cell? ⟨rb,0,none⟩=some (.pointer (some ⟨sb,0,none⟩))):=Zh (fun w' hu => ⟨(HST.out.upd0 hu).mdl,(HST.out.upd0 hu).cells.1⟩)
 have HC:=Zh hc
 have HAB:=Zh (And.intro ha hb)
 have hM:=trivial
 have hk3:=trivial
 have h0:=trivial
 have h8:=trivial
 have hH:=trivial
 have hl:=trivial
 clear hF
 obtain ⟨z,hz⟩:∃ z,keyV r ar an=z:=⟨_,rfl⟩
 obtain ⟨y,hy⟩:∃ y,valV r br bn=y:=⟨_,rfl⟩
 have HZ:=Zh hz
 have HY:=Zh hy
 rw [hz] at hp
 have HP:=Zh hp
 clear hz hy hp
 have hrb:=HR.out.lt
 clear h hM hc hk3 ha hb h0 h8 hH hl
 go_enter Tryz.func122,Tryz.ntmps122
 go_wp2_with fail
 have XB:Hid (Blk (w.alloc (.cells #[.int .i64 2,.int .i64 c,.int .i64 reg,.int .i64 ar,.int .i64 an,.int .i64 br,.int .i64 bn,vb,ve] 62)) w.heap.size 62 #[.int .i64 2,.int .i64 c,.int .i64 reg,.int .i64 ar,.int .i64 an,.int .i64 br,.int .i64 bn,vb,ve]):=Zh (Blk.new w _ _)
 have UA:Hid (Upd [] w (w.alloc (.cells #[.int .i64 2,.int .i64 c,.int .i64 reg,.int .i64 ar,.int .i64 an,.int .i64 br,.int .i64 bn,vb,ve] 62))):=Zh ((Upd.refl [] w).alloc _)
 generalize (w.alloc (.cells #[.int .i64 2,.int .i64 c,.int .i64 reg,.int .i64 ar,.int .i64 an,.int .i64 br,.int .i64 bn,vb,ve] 62))=w1 at *
 have CS:Hid (∀ W,Upd [] w1.drew W→W.cell? ⟨w.heap.size,1,none⟩=some (.int .i64 c)∧W.cell? ⟨w.heap.size,3,none⟩=some (.int .i64 ar)∧W.cell? ⟨w.heap.size,4,none⟩=some (.int .i64 an)∧W.cell? ⟨w.heap.size,5,none⟩=some (.int .i64 br)∧W.cell? ⟨w.heap.size,6,none⟩=some (.int .i64 bn)∧W.cell? ⟨rb,0,none⟩=some (.pointer (some ⟨sb,0,none⟩))):=Zh (fun W hW => by
  have hu:=(Upd.refl [] w1).drew.trans hW
  have hb:=XB.out.upd hu (by simp)
  exact ⟨hb.cell 1,hb.cell 3,hb.cell 4,hb.cell 5,hb.cell 6,(HM.out W (UA.out.trans hu)).2⟩)
 refine wp_invNT 14 [(9,.det (.int .i64 z)),(13,.det (.int .i64 y))] [] (by kernel_rfl) (by simp) (by kernel_rfl) (by kernel_rfl) ⟨lasts_det _,lasts_det _,trivial⟩ ?_
 simp only [List.take_succ_cons,List.take_zero,List.drop_succ_cons,List.drop_zero]
 iterate 9 (
  with_reducible apply wpV_light
  ·simp only [lightOp]
  ·intro W hU hF
   have f0:=CS.out W hU
   clear hU hF
   go_simp
   exact rfl
  simp only [aP])
 refine wpV_heavy (by simp only [lightOp]) (by rfl) (fun W hU hk hF K hK => ?_) ?_
 ·go_wp2_with fail
  refine (key_ok ar an W (HR.out.upd0 (UA.out.trans ((Upd.refl [] w1).drew.trans hU))) HAB.out.1).mono ?_
  rintro e wx ⟨rfl,ux⟩
  go_wp2_with fail
  rw [HZ.out]
  exact hK.out _ _ (outV_new rfl rfl (by intro b hb; cases hb) ux)
 rintro _ rfl
 simp only [aP]
 iterate 3 (
  with_reducible apply wpV_light
  ·simp only [lightOp]
  ·intro W hU hF
   have f0:=CS.out W hU
   clear hU hF
   go_simp
   exact rfl
  simp only [aP])
 refine wpV_heavy (by simp only [lightOp]) (by rfl) (fun W hU hk hF K hK => ?_) ?_
 ·go_wp2_with fail
  refine (value_ok br bn W (HR.out.upd0 (UA.out.trans ((Upd.refl [] w1).drew.trans hU))) HAB.out.2).mono ?_
  rintro e wx ⟨rfl,ux⟩
  go_wp2_with fail
  rw [HY.out]
  exact hK.out _ _ (outV_new rfl rfl (by intro b hb; cases hb) ux)
 rintro _ rfl
 simp only [aP]
 refine wpV_end (fun W hU _ hF => ?_)
 have UX:Hid (Upd [] w W):=Zh (UA.out.trans ((Upd.refl [] w1).drew.trans hU))
 clear hU hF
 refine wpT_op (by rfl) (fun K hK => ?_)
 go_wp2_with fail
 refine (m_full H sb FM r.s c z y W (HM.out W UX.out).1 HC.out HP.out).mono ?_
 rintro e w5 ⟨rfl,rfl⟩
 go_wp2_with fail
 refine hK.out _ _ ?_
 clear hK K
 try simp only [aP]
 refine wpT_op (by rfl) (fun K hK => ?_)
 go_wp2_with fail
 refine hK.out _ _ ?_
 clear hK K
 try simp only [aP]
 refine wpT_end ?_
 go_wp2_with fail
 go_ret
 exact ⟨rfl,F,HR.out.upd0 UX.out,(Frm.refl _ _).pre UX.out⟩
theorem ask_del {H rb:Nat} {F:List Nat} {ks:List Int} {r:RS} (c reg ar an br bn:Int) (vb ve:Value) (w:World) (h:Run H rb F ks w r) (hc:isC r.s c=true) (ha:0≤ar∧ar≤8) (hb:0≤br∧br≤8) :
 Calls Tryz.prog 122 #[.pointer (some ⟨rb,0,none⟩),.agg #[.int .i64 3,.int .i64 c,.int .i64 reg,.int .i64 ar,.int .i64 an,.int .i64 br,.int .i64 bn,vb,ve]] w fun e w' => e=.returned .nilIface∧RunPost H rb F ks { r with s:=mDel r.s c.toNat (keyV r ar an) } w w':=by
 have HR:=Zh h
 obtain ⟨sb,FM,vt,hF,h⟩:=h
 have HFE:Hid (fpR rb vt FM=F):=Zh hF.symm
 have HST:=Zh h
 have HM:Hid (∀ w',Upd [] w w'→Mdl H sb FM w' r.s∧w'.cell? ⟨rb,0,none⟩=some (.pointer (some ⟨sb,0,none⟩))):=Zh (fun w' hu => ⟨(HST.out.upd0 hu).mdl,(HST.out.upd0 hu).cells.1⟩)
 have HC:=Zh hc
 have HAB:=Zh (And.intro ha hb)
 have hM:=trivial
 have hk3:=trivial
 have h0:=trivial
 have h8:=trivial
 have hH:=trivial
 have hl:=trivial
 clear hF
 obtain ⟨z,hz⟩:∃ z,keyV r ar an=z:=⟨_,rfl⟩
 have HZ:=Zh hz
 rw [hz]
 clear hz
 have hrb:=HR.out.lt
 clear h hM hc hk3 ha hb h0 h8 hH hl
 go_enter Tryz.func122,Tryz.ntmps122
 go_wp2_with fail
 have XB:Hid (Blk (w.alloc (.cells #[.int .i64 3,.int .i64 c,.int .i64 reg,.int .i64 ar,.int .i64 an,.int .i64 br,.int .i64 bn,vb,ve] 62)) w.heap.size 62 #[.int .i64 3,.int .i64 c,.int .i64 reg,.int .i64 ar,.int .i64 an,.int .i64 br,.int .i64 bn,vb,ve]):=Zh (Blk.new w _ _)
 have UA:Hid (Upd [] w (w.alloc (.cells #[.int .i64 3,.int .i64 c,.int .i64 reg,.int .i64 ar,.int .i64 an,.int .i64 br,.int .i64 bn,vb,ve] 62))):=Zh ((Upd.refl [] w).alloc _)
 generalize (w.alloc (.cells #[.int .i64 3,.int .i64 c,.int .i64 reg,.int .i64 ar,.int .i64 an,.int .i64 br,.int .i64 bn,vb,ve] 62))=w1 at *
 have CS:Hid (∀ W,Upd [] w1.drew W→W.cell? ⟨w.heap.size,1,none⟩=some (.int .i64 c)∧W.cell? ⟨w.heap.size,3,none⟩=some (.int .i64 ar)∧W.cell? ⟨w.heap.size,4,none⟩=some (.int .i64 an)∧W.cell? ⟨w.heap.size,5,none⟩=some (.int .i64 br)∧W.cell? ⟨w.heap.size,6,none⟩=some (.int .i64 bn)∧W.cell? ⟨rb,0,none⟩=some (.pointer (some ⟨sb,0,none⟩))):=Zh (fun W hW => by
  have hu:=(Upd.refl [] w1).drew.trans hW
  have hb:=XB.out.upd hu (by simp)
  exact ⟨hb.cell 1,hb.cell 3,hb.cell 4,hb.cell 5,hb.cell 6,(HM.out W (UA.out.trans hu)).2⟩)
 refine wp_invNT 10 [(9,.det (.int .i64 z))] [] (by kernel_rfl) (by simp) (by kernel_rfl) (by kernel_rfl) ⟨lasts_det _,trivial⟩ ?_
 simp only [List.take_succ_cons,List.take_zero,List.drop_succ_cons,List.drop_zero]
 iterate 9 (
  with_reducible apply wpV_light
  ·simp only [lightOp]
  ·intro W hU hF
   have f0:=CS.out W hU
   clear hU hF
   go_simp
   exact rfl
  simp only [aP])
 refine wpV_heavy (by simp only [lightOp]) (by rfl) (fun W hU hk hF K hK => ?_) ?_
 ·go_wp2_with fail
  refine (key_ok ar an W (HR.out.upd0 (UA.out.trans ((Upd.refl [] w1).drew.trans hU))) HAB.out.1).mono ?_
  rintro e wx ⟨rfl,ux⟩
  go_wp2_with fail
  rw [HZ.out]
  exact hK.out _ _ (outV_new rfl rfl (by intro b hb; cases hb) ux)
 rintro _ rfl
 simp only [aP]
 refine wpV_end (fun W hU _ hF => ?_)
 have UX:Hid (Upd [] w W):=Zh (UA.out.trans ((Upd.refl [] w1).drew.trans hU))
 clear hU hF
 refine wpT_op (by rfl) (fun K hK => ?_)
 go_wp2_with fail
 refine (m_del H sb FM r.s c z W (HM.out W UX.out).1).mono ?_
 rintro e w5 ⟨u,rfl,ev,hm,hu⟩
 simp only [HC.out,if_true] at ev hm
 obtain rfl:=errv_zero ev
 have R5:=Zh ((HST.out.upd0 UX.out).setM hm hu rfl)
 clear ev hm hu
 go_wp2_with fail
 refine hK.out _ _ ?_
 clear hK K
 try simp only [aP]
 refine wpT_op (by rfl) (fun K hK => ?_)
 go_wp2_with fail
 refine hK.out _ _ ?_
 clear hK K
 try simp only [aP]
 refine wpT_end ?_
 go_wp2_with fail
 go_ret
 refine ⟨rfl,F,?_,?_⟩
 ·rw [← HFE.out]; exact ⟨sb,FM,vt,rfl,R5.out.1⟩
 ·rw [← HFE.out]; exact R5.out.2.pre UX.out
theorem ask_list {H rb:Nat} {F:List Nat} {ks:List Int} {r:RS} (c reg ar an br bn:Int) (vb ve:Value) (w:World) (h:Run H rb F ks w r) (hc:isC r.s c=true) (hH:H≤w.heap.size) (hl:r.told.length + 201≤201 * 1000) :
 Calls Tryz.prog 122 #[.pointer (some ⟨rb,0,none⟩),.agg #[.int .i64 8,.int .i64 c,.int .i64 reg,.int .i64 ar,.int .i64 an,.int .i64 br,.int .i64 bn,vb,ve]] w fun e w' => e=.returned .nilIface∧RunPost H rb F ks (tellL r (coll r.s c.toNat).length (coll r.s c.toNat)) w w':=by
 have HR:=Zh h
 have HC:=Zh hc
 have HL:=Zh (And.intro hH hl)
 have UA:Hid (Upd [] w (w.alloc (.cells #[.int .i64 8,.int .i64 c,.int .i64 reg,.int .i64 ar,.int .i64 an,.int .i64 br,.int .i64 bn,vb,ve] 62))):=Zh ((Upd.refl [] w).alloc _)
 clear h hc hH hl
 go_enter Tryz.func122,Tryz.ntmps122
 go_wp2_with fail
 refine (list_ok c _ (HR.out.upd0 UA.out) HC.out (Nat.le_trans HL.out.1 UA.out.size) HL.out.2).mono ?_
 rintro e w4 ⟨rfl,hp⟩
 have HP:=Zh (hp.pre UA.out)
 clear hp
 go_wp2_with fail
 go_ret
 exact ⟨rfl,HP.out⟩
end Go.Proofs.YtmjnmpifibemjaaGreatDoor.Ev
namespace Go.Proofs.YtmjnmpifibemjaaGreatDoor.Stp
open Go.RowKit Go.Extern.Stop Go.Stop Go.Extern
theorem stopNoIs (v:Value) (xT:TypeId) (w:World):(Instr.typeAssert (.iface 204 v) xT 166 true).run Tryz.prog w=.ok (.tuple #[.nilIface,.bool false]) w:=run_typeAssert_lacksB Tryz.underlying166 (by kernel_rfl) (by kernel_rfl) v xT w
theorem stopHasUnwrap (v:Value) (xT:TypeId) (w:World):(Instr.typeAssert (.iface 204 v) xT 169 true).run Tryz.prog w=.ok (.tuple #[.iface 204 v,.bool true]) w:=run_typeAssert_hasB Tryz.underlying169 (by kernel_rfl) v xT w
theorem is_stop (g:Nat) (a b:Int) (w:World) (hc:w.cell? ⟨g,1,none⟩=some (.int .i64 a)) :
 Calls Tryz.prog 23 #[.iface 204 (.pointer (some ⟨g,0,none⟩)),.iface 40 (.int .i64 b)] w fun e w' => e=.returned (.bool (a == b))∧w=w':=by
 obtain ⟨i,hi,hcmp⟩:=Option.map_eq_some_iff.1 errnoComp
 have h8:=@run_callFunc_extern Tryz.prog 49 _ Extern.ReflectliteType.typeOf Tryz.func49 (by kernel_rfl) (by kernel_rfl) (by kernel_rfl) (by kernel_rfl)
 have h32:=@run_callFunc_extern Tryz.prog 182 _ cmpEntry Tryz.func182 (by kernel_rfl) (by kernel_rfl) (by kernel_rfl) (by kernel_rfl)
 have tT:=errnoTypeOf
 have cT:=errnoComparable
 have heq:=run_eql_iface_int (P:=Tryz.prog) w a b Tryz.underlying45 Tryz.underlying40 hi hcmp
 have hty:=run_eql_iface_types (P:=Tryz.prog) 204 40 (.pointer (some ⟨g,0,none⟩)) (.int .i64 b) Tryz.underlying45 (by decide) w
 have n1:=errnoNoIs
 have n2:=errnoNoUnwrap
 have n3:=errnoNoUnwraps
 have m1:=stopNoIs
 have m2:=stopHasUnwrap
 by_cases hab:a=b
 ·subst hab
  have hb:(a == a)=true:=by simp
  go_enter Tryz.func23,Tryz.ntmps23
  go_wp2
  refine wp_loop_rounds 2 ?_
  rw [rounds_succ]
  go_wp2
  rw [rounds_succ]
  go_wp2
  go_ret
  exact ⟨by rw [hb]; rfl,rfl⟩
 ·have hb:(a == b)=false:=by simpa using hab
  clear hab
  go_enter Tryz.func23,Tryz.ntmps23
  go_wp2
  refine wp_loop_rounds 2 ?_
  rw [rounds_succ]
  go_wp2
  rw [rounds_succ]
  go_wp2
  go_ret
  exact ⟨by rw [hb]; rfl,rfl⟩
theorem valueOfPP (t:Addr) (w:World):(ReflectliteValue.unpack (.iface 208 (.pointer (some t)))).run Tryz.prog w
 = .ok (.agg #[.pointer (some ⟨1,208,none⟩),.pointer (some ⟨w.heap.size,0,none⟩),.int .u64 150]) (w.alloc (.cells #[.pointer (some t)] 208)):=by kernel_rfl
theorem typePP (a:Addr) (w:World):(ReflectliteValue.methodAny (ReflectliteValue.valueError "reflectlite.Value.Type" 0) (fun t _ _ _ => ReflectliteType.toType t) #[.agg #[.pointer (some ⟨1,208,none⟩),.pointer (some a),.int .u64 150]]).run Tryz.prog w
 = .ok (.iface 164 (.agg #[.pointer (some ⟨1,208,none⟩)])) w:=by kernel_rfl
theorem kindPP (w:World):(kindEntry #[.pointer (some ⟨1,208,none⟩)]).run Tryz.prog w=.ok (.int .u8 22) w:=by kernel_rfl
theorem kindP (w:World):(kindEntry #[.pointer (some ⟨1,204,none⟩)]).run Tryz.prog w=.ok (.int .u8 22) w:=by kernel_rfl
theorem partsPP (a:Addr) (w:World):(ReflectliteValue.parts (.agg #[.pointer (some ⟨1,208,none⟩),.pointer (some a),.int .u64 150])).run Tryz.prog w=.ok (some (208,a,150)) w:=by kernel_rfl
theorem isNilPP (a p:Addr) (W:World) (ha:W.cell? a=some (.pointer (some p))) :
 (ReflectliteValue.method (ReflectliteValue.valueError "reflectlite.Value.IsNil" 0) ReflectliteValue.isNil #[.agg #[.pointer (some ⟨1,208,none⟩),.pointer (some a),.int .u64 150]]).run Tryz.prog W=.ok (.bool false) W:=by
 rw [rlm]
 simp only [Sem.run_bind,partsPP,Result.andThen]
 simp [ReflectliteValue.isNil,loadVar,isAgg,underlying,Tryz.underlying208,ha,Result.andThen]
theorem elemPP (w:World):(ReflectliteType.method ReflectliteType.elem #[.agg #[.pointer (some ⟨1,208,none⟩)]]).run Tryz.prog w=.ok (.iface 164 (.agg #[.pointer (some ⟨1,204,none⟩)])) w:=by kernel_rfl
theorem implementsP (w:World):(ReflectliteType.relation "Implements" ReflectliteType.implements_ #[.agg #[.pointer (some ⟨1,204,none⟩)],.iface 164 (.agg #[.pointer (some ⟨1,45,none⟩)])]).run Tryz.prog w=.ok (.bool true) w:=by kernel_rfl
theorem typeOfP (v:Value) (w:World):(ReflectliteType.typeOf #[.iface 204 v]).run Tryz.prog w=.ok (.iface 164 (.agg #[.pointer (some ⟨1,204,none⟩)])) w:=by kernel_rfl
theorem assignableP (w:World):(ReflectliteType.relation "AssignableTo" ReflectliteType.assignableTo #[.agg #[.pointer (some ⟨1,204,none⟩)],.iface 164 (.agg #[.pointer (some ⟨1,204,none⟩)])]).run Tryz.prog w=.ok (.bool true) w:=by kernel_rfl
theorem assignableE (w:World):(ReflectliteType.relation "AssignableTo" ReflectliteType.assignableTo #[.agg #[.pointer (some ⟨1,40,none⟩)],.iface 164 (.agg #[.pointer (some ⟨1,204,none⟩)])]).run Tryz.prog w=.ok (.bool false) w:=by kernel_rfl
theorem valueOfP (e:Addr) (w:World):(ReflectliteValue.unpack (.iface 204 (.pointer (some e)))).run Tryz.prog w
 = .ok (.agg #[.pointer (some ⟨1,204,none⟩),.pointer (some ⟨w.heap.size,0,none⟩),.int .u64 150]) (w.alloc (.cells #[.pointer (some e)] 204)):=by kernel_rfl
theorem elemOfPP (w:World):(Rtype.elem? 208).run Tryz.prog w=.ok (some 204) w:=by kernel_rfl
theorem mkP (p:Addr) (w:World):(ReflectliteValue.mk 204 p ReflectliteValue.flagAddr).run Tryz.prog w=.ok (.agg #[.pointer (some ⟨1,204,none⟩),.pointer (some p),.int .u64 406]) w:=by kernel_rfl
theorem elemVPP (a p:Addr) (W:World) (ha:W.cell? a=some (.pointer (some p))) :
 (ReflectliteValue.method (ReflectliteValue.valueError "reflectlite.Value.Elem" 0) ReflectliteValue.elem #[.agg #[.pointer (some ⟨1,208,none⟩),.pointer (some a),.int .u64 150]]).run Tryz.prog W
   = .ok (.agg #[.pointer (some ⟨1,204,none⟩),.pointer (some p),.int .u64 406]) W:=by
 rw [rlm]
 simp only [Sem.run_bind,partsPP,Result.andThen]
 simp [ReflectliteValue.elem,loadVar,isAgg,underlying,Tryz.underlying208,ha,Result.andThen,elemOfPP,mkP]
theorem partsPa (a:Addr) (w:World):(ReflectliteValue.parts (.agg #[.pointer (some ⟨1,204,none⟩),.pointer (some a),.int .u64 406])).run Tryz.prog w=.ok (some (204,a,406)) w:=by kernel_rfl
theorem partsP (a:Addr) (w:World):(ReflectliteValue.parts (.agg #[.pointer (some ⟨1,204,none⟩),.pointer (some a),.int .u64 150])).run Tryz.prog w=.ok (some (204,a,150)) w:=by kernel_rfl
theorem directP (w:World):(Rtype.directlyAssignable 204 204).run Tryz.prog w=.ok true w:=by kernel_rfl
theorem setP (ta b e:Addr) (old:Value) (W:World) (hb:W.cell? b=some (.pointer (some e))) (ht:W.cell? ta=some old) (hf:W.frozen? ta=false) :
 (ReflectliteValue.set #[.agg #[.pointer (some ⟨1,204,none⟩),.pointer (some ta),.int .u64 406],.agg #[.pointer (some ⟨1,204,none⟩),.pointer (some b),.int .u64 150]]).run Tryz.prog W
   = .ok (.tuple #[]) (W.setCell ta (.pointer (some e))):=by
 rw [rls]
 simp only [Sem.run_bind,partsPa,partsP,Result.andThen]
 simp [ReflectliteValue.flagAddr,loadVar,isAgg,underlying,Tryz.underlying204,hb,Result.andThen,directP,storeVar,Value.cells,storeCells,Addr.add]
 rw [run_store Tryz.prog W ta _ _ (by rfl)]
 simp [ht,hf]
def asWorld (w:World) (t:Nat):World:=((w.alloc (.cells #[.pointer (some ⟨t,0,none⟩)] 208)).alloc (.cells #[.pointer (some ⟨1,208,none⟩),.pointer (some ⟨w.heap.size,0,none⟩),.int .u64 150] 138)).alloc (.cells #[.pointer (some ⟨1,208,none⟩),.pointer (some ⟨w.heap.size,0,none⟩),.int .u64 150] 138)
theorem as_stop (g t:Nat) (w:World) (hg:Typed w) (ht0:Blk w t 204 #[.pointer none]) :
 Calls Tryz.prog 38 #[.iface 204 (.pointer (some ⟨g,0,none⟩)),.iface 208 (.pointer (some ⟨t,0,none⟩))] w fun ev w' => ev=.returned (.bool true)∧w'=((asWorld w t).alloc (.cells #[.pointer (some ⟨g,0,none⟩)] 204)).setCell ⟨t,0,none⟩ (.pointer (some ⟨g,0,none⟩)):=by
 have h6:=@run_callFunc_extern Tryz.prog 66 _ (fun args => ReflectliteValue.unpack (args.getD 0 (.tuple #[]))) Tryz.func66 (by kernel_rfl) (by kernel_rfl) (by kernel_rfl) (by kernel_rfl)
 have h7:=@run_callFunc_extern Tryz.prog 67 _ (ReflectliteValue.methodAny (ReflectliteValue.valueError "reflectlite.Value.Type" 0) (fun t _ _ _ => ReflectliteType.toType t)) Tryz.func67 (by kernel_rfl) (by kernel_rfl) (by kernel_rfl) (by kernel_rfl)
 have h8:=@run_callFunc_extern Tryz.prog 68 _ (ReflectliteValue.method (ReflectliteValue.valueError "reflectlite.Value.IsNil" 0) ReflectliteValue.isNil) Tryz.func68 (by kernel_rfl) (by kernel_rfl) (by kernel_rfl) (by kernel_rfl)
 have h27:=@run_callFunc_extern Tryz.prog 165 _ kindEntry Tryz.func165 (by kernel_rfl) (by kernel_rfl) (by kernel_rfl) (by kernel_rfl)
 have h37:=@run_callFunc_extern Tryz.prog 183 _ (ReflectliteType.method ReflectliteType.elem) Tryz.func183 (by kernel_rfl) (by kernel_rfl) (by kernel_rfl) (by kernel_rfl)
 have h38:=@run_callFunc_extern Tryz.prog 184 _ (ReflectliteType.relation "Implements" ReflectliteType.implements_) Tryz.func184 (by kernel_rfl) (by kernel_rfl) (by kernel_rfl) (by kernel_rfl)
 have h10:=@run_callFunc_extern Tryz.prog 49 _ ReflectliteType.typeOf Tryz.func49 (by kernel_rfl) (by kernel_rfl) (by kernel_rfl) (by kernel_rfl)
 have h35:=@run_callFunc_extern Tryz.prog 181 _ (ReflectliteType.relation "AssignableTo" ReflectliteType.assignableTo) Tryz.func181 (by kernel_rfl) (by kernel_rfl) (by kernel_rfl) (by kernel_rfl)
 have h11:=@run_callFunc_extern Tryz.prog 90 _ (ReflectliteValue.method (ReflectliteValue.valueError "reflectlite.Value.Elem" 0) ReflectliteValue.elem) Tryz.func90 (by kernel_rfl) (by kernel_rfl) (by kernel_rfl) (by kernel_rfl)
 have h12:=@run_callFunc_extern Tryz.prog 91 _ ReflectliteValue.set Tryz.func91 (by kernel_rfl) (by kernel_rfl) (by kernel_rfl) (by kernel_rfl)
 have tO:=typeOfP
 have a25:=assignableP
 have v25:=valueOfP
 have f6:=valueOfPP
 have f7:=typePP
 have k27:=kindPP
 have k25:=kindP
 have e27:=elemPP
 have i25:=implementsP
 have b0:Blk ((w.alloc (.cells #[.pointer (some ⟨t,0,none⟩)] 208)).alloc (.cells #[.pointer (some ⟨1,208,none⟩),.pointer (some ⟨w.heap.size,0,none⟩),.int .u64 150] 138)) w.heap.size 208 #[.pointer (some ⟨t,0,none⟩)]:=(Blk.new w _ _).alloc _
 have n8:=isNilPP ⟨w.heap.size,0,none⟩ ⟨t,0,none⟩ _ (by rw [b0.cell]; rfl)
 have hg2:=((hg.upd ((Upd.refl [] w).alloc (.cells #[.pointer (some ⟨t,0,none⟩)] 208)) (by simp)).upd ((Upd.refl [] _).alloc (.cells #[.pointer (some ⟨1,208,none⟩),.pointer (some ⟨w.heap.size,0,none⟩),.int .u64 150] 138)) (by simp)).1
 have b1:Blk (asWorld w t) w.heap.size 208 #[.pointer (some ⟨t,0,none⟩)]:=b0.alloc _
 have el:=elemVPP ⟨w.heap.size,0,none⟩ ⟨t,0,none⟩ (asWorld w t) (by rw [b1.cell]; rfl)
 have hT:Blk ((asWorld w t).alloc (.cells #[.pointer (some ⟨g,0,none⟩)] 204)) t 204 #[.pointer none]:=(((ht0.alloc _).alloc _).alloc _).alloc _
 have st:=setP ⟨t,0,none⟩ ⟨w.heap.size + 1 + 1 + 1,0,none⟩ ⟨g,0,none⟩ (.pointer none) ((asWorld w t).alloc (.cells #[.pointer (some ⟨g,0,none⟩)] 204))
  (by have:=(Blk.new (asWorld w t) 204 #[.pointer (some ⟨g,0,none⟩)]).cell 0; simpa [asWorld] using this) (by rw [hT.cell]; rfl) (hT.frozen 0)
 simp only [asWorld] at el st ⊢
 clear hT b0 b1 ht0 hg
 go_enter Tryz.func38,Tryz.ntmps38
 go_wp2
 refine wp_loop_rounds 1 ?_
 rw [rounds_succ]
 go_wp2
 go_ret
 exact ⟨rfl,rfl⟩
theorem as_errno (k:Int) (t:Nat) (w:World) (hg:Typed w) :
 Calls Tryz.prog 38 #[.iface 40 (.int .i64 k),.iface 208 (.pointer (some ⟨t,0,none⟩))] w fun ev w' => ev=.returned (.bool false)∧w'=asWorld w t:=by
 have h6:=@run_callFunc_extern Tryz.prog 66 _ (fun args => ReflectliteValue.unpack (args.getD 0 (.tuple #[]))) Tryz.func66 (by kernel_rfl) (by kernel_rfl) (by kernel_rfl) (by kernel_rfl)
 have h7:=@run_callFunc_extern Tryz.prog 67 _ (ReflectliteValue.methodAny (ReflectliteValue.valueError "reflectlite.Value.Type" 0) (fun t _ _ _ => ReflectliteType.toType t)) Tryz.func67 (by kernel_rfl) (by kernel_rfl) (by kernel_rfl) (by kernel_rfl)
 have h8:=@run_callFunc_extern Tryz.prog 68 _ (ReflectliteValue.method (ReflectliteValue.valueError "reflectlite.Value.IsNil" 0) ReflectliteValue.isNil) Tryz.func68 (by kernel_rfl) (by kernel_rfl) (by kernel_rfl) (by kernel_rfl)
 have h27:=@run_callFunc_extern Tryz.prog 165 _ kindEntry Tryz.func165 (by kernel_rfl) (by kernel_rfl) (by kernel_rfl) (by kernel_rfl)
 have h37:=@run_callFunc_extern Tryz.prog 183 _ (ReflectliteType.method ReflectliteType.elem) Tryz.func183 (by kernel_rfl) (by kernel_rfl) (by kernel_rfl) (by kernel_rfl)
 have h38:=@run_callFunc_extern Tryz.prog 184 _ (ReflectliteType.relation "Implements" ReflectliteType.implements_) Tryz.func184 (by kernel_rfl) (by kernel_rfl) (by kernel_rfl) (by kernel_rfl)
 have h10:=@run_callFunc_extern Tryz.prog 49 _ ReflectliteType.typeOf Tryz.func49 (by kernel_rfl) (by kernel_rfl) (by kernel_rfl) (by kernel_rfl)
 have h35:=@run_callFunc_extern Tryz.prog 181 _ (ReflectliteType.relation "AssignableTo" ReflectliteType.assignableTo) Tryz.func181 (by kernel_rfl) (by kernel_rfl) (by kernel_rfl) (by kernel_rfl)
 have tE:=errnoTypeOf'
 have aE:=assignableE
 have f6:=valueOfPP
 have f7:=typePP
 have k27:=kindPP
 have k25:=kindP
 have e27:=elemPP
 have i25:=implementsP
 have n0:=errnoNoAs
 have n2:=errnoNoUnwrap
 have n3:=errnoNoUnwraps
 have b0:Blk ((w.alloc (.cells #[.pointer (some ⟨t,0,none⟩)] 208)).alloc (.cells #[.pointer (some ⟨1,208,none⟩),.pointer (some ⟨w.heap.size,0,none⟩),.int .u64 150] 138)) w.heap.size 208 #[.pointer (some ⟨t,0,none⟩)]:=(Blk.new w _ _).alloc _
 have n8:=isNilPP ⟨w.heap.size,0,none⟩ ⟨t,0,none⟩ _ (by rw [b0.cell]; rfl)
 have hg2:=((hg.upd ((Upd.refl [] w).alloc (.cells #[.pointer (some ⟨t,0,none⟩)] 208)) (by simp)).upd ((Upd.refl [] _).alloc (.cells #[.pointer (some ⟨1,208,none⟩),.pointer (some ⟨w.heap.size,0,none⟩),.int .u64 150] 138)) (by simp)).1
 simp only [asWorld]
 clear b0 hg
 go_enter Tryz.func38,Tryz.ntmps38
 go_wp2
 refine wp_loop_rounds 1 ?_
 rw [rounds_succ]
 go_wp2
 go_ret
 exact ⟨rfl,rfl⟩
theorem asWorld_upd (w:World) (t:Nat):Upd [] w (asWorld w t):=(((Upd.refl [] w).alloc _).alloc _).alloc _
end Go.Proofs.YtmjnmpifibemjaaGreatDoor.Stp
namespace Go.Proofs.YtmjnmpifibemjaaGreatDoor.Ev
open Go.RowKit Assoc MP
attribute [local go_sem] litStep_value
def StopV (w:World) (u:Value) (n:Int):Prop :=
 (n=0∧u=.nilIface)∨(n=5∧u=.iface 40 (.int .i64 8)) ∨
 ∃ g st y,u=.iface 204 (.pointer (some ⟨g,0,none⟩))∧Blk w g 206 #[.int .i64 st,.int .i64 y]∧((n=2∧y=14)∨(n=3∧y=13)∨(n=4∧y=15))
theorem StopV.upd0 {w w':World} {u:Value} {n:Int} (h:StopV w u n) (hu:Upd [] w w'):StopV w' u n:=by
 rcases h with h | h | ⟨g,st,y,h1,h2,h3⟩
 ·exact .inl h
 ·exact .inr (.inl h)
 ·exact .inr (.inr ⟨g,st,y,h1,h2.upd hu (by simp),h3⟩)
def TB (r:RS):Prop:=r.told.length≤201 * r.steps
def EvPost (H rb:Nat) (F:List Nat) (ks:List Int) (x:RS × Int) (w:World) (e:Ending) (w':World):Prop :=
 ∃ u,e=.returned u∧StopV w' u x.2∧RunPost H rb F ks x.1 w w'∧TB x.1
def AllC (ks:List Int) (l:List Stm):Prop:=∀ (H rb:Nat) (F:List Nat) (v:Value) (r:RS) (w:World),Run H rb F ks w r→TB r→Stms w H v l→H≤w.heap.size →
 Calls Tryz.prog 87 #[.pointer (some ⟨rb,0,none⟩),v] w (EvPost H rb F ks (evL l r) w)
def OneC (ks:List Int):Stm→Prop
 | .mk k c reg ar an br bn b e => ∀ (H rb:Nat) (F:List Nat) (vb ve:Value) (r:RS) (w:World),Run H rb F ks w r→r.told.length + 201≤201 * r.steps→Stms w H vb b→Stms w H ve e→H≤w.heap.size →
   Calls Tryz.prog 106 #[.pointer (some ⟨rb,0,none⟩),.agg #[.int .i64 k,.int .i64 c,.int .i64 reg,.int .i64 ar,.int .i64 an,.int .i64 br,.int .i64 bn,vb,ve]] w (EvPost H rb F ks (ev (.mk k c reg ar an br bn b e) r) w)
theorem _root_.Go.Proofs.YtmjnmpifibemjaaGreatDoor.Stms.frm {w w':World} {H:Nat} {F F':List Nat} {v:Value} {l:List Stm} (h:Stms w H v l) (hF:Frm F F' w w') (hl:∀ k ∈ F,H≤k) (hH:H≤w.heap.size):Stms w' H v l :=
 h.belowW (hF.upd.below hH hl)
theorem Run.setN {H rb:Nat} {F:List Nat} {ks:List Int} {w:World} {r:RS} (h:Run H rb F ks w r) {n:Nat} (hn:n≤1000):Run H rb F ks (w.setCell ⟨rb,11,none⟩ (.int .i64 n)) { r with steps:=n }∧Frm F F w (w.setCell ⟨rb,11,none⟩ (.int .i64 n)):=by
 obtain ⟨sb,FM,vt,rfl,h⟩:=h
 exact ⟨⟨sb,FM,vt,rfl,h.setN hn⟩,frm_rb _ _⟩
theorem Run.cells {H rb:Nat} {F:List Nat} {ks:List Int} {w:World} {r:RS} (h:Run H rb F ks w r):w.cell? ⟨rb,11,none⟩=some (.int .i64 r.steps)∧(∀ i,w.frozen? ⟨rb,i,none⟩=false)∧rb < w.heap.size:=by
 obtain ⟨sb,FM,vt,rfl,h⟩:=h
 exact h.cells.2.2
theorem all_ok (ks:List Int) (l:List Stm) (hx:∀ x ∈ l,OneC ks x):AllC ks l:=by
 intro H rb F v r w hr ht hv hH
 obtain ⟨X,hX⟩:∃ X,evL l r=X:=⟨_,rfl⟩
 have HX:=Zh hX
 rw [hX]
 have HLI:=Zh hv
 have HO:=Zh hx
 have HHH:=Zh hH
 have HFL:=Zh (fun k hk => (hr.lt k hk).1)
 have S0:Hid (∃ Fk rk,Run H rb Fk ks w rk∧Frm F Fk w w∧TB rk∧X=evL (l.drop 0) rk):=Zh ⟨F,r,hr,Frm.refl _ _,ht,hX.symm⟩
 clear hX hx hr ht hH
 cases hv with
 | mk A nn c l vb ve hln hc hcm hcell hbb hee =>
 have hnn:nn≤9223372036854775807:=by omega
 have HLN:=Zh hln
 have HCE:=Zh hcell
 have HBB:=Zh hbb
 have HEE:=Zh hee
 clear hln hcell hbb hee
 go_enter Tryz.func87,Tryz.ntmps87
 go_wp2_with fail
 go_loopw [10] (fun i wr => ∃ k:Nat,i=.int .i64 k∧k≤nn∧Hid (∃ Fk rk,Run H rb Fk ks wr rk∧Frm F Fk w wr∧TB rk∧X=evL (l.drop k) rk)) (fun i _ => nn - (intOf i).toNat)
 case atStart => exact ⟨0,rfl,by omega,S0⟩
 case round =>
  obtain ⟨k,rfl,hk,HK⟩:=hrel
  by_cases hkn:k < nn
  ·obtain ⟨x,hx⟩:∃ x,l[k]?=some x:=⟨_,List.getElem?_eq_getElem (by rw [HLN.out]; exact hkn)⟩
   obtain ⟨Fk,rk,hr,hf,ht,he⟩:=HK.out
   have HI:=Zh (HO.out x (List.mem_of_getElem? hx))
   have HDR:Hid (l.drop k=x :: l.drop (k + 1)):=Zh (by
    obtain ⟨h1,h2⟩:=List.getElem?_eq_some_iff.1 hx
    rw [List.drop_eq_getElem_cons h1,h2])
   obtain ⟨a1,a2,a3,a4,a5,a6,a7,bo,el⟩:=x
   obtain ⟨ad,rfl,hlt,hcc⟩:=HCE.out k a1 a2 a3 a4 a5 a6 a7 bo el hx
   have HSB:=Zh ((HBB.out k a1 a2 a3 a4 a5 a6 a7 bo el hx).frm hf HFL.out HHH.out)
   have HSE:=Zh ((HEE.out k a1 a2 a3 a4 a5 a6 a7 bo el hx).frm hf HFL.out HHH.out)
   have HFR:=Zh hf
   have HRK:=Zh hr
   have HTB:=Zh ht
   obtain ⟨Ab,nb,cb,hub⟩:=HSB.out.slice
   obtain ⟨Ae,ne,ce,hue⟩:=HSE.out.slice
   rw [hub] at HSB
   rw [hue] at HSE
   rw [hub,hue] at hcc
   have hcw:∀ j u,(stmCells a1 a2 a3 a4 a5 a6 a7 (.slice Ab nb cb) (.slice Ae ne ce))[j]?=some u→wr.cell? (ad.add (k * 9 + j))=some u:=fun j u hj =>
    ((hf.upd.below HHH.out HFL.out).cell (by rw [block_add]; exact hlt)).trans (hcc j u hj)
   have e0:wr.cell? (ad.add (k * 9))=some (.int .i64 a1):=hcw 0 _ rfl
   have e1:wr.cell? ⟨(ad.add (k * 9)).block,(ad.add (k * 9)).off + 1,none⟩=some (.int .i64 a2):=by
    have:=hcw 1 _ rfl; rwa [show k * 9 + 1=k * 9 + (0 + 1) from rfl,add_more] at this
   have e2:wr.cell? ⟨(ad.add (k * 9)).block,(ad.add (k * 9)).off + 2,none⟩=some (.int .i64 a3):=by
    have:=hcw 2 _ rfl; rwa [show k * 9 + 2=k * 9 + (1 + 1) from rfl,add_more] at this
   have e3:wr.cell? ⟨(ad.add (k * 9)).block,(ad.add (k * 9)).off + 3,none⟩=some (.int .i64 a4):=by
    have:=hcw 3 _ rfl; rwa [show k * 9 + 3=k * 9 + (2 + 1) from rfl,add_more] at this
   have e4:wr.cell? ⟨(ad.add (k * 9)).block,(ad.add (k * 9)).off + 4,none⟩=some (.int .i64 a5):=by
    have:=hcw 4 _ rfl; rwa [show k * 9 + 4=k * 9 + (3 + 1) from rfl,add_more] at this
   have e5:wr.cell? ⟨(ad.add (k * 9)).block,(ad.add (k * 9)).off + 5,none⟩=some (.int .i64 a6):=by
    have:=hcw 5 _ rfl; rwa [show k * 9 + 5=k * 9 + (4 + 1) from rfl,add_more] at this
   have e6:wr.cell? ⟨(ad.add (k * 9)).block,(ad.add (k * 9)).off + 6,none⟩=some (.int .i64 a7):=by
    have:=hcw 6 _ rfl; rwa [show k * 9 + 6=k * 9 + (5 + 1) from rfl,add_more] at this
   have e7:wr.cell? ⟨(ad.add (k * 9)).block,(ad.add (k * 9)).off + 7,none⟩=some (.slice Ab nb cb):=by
    have:=hcw 7 _ rfl; rwa [show k * 9 + 7=k * 9 + (6 + 1) from rfl,add_more] at this
   have e8:wr.cell? ⟨(ad.add (k * 9)).block,(ad.add (k * 9)).off + 8,none⟩=some (.slice Ae ne ce):=by
    have:=hcw 8 _ rfl; rwa [show k * 9 + 8=k * 9 + (7 + 1) from rfl,add_more] at this
   obtain ⟨c11,cf,cl⟩:=hr.cells
   have HEV:=Zh he
   obtain ⟨st,hst⟩:∃ st,rk.steps=st:=⟨_,rfl⟩
   have HST:=Zh hst
   rw [hst] at c11
   have q1:(0:Int)≤(k:Int):=by omega
   have q2:(k:Int) < (nn:Int):=by omega
   have hs1000:st≤1000:=hst ▸ hr.ok.steps
   clear hr hf ht he hx hcc hcw hub hue hst HK
   by_cases h1:st=1000
   ·have d1:((st:Int) == 1000)=true:=by simp; omega
    have HXX:Hid (X=(rk,4)):=Zh (by rw [HEV.out,HDR.out,evL_cons,if_pos (by rw [HST.out]; omega)])
    clear h1 hs1000
    go_wp2_with fail
    have U2:Hid (Upd [] wr ((wr.alloc (.cells #[.int .i64 a1,.int .i64 a2,.int .i64 a3,.int .i64 a4,.int .i64 a5,.int .i64 a6,.int .i64 a7,.slice Ab nb cb,.slice Ae ne ce] 62)).alloc (.cells #[.int .i64 st,.int .i64 15] 206))):=Zh (((Upd.refl [] wr).alloc _).alloc _)
    go_ret
    rw [HXX.out]
    unfold EvPost
    exact ⟨_,rfl,.inr (.inr ⟨_,st,15,rfl,by have:=Blk.new (wr.alloc (.cells #[.int .i64 a1,.int .i64 a2,.int .i64 a3,.int .i64 a4,.int .i64 a5,.int .i64 a6,.int .i64 a7,.slice Ab nb cb,.slice Ae ne ce] 62)) 206 #[.int .i64 st,.int .i64 15]; simpa using this,by omega⟩),⟨Fk,HRK.out.upd0 U2.out,HFR.out.trans ((Frm.refl _ _).pre U2.out)⟩,HTB.out⟩
   ·have d1:((st:Int) == 1000)=false:=by simp; omega
    have HNE:Hid (st + 1≤1000):=Zh (by omega)
    have R1:=Zh (HRK.out.setN (n:=st + 1) HNE.out)
    rw [show ((st + 1:Nat):Int)=(st:Int) + 1 by omega] at R1
    have HXX:Hid (X=if (ev (.mk a1 a2 a3 a4 a5 a6 a7 bo el) { rk with steps:=st + 1 }).2=0 then evL (l.drop (k + 1)) (ev (.mk a1 a2 a3 a4 a5 a6 a7 bo el) { rk with steps:=st + 1 }).1 else ev (.mk a1 a2 a3 a4 a5 a6 a7 bo el) { rk with steps:=st + 1 }):=Zh (by rw [HEV.out,HDR.out,evL_cons,if_neg (by rw [HST.out]; have:=HNE.out; omega),HST.out])
    have HTT:Hid (rk.told.length + 201≤201 * (st + 1)):=Zh (by have:=HTB.out; unfold TB at this; rw [HST.out] at this; omega)
    clear h1
    go_wp2_with fail
    have UA:Hid (Upd [] (wr.setCell ⟨rb,11,none⟩ (.int .i64 ((st:Int) + 1))) ((wr.setCell ⟨rb,11,none⟩ (.int .i64 ((st:Int) + 1))).alloc (.cells #[.int .i64 a1,.int .i64 a2,.int .i64 a3,.int .i64 a4,.int .i64 a5,.int .i64 a6,.int .i64 a7,.slice Ab nb cb,.slice Ae ne ce] 62))):=Zh ((Upd.refl [] _).alloc _)
    generalize ((wr.setCell ⟨rb,11,none⟩ (.int .i64 ((st:Int) + 1))).alloc (.cells #[.int .i64 a1,.int .i64 a2,.int .i64 a3,.int .i64 a4,.int .i64 a5,.int .i64 a6,.int .i64 a7,.slice Ab nb cb,.slice Ae ne ce] 62))=w1 at *
    generalize (wr.setCell ⟨rb,11,none⟩ (.int .i64 ((st:Int) + 1)))=w0 at *
    have F1:Hid (Frm Fk Fk wr w1):=Zh (R1.out.2.trans ((Frm.refl _ _).pre UA.out))
    have HLk:Hid (∀ k ∈ Fk,H≤k):=Zh (fun k hk => (HRK.out.lt k hk).1)
    have HHr:Hid (H≤wr.heap.size):=Zh (Nat.le_trans HHH.out HFR.out.upd.size)
    obtain ⟨EV,hEV⟩:∃ EV,ev (.mk a1 a2 a3 a4 a5 a6 a7 bo el) { rk with steps:=st + 1 }=EV:=⟨_,rfl⟩
    rw [hEV] at HXX
    have HC:=Zh (HI.out H rb Fk (.slice Ab nb cb) (.slice Ae ne ce) { rk with steps:=st + 1 } w1 (R1.out.1.upd0 UA.out) HTT.out (HSB.out.frm F1.out HLk.out HHr.out) (HSE.out.frm F1.out HLk.out HHr.out) (Nat.le_trans HHr.out F1.out.upd.size))
    rw [hEV] at HC
    clear hEV c11 cf cl e0 e1 e2 e3 e4 e5 e6 e7 e8 q1 q2 d1 hs1000
    refine HC.out.mono ?_
    rintro e w5 ⟨u,rfl,hsv,⟨F5,h5,f5⟩,t5⟩
    have H5:=Zh h5
    have T5:=Zh t5
    have G5:=Zh (HFR.out.trans (R1.out.2.trans (f5.pre UA.out)))
    clear h5 f5 t5 HC
    rcases hsv with ⟨h0,rfl⟩ | ⟨h0,rfl⟩ | ⟨g,s',y',rfl,hb,hy⟩
    ·have HY:Hid (X=evL (l.drop (k + 1)) EV.1):=Zh (by rw [HXX.out,if_pos h0])
     clear h0
     go_wp2_with fail
     go_roundw
     case rel => exact ⟨k + 1,by go_num,by omega,Zh ⟨F5,EV.1,H5.out,G5.out,T5.out,HY.out⟩⟩
     case measure => simp [intOf]; omega
    ·have HY:Hid (X=EV):=Zh (by rw [HXX.out,if_neg (by omega)])
     have HE5:=Zh h0
     clear h0
     go_wp2_with fail
     go_ret
     rw [HY.out]
     unfold EvPost
     exact ⟨_,rfl,.inr (.inl ⟨HE5.out,rfl⟩),⟨F5,H5.out,G5.out⟩,T5.out⟩
    ·have HY:Hid (X=EV):=Zh (by rw [HXX.out,if_neg (by omega)])
     have HB:=Zh (And.intro hb hy)
     clear hb hy
     go_wp2_with fail
     go_ret
     rw [HY.out]
     unfold EvPost
     exact ⟨_,rfl,.inr (.inr ⟨g,s',y',rfl,HB.out.1,HB.out.2⟩),⟨F5,H5.out,G5.out⟩,T5.out⟩
  ·obtain rfl:k=nn:=by omega
   obtain ⟨Fk,rk,hr,hf,ht,he⟩:=HK.out
   rw [List.drop_of_length_le (by rw [HLN.out]; exact Nat.le_refl _),evL_nil] at he
   have HQ:=Zh (And.intro hr (And.intro hf (And.intro ht he)))
   clear hr hf ht he HK
   go_wp2_with fail
   go_ret
   rw [HQ.out.2.2.2]
   unfold EvPost
   exact ⟨_,rfl,.inl ⟨rfl,rfl⟩,⟨Fk,HQ.out.1,HQ.out.2.1⟩,HQ.out.2.2.1⟩
end Go.Proofs.YtmjnmpifibemjaaGreatDoor.Ev
namespace Go.Proofs.YtmjnmpifibemjaaGreatDoor.Ev
open Go.RowKit Assoc MP
def rtS (ks:List Int):Stm→Bool
 | .mk k c reg ar an br bn b e => rightS ks (.mk k c reg ar an br bn b e) && rtL ks b && rtL ks e
where rtL (ks:List Int):List Stm→Bool
 | [] => true
 | x :: l => rtS ks x && rtL ks l
abbrev rtL:=rtS.rtL
theorem rtL_nil (ks:List Int):rtL ks []=true:=by unfold rtL rtS.rtL; rfl
theorem rtL_cons (ks:List Int) (x:Stm) (l:List Stm):rtL ks (x :: l)=(rtS ks x && rtL ks l):=by conv => lhs; unfold rtL rtS.rtL
theorem rtS_mk (ks:List Int) (k c reg ar an br bn:Int) (b e:List Stm):rtS ks (.mk k c reg ar an br bn b e)=(rightS ks (.mk k c reg ar an br bn b e) && rtL ks b && rtL ks e):=by conv => lhs; unfold rtS
structure RF (ks:List Int) (k c reg ar an br bn:Int):Prop where
 hk:1≤k∧k≤16
 a:0≤ar∧ar≤8
 b:0≤br∧br≤8
 hreg:0≤reg∧reg≤8
 hc:k≤8→0≤c∧c < ks.length
 ord:k=6∨k=7→ks.getD c.toNat 0=3
 loop:k=12→ar=0∧0≤an∧an≤5
theorem argB_reg {r n:Int} {t:Bool} (h:argB r n t=true):0≤r∧r≤8:=by
 unfold argB at h
 cases t <;> simp at h <;> omega
theorem right_facts {ks:List Int} {k c reg ar an br bn:Int} {b e:List Stm} (h:rightS ks (.mk k c reg ar an br bn b e)=true):RF ks k c reg ar an br bn:=by
 unfold rightS rightV at h
 simp only [Bool.and_eq_true] at h
 obtain ⟨⟨⟨⟨⟨⟨h1,h2⟩,h3⟩,h4⟩,h5⟩,h6⟩,_⟩:=h
 have hk:1≤k∧k≤16:=by unfold pIs at h1; simpa using h1
 refine ⟨hk,argB_reg h3,argB_reg h4,?_,?_,?_,?_⟩
 ·unfold regB at h6
  cases hp:pReg k <;> rw [hp] at h6 <;> simp at h6 <;> omega
 ·intro h8
  have hc:pColl k=true:=by unfold pColl; simp; omega
  rw [hc] at h2
  unfold collB at h2
  simp at h2
  exact h2.1
 ·intro h67
  have hc:pColl k=true:=by unfold pColl; simp; omega
  have ho:pOrd k=true:=by unfold pOrd; rcases h67 with rfl | rfl <;> rfl
  rw [hc,ho] at h2
  unfold collB at h2
  simp at h2
  simpa [List.getD_eq_getElem?_getD] using h2.2
 ·rintro rfl
  unfold loopB at h5
  simp at h5
  omega
theorem RF.isC {ks:List Int} {k c reg ar an br bn:Int} (h:RF ks k c reg ar an br bn) (h8:k≤8) {H rb:Nat} {F:List Nat} {w:World} {r:RS} (hr:Run H rb F ks w r):isC r.s c=true:=by
 obtain ⟨sb,FM,hM⟩:=hr.mdl
 have hg:=(hM w (.refl _ _)).1.1.kl
 have:=h.hc h8
 rw [← hr.ok.K,hg] at this
 unfold MP.isC
 simpa using this
theorem RF.oErr {ks:List Int} {k c reg ar an br bn:Int} (h:RF ks k c reg ar an br bn) (h67:k=6∨k=7) {H rb:Nat} {F:List Nat} {w:World} {r:RS} (hr:Run H rb F ks w r):oErr r.s c=0:=by
 have hc:=h.isC (by omega) hr
 unfold Go.Proofs.YtmjnmpifibemjaaGreatDoor.oErr
 rw [if_pos hc,hr.ok.K,if_pos (h.ord h67)]
theorem tb_tell {r:RS} (reg n:Int) (h:r.told.length + 201≤201 * r.steps):TB (tell r reg n):=by
 unfold TB tell
 simp only [List.length_append,List.length_cons,List.length_nil]
 omega
theorem Run.len {H rb:Nat} {F:List Nat} {ks:List Int} {w:World} {r:RS} (h:Run H rb F ks w r) {c:Int} (hc:MP.isC r.s c=true):(coll r.s c.toNat).length≤100:=by
 obtain ⟨sb,FM,hM⟩:=h.mdl
 exact (hM w (.refl _ _)).1.1.len _ (coll_mem (isC_lt hc))
theorem ask_ok {H rb:Nat} {F:List Nat} {ks:List Int} {r:RS} (k c reg ar an br bn:Int) (vb ve:Value) (w:World) (hk:k≤8) (hf:RF ks k c reg ar an br bn) (h:Run H rb F ks w r) (ht:r.told.length + 201≤201 * r.steps) (hH:H≤w.heap.size) :
 Calls Tryz.prog 122 #[.pointer (some ⟨rb,0,none⟩),.agg #[.int .i64 k,.int .i64 c,.int .i64 reg,.int .i64 ar,.int .i64 an,.int .i64 br,.int .i64 bn,vb,ve]] w (EvPost H rb F ks (askR k c reg ar an br bn r) w):=by
 have hc:=hf.isC hk h
 have hst:=h.ok.steps
 have hl:r.told.length + 1≤201 * 1000:=by omega
 have hl2:r.told.length + 201≤201 * 1000:=by omega
 have h16:=hf.hk
 have hn:∀ {v:Int} {e:Ending} {w':World},(e=.returned .nilIface∧RunPost H rb F ks (tell r reg v) w w')→EvPost H rb F ks (tell r reg v,0) w e w':=fun ⟨h1,h2⟩ => ⟨_,h1,.inl ⟨rfl,rfl⟩,h2,tb_tell _ _ ht⟩
 have hs:∀ {s':MS} {e:Ending} {w':World},(e=.returned .nilIface∧RunPost H rb F ks { r with s:=s' } w w')→EvPost H rb F ks ({ r with s:=s' },0) w e w':=fun ⟨h1,h2⟩ => ⟨_,h1,.inl ⟨rfl,rfl⟩,h2,by unfold TB; simp only; omega⟩
 have hcase:k=1∨k=2∨k=3∨k=4∨k=5∨k=6∨k=7∨k=8:=by omega
 rcases hcase with rfl | rfl | rfl | rfl | rfl | rfl | rfl | rfl
 ·have e:askR 1 c reg ar an br bn r=(tell r reg ((get (coll r.s c.toNat) (keyV r ar an)).getD (-1)),0):=rfl
  rw [e]
  cases hg:get (coll r.s c.toNat) (keyV r ar an) with
  | none => exact (ask_get0 c reg ar an br bn vb ve w h hc hf.hreg.1 hf.hreg.2 hf.a hf.b trivial hH hl hg).mono fun _ _ hp => hn hp
  | some g => exact (ask_get1 c reg ar an br bn vb ve w h hc hf.hreg.1 hf.hreg.2 hf.a hf.b trivial hH hl g hg).mono fun _ _ hp => hn hp
 ·have e:askR 2 c reg ar an br bn r=(if putE (coll r.s c.toNat) (keyV r ar an)=0 then ({ r with s:=mPut r.s c.toNat (keyV r ar an) (valV r br bn) },0) else (r,5)):=rfl
  rw [e]
  by_cases hp:putE (coll r.s c.toNat) (keyV r ar an)=0
  ·rw [if_pos hp]
   exact (ask_put c reg ar an br bn vb ve w h hc hf.a hf.b hp).mono fun _ _ hp => hs hp
  ·rw [if_neg hp]
   have hp8:putE (coll r.s c.toNat) (keyV r ar an)=8:=by
    unfold putE at hp ⊢
    split at hp
    ·rename_i h1; rw [if_pos h1]
    ·exact absurd rfl hp
   exact (ask_full c reg ar an br bn vb ve w h hc hf.a hf.b hp8).mono fun _ _ ⟨h1,h2⟩ => ⟨_,h1,  .inr (.inl ⟨rfl,rfl⟩),h2,show TB r by unfold TB; omega⟩
 ·have e:askR 3 c reg ar an br bn r=({ r with s:=mDel r.s c.toNat (keyV r ar an) },0):=rfl
  rw [e]
  exact (ask_del c reg ar an br bn vb ve w h hc hf.a hf.b).mono fun _ _ hp => hs hp
 ·have e:askR 4 c reg ar an br bn r=(tell r reg (if (get (coll r.s c.toNat) (keyV r ar an)).isSome then 1 else 0),0):=rfl
  rw [e]
  cases hg:get (coll r.s c.toNat) (keyV r ar an) with
  | none => exact (ask_has0 c reg ar an br bn vb ve w h hc hf.hreg.1 hf.hreg.2 hf.a hf.b trivial hH hl hg).mono fun _ _ hp => hn hp
  | some g => exact (ask_has1 c reg ar an br bn vb ve w h hc hf.hreg.1 hf.hreg.2 hf.a hf.b trivial hH hl g hg).mono fun _ _ hp => hn hp
 ·have e:askR 5 c reg ar an br bn r=(tell r reg (coll r.s c.toNat).length,0):=rfl
  rw [e]
  exact (ask_size c reg ar an br bn vb ve w h hc hf.hreg.1 hf.hreg.2 hf.a hf.b trivial hH hl _ rfl).mono fun _ _ hp => hn hp
 ·have e:askR 6 c reg ar an br bn r=(tell r reg ((ceilL (coll r.s c.toNat) (keyV r ar an)).getD (-1)),0):=rfl
  rw [e]
  cases hg:ceilL (coll r.s c.toNat) (keyV r ar an) with
  | none => exact (ask_ceil0 c reg ar an br bn vb ve w h hc hf.hreg.1 hf.hreg.2 hf.a hf.b (hf.oErr (.inl rfl) h) hH hl hg).mono fun _ _ hp => hn hp
  | some g => exact (ask_ceil1 c reg ar an br bn vb ve w h hc hf.hreg.1 hf.hreg.2 hf.a hf.b (hf.oErr (.inl rfl) h) hH hl g hg).mono fun _ _ hp => hn hp
 ·have e:askR 7 c reg ar an br bn r=(tell r reg (rangeL (coll r.s c.toNat) (keyV r ar an) (keyV r br bn)),0):=rfl
  rw [e]
  exact (ask_range c reg ar an br bn vb ve w h hc hf.hreg.1 hf.hreg.2 hf.a hf.b (hf.oErr (.inr rfl) h) hH hl _ rfl).mono fun _ _ hp => hn hp
 ·have e:askR 8 c reg ar an br bn r=(tellL r (coll r.s c.toNat).length (coll r.s c.toNat),0):=rfl
  rw [e]
  have hlen:=h.len hc
  refine (ask_list c reg ar an br bn vb ve w h hc hH hl2).mono fun _ _ ⟨h1,h2⟩ => ⟨_,h1,.inl ⟨rfl,rfl⟩,h2,?_⟩
  unfold TB tellL
  simp only [List.length_append,List.length_cons,flatP_len]
  omega
end Go.Proofs.YtmjnmpifibemjaaGreatDoor.Ev
namespace Go.Proofs.YtmjnmpifibemjaaGreatDoor.Ev
open Go.RowKit Assoc MP
attribute [local go_sem] litStep_value
theorem Run.setR {H rb:Nat} {F:List Nat} {ks:List Int} {w:World} {r:RS} (h:Run H rb F ks w r) {i:Nat} (hi:i < 9) (x:Int):Run H rb F ks (w.setCell ⟨rb,1 + i,none⟩ (.int .i64 x)) { r with regs:=r.regs.set i x }∧Frm F F w (w.setCell ⟨rb,1 + i,none⟩ (.int .i64 x)):=by
 obtain ⟨sb,FM,vt,rfl,h⟩:=h
 exact ⟨⟨sb,FM,vt,rfl,h.setR hi x⟩,frm_rb _ _⟩
theorem Run.regc {H rb:Nat} {F:List Nat} {ks:List Int} {w:World} {r:RS} (h:Run H rb F ks w r) {i:Nat} (hi:i < 9):∃ x,w.cell? ⟨rb,1 + i,none⟩=some (.int .i64 x):=by
 obtain ⟨sb,FM,vt,rfl,h⟩:=h
 obtain ⟨x,hx⟩:∃ x,r.regs[i]?=some x:=⟨_,List.getElem?_eq_getElem (by rw [h.ok.regs]; omega)⟩
 exact ⟨x,h.reg hx⟩
theorem EvPost.pre {H rb:Nat} {F:List Nat} {ks:List Int} {x:RS × Int} {w w1 w':World} {e:Ending} (h:EvPost H rb F ks x w1 e w') (hu:Upd [] w w1):EvPost H rb F ks x w e w':=by
 obtain ⟨u,h1,h2,h3,h4⟩:=h
 exact ⟨u,h1,h2,h3.pre hu,h4⟩
theorem EvPost.preF {H rb:Nat} {F F1:List Nat} {ks:List Int} {x:RS × Int} {w w1 w':World} {e:Ending} (h:EvPost H rb F1 ks x w1 e w') (hf:Frm F F1 w w1):EvPost H rb F ks x w e w':=by
 obtain ⟨u,h1,h2,⟨F',h3,h5⟩,h4⟩:=h
 exact ⟨u,h1,h2,⟨F',h3,hf.trans h5⟩,h4⟩
theorem tb_le {r:RS} (h:r.told.length + 201≤201 * r.steps):TB r:=by unfold TB; omega
theorem one_set {H rb:Nat} {F:List Nat} {ks:List Int} {r:RS} {b e:List Stm} (c reg ar an br bn:Int) (vb ve:Value) (w:World) (hf:RF ks 9 c reg ar an br bn) (h:Run H rb F ks w r) (ht:r.told.length + 201≤201 * r.steps) (hb:Stms w H vb b) (he:Stms w H ve e) (hH:H≤w.heap.size) :
 Calls Tryz.prog 106 #[.pointer (some ⟨rb,0,none⟩),.agg #[.int .i64 9,.int .i64 c,.int .i64 reg,.int .i64 ar,.int .i64 an,.int .i64 br,.int .i64 bn,vb,ve]] w (EvPost H rb F ks ({ r with regs:=r.regs.set reg.toNat (valV r ar an) },0) w):=by
 have HR:=Zh h
 have HB:=Zh hb
 have HE:=Zh he
 have HTB:=Zh ht
 have HAB:=Zh (And.intro hf.a hf.b)
 have HRF:=Zh hf
 have HHH:=Zh hH
 obtain ⟨c11,cf,cl⟩:=h.cells
 obtain ⟨x2,HX2⟩:∃ x,Hid (∀ (i:Nat),reg=i→∀ W,Upd [] w W→W.cell? ⟨rb,1 + i,none⟩=some (x:Value)):=by
  by_cases h0:0≤reg∧reg≤8
  ·obtain ⟨i,rfl⟩:∃ i:Nat,reg=i:=⟨reg.toNat,by omega⟩
   obtain ⟨x,hx⟩:=h.regc (i:=i) (by omega)
   exact ⟨_,Zh (fun j hj W hW => by
    obtain rfl:i=j:=by omega
    obtain ⟨y,hy⟩:=(h.upd0 hW).regc (i:=i) (by omega)
    obtain ⟨sb,FM,vt,_,hh⟩:=h
    exact ((hh.blk.upd hW (by simp)).cell _).trans ((hh.blk.cell _).symm.trans hx))⟩
  ·exact absurd hf.hreg h0
 have XB:Hid (Blk (w.alloc (.cells #[.int .i64 9,.int .i64 c,.int .i64 reg,.int .i64 ar,.int .i64 an,.int .i64 br,.int .i64 bn,vb,ve] 62)) w.heap.size 62 #[.int .i64 9,.int .i64 c,.int .i64 reg,.int .i64 ar,.int .i64 an,.int .i64 br,.int .i64 bn,vb,ve]):=Zh (Blk.new w _ _)
 have UA:Hid (Upd [] w (w.alloc (.cells #[.int .i64 9,.int .i64 c,.int .i64 reg,.int .i64 ar,.int .i64 an,.int .i64 br,.int .i64 bn,vb,ve] 62))):=Zh ((Upd.refl [] w).alloc _)
 clear h ht hb he hH hf
 obtain ⟨z,hz⟩:∃ z,valV r ar an=z:=⟨_,rfl⟩
 obtain ⟨y,hy⟩:∃ y,valV r br bn=y:=⟨_,rfl⟩
 have HZ:=Zh hz
 have HY:=Zh hy
 rw [hz]
 have hrg:=HRF.out.hreg
 obtain ⟨i,rfl⟩:∃ i:Nat,reg=i:=⟨reg.toNat,by omega⟩
 rw [Int.toNat_natCast]
 have q1:(0:Int)≤(i:Int):=by omega
 have q2:(i:Int) < 9:=by omega
 clear hz hy c11 cf cl hrg
 go_enter Tryz.func106,Tryz.ntmps106
 go_wp2_with fail
 generalize (w.alloc (.cells #[.int .i64 9,.int .i64 c,.int .i64 i,.int .i64 ar,.int .i64 an,.int .i64 br,.int .i64 bn,vb,ve] 62))=w1 at *
 have CS:Hid (∀ W,Upd [] w1.drew W→W.cell? ⟨w.heap.size,2,none⟩=some (.int .i64 i)∧W.cell? ⟨w.heap.size,3,none⟩=some (.int .i64 ar)∧W.cell? ⟨w.heap.size,4,none⟩=some (.int .i64 an)∧W.cell? ⟨w.heap.size,5,none⟩=some (.int .i64 br)∧W.cell? ⟨w.heap.size,6,none⟩=some (.int .i64 bn)):=Zh (fun W hW => by
  have hu:=(Upd.refl [] w1).drew.trans hW
  have hb:=XB.out.upd hu (by simp)
  exact ⟨hb.cell 2,hb.cell 3,hb.cell 4,hb.cell 5,hb.cell 6⟩)
 refine wp_invNT 10 [(6,.det (.int .i64 z))] [] (by kernel_rfl) (by simp) (by kernel_rfl) (by kernel_rfl) ⟨lasts_det _,trivial⟩ ?_
 simp only [List.take_succ_cons,List.take_zero,List.drop_succ_cons,List.drop_zero]
 iterate 6 (
  with_reducible apply wpV_light
  ·simp only [lightOp]
  ·intro W hU hF
   have f0:=CS.out W hU
   clear hU hF
   go_simp
   exact rfl
  simp only [aP])
 refine wpV_heavy (by simp only [lightOp]) (by rfl) (fun W hU hk hF K hK => ?_) ?_
 ·go_wp2_with fail
  refine (value_ok ar an W (HR.out.upd0 (UA.out.trans ((Upd.refl [] w1).drew.trans hU))) HAB.out.1).mono ?_
  rintro e' wx ⟨rfl,ux⟩
  go_wp2_with fail
  rw [HZ.out]
  exact hK.out _ _ (outV_new rfl rfl (by intro b hb; cases hb) ux)
 rintro _ rfl
 simp only [aP]
 iterate 3 (
  with_reducible apply wpV_light
  ·simp only [lightOp]
  ·intro W hU hF
   have f0:=CS.out W hU
   clear hU hF
   go_simp
   exact rfl
  simp only [aP])
 refine wpV_end (fun W hU _ hF => ?_)
 have UX:Hid (Upd [] w W):=Zh (UA.out.trans ((Upd.refl [] w1).drew.trans hU))
 have R8:=Zh ((HR.out.upd0 UX.out).setR (i:=i) (by omega) z)
 have F8:=Zh (R8.out.2.pre UX.out)
 obtain ⟨cc,cf,cl⟩:=(HR.out.upd0 UX.out).cells
 have cx:=HX2.out i rfl W UX.out
 clear hU hF cc
 refine wpT_op (by rfl) (fun K hK => ?_)
 go_wp2_with fail
 refine hK.out _ _ ?_
 clear hK K
 try simp only [aP]
 refine wpT_end ?_
 go_wp2_with fail
 go_ret
 exact ⟨_,rfl,.inl ⟨rfl,rfl⟩,⟨F,R8.out.1,F8.out⟩,tb_le HTB.out⟩
theorem one_add {H rb:Nat} {F:List Nat} {ks:List Int} {r:RS} {b e:List Stm} (c reg ar an br bn:Int) (vb ve:Value) (w:World) (hf:RF ks 10 c reg ar an br bn) (h:Run H rb F ks w r) (ht:r.told.length + 201≤201 * r.steps) (hb:Stms w H vb b) (he:Stms w H ve e) (hH:H≤w.heap.size) :
 Calls Tryz.prog 106 #[.pointer (some ⟨rb,0,none⟩),.agg #[.int .i64 10,.int .i64 c,.int .i64 reg,.int .i64 ar,.int .i64 an,.int .i64 br,.int .i64 bn,vb,ve]] w (EvPost H rb F ks ({ r with regs:=r.regs.set reg.toNat (modI (IntKind.i64.wrap (argV r ar an + argV r br bn)) 1000) },0) w):=by
 have HR:=Zh h
 have HB:=Zh hb
 have HE:=Zh he
 have HTB:=Zh ht
 have HAB:=Zh (And.intro hf.a hf.b)
 have HRF:=Zh hf
 have HHH:=Zh hH
 obtain ⟨c11,cf,cl⟩:=h.cells
 obtain ⟨x2,HX2⟩:∃ x,Hid (∀ (i:Nat),reg=i→∀ W,Upd [] w W→W.cell? ⟨rb,1 + i,none⟩=some (x:Value)):=by
  by_cases h0:0≤reg∧reg≤8
  ·obtain ⟨i,rfl⟩:∃ i:Nat,reg=i:=⟨reg.toNat,by omega⟩
   obtain ⟨x,hx⟩:=h.regc (i:=i) (by omega)
   exact ⟨_,Zh (fun j hj W hW => by
    obtain rfl:i=j:=by omega
    obtain ⟨y,hy⟩:=(h.upd0 hW).regc (i:=i) (by omega)
    obtain ⟨sb,FM,vt,_,hh⟩:=h
    exact ((hh.blk.upd hW (by simp)).cell _).trans ((hh.blk.cell _).symm.trans hx))⟩
  ·exact absurd hf.hreg h0
 have XB:Hid (Blk (w.alloc (.cells #[.int .i64 10,.int .i64 c,.int .i64 reg,.int .i64 ar,.int .i64 an,.int .i64 br,.int .i64 bn,vb,ve] 62)) w.heap.size 62 #[.int .i64 10,.int .i64 c,.int .i64 reg,.int .i64 ar,.int .i64 an,.int .i64 br,.int .i64 bn,vb,ve]):=Zh (Blk.new w _ _)
 have UA:Hid (Upd [] w (w.alloc (.cells #[.int .i64 10,.int .i64 c,.int .i64 reg,.int .i64 ar,.int .i64 an,.int .i64 br,.int .i64 bn,vb,ve] 62))):=Zh ((Upd.refl [] w).alloc _)
 clear h ht hb he hH hf
 obtain ⟨z,hz⟩:∃ z,argV r ar an=z:=⟨_,rfl⟩
 obtain ⟨y,hy⟩:∃ y,argV r br bn=y:=⟨_,rfl⟩
 have HZ:=Zh hz
 have HY:=Zh hy
 rw [hz,hy]
 obtain ⟨s,hs⟩:∃ s,IntKind.i64.wrap (z + y)=s:=⟨_,rfl⟩
 rw [hs]
 obtain ⟨m,hm⟩:∃ m,modI s 1000=m:=⟨_,rfl⟩
 have HM:=Zh hm
 rw [hm]
 have hrg:=HRF.out.hreg
 obtain ⟨i,rfl⟩:∃ i:Nat,reg=i:=⟨reg.toNat,by omega⟩
 rw [Int.toNat_natCast]
 have q1:(0:Int)≤(i:Int):=by omega
 have q2:(i:Int) < 9:=by omega
 clear hz hy c11 cf cl hrg hm
 go_enter Tryz.func106,Tryz.ntmps106
 go_wp2_with fail
 generalize (w.alloc (.cells #[.int .i64 10,.int .i64 c,.int .i64 i,.int .i64 ar,.int .i64 an,.int .i64 br,.int .i64 bn,vb,ve] 62))=w1 at *
 have CS:Hid (∀ W,Upd [] w1.drew W→W.cell? ⟨w.heap.size,2,none⟩=some (.int .i64 i)∧W.cell? ⟨w.heap.size,3,none⟩=some (.int .i64 ar)∧W.cell? ⟨w.heap.size,4,none⟩=some (.int .i64 an)∧W.cell? ⟨w.heap.size,5,none⟩=some (.int .i64 br)∧W.cell? ⟨w.heap.size,6,none⟩=some (.int .i64 bn)):=Zh (fun W hW => by
  have hu:=(Upd.refl [] w1).drew.trans hW
  have hb:=XB.out.upd hu (by simp)
  exact ⟨hb.cell 2,hb.cell 3,hb.cell 4,hb.cell 5,hb.cell 6⟩)
 refine wp_invNT 16 [(6,.det (.int .i64 z)),(10,.det (.int .i64 y)),(12,.det (.int .i64 m))] [] (by kernel_rfl) (by simp) (by kernel_rfl) (by kernel_rfl) ⟨lasts_det _,lasts_det _,lasts_det _,trivial⟩ ?_
 simp only [List.take_succ_cons,List.take_zero,List.drop_succ_cons,List.drop_zero]
 iterate 6 (
  with_reducible apply wpV_light
  ·simp only [lightOp]
  ·intro W hU hF
   have f0:=CS.out W hU
   clear hU hF
   go_simp
   exact rfl
  simp only [aP])
 refine wpV_heavy (by simp only [lightOp]) (by rfl) (fun W hU hk hF K hK => ?_) ?_
 ·go_wp2_with fail
  refine (arg_ok ar an W (HR.out.upd0 (UA.out.trans ((Upd.refl [] w1).drew.trans hU))) HAB.out.1).mono ?_
  rintro e' wx ⟨rfl,ux⟩
  go_wp2_with fail
  rw [HZ.out]
  exact hK.out _ _ (outV_new rfl rfl (by intro b hb; cases hb) ux)
 rintro _ rfl
 simp only [aP]
 iterate 3 (
  with_reducible apply wpV_light
  ·simp only [lightOp]
  ·intro W hU hF
   have f0:=CS.out W hU
   clear hU hF
   go_simp
   exact rfl
  simp only [aP])
 refine wpV_heavy (by simp only [lightOp]) (by rfl) (fun W hU hk hF K hK => ?_) ?_
 ·go_wp2_with fail
  refine (arg_ok br bn W (HR.out.upd0 (UA.out.trans ((Upd.refl [] w1).drew.trans hU))) HAB.out.2).mono ?_
  rintro e' wx ⟨rfl,ux⟩
  go_wp2_with fail
  rw [HY.out]
  exact hK.out _ _ (outV_new rfl rfl (by intro b hb; cases hb) ux)
 rintro _ rfl
 simp only [aP]
 with_reducible apply wpV_light
 ·simp only [lightOp]
 ·intro W hU hF
  have f0:=CS.out W hU
  clear hU hF
  go_simp
  exact rfl
 simp only [aP]
 refine wpV_heavy (by simp only [lightOp]) (by rfl) (fun W hU hk hF K hK => ?_) ?_
 ·go_wp2_with fail
  refine (mod_ok s 1000 W (by omega) (by omega)).mono ?_
  rintro e' wx ⟨rfl,rfl⟩
  go_wp2_with fail
  rw [HM.out]
  exact hK.out _ _ (outV_new rfl rfl (by intro b hb; cases hb) (.refl _ _))
 rintro _ rfl
 simp only [aP]
 iterate 3 (
  with_reducible apply wpV_light
  ·simp only [lightOp]
  ·intro W hU hF
   have f0:=CS.out W hU
   clear hU hF
   go_simp
   exact rfl
  simp only [aP])
 refine wpV_end (fun W hU _ hF => ?_)
 have UX:Hid (Upd [] w W):=Zh (UA.out.trans ((Upd.refl [] w1).drew.trans hU))
 have R8:=Zh ((HR.out.upd0 UX.out).setR (i:=i) (by omega) m)
 have F8:=Zh (R8.out.2.pre UX.out)
 obtain ⟨cc,cf,cl⟩:=(HR.out.upd0 UX.out).cells
 have cx:=HX2.out i rfl W UX.out
 clear hU hF cc
 refine wpT_op (by rfl) (fun K hK => ?_)
 go_wp2_with fail
 refine hK.out _ _ ?_
 clear hK K
 try simp only [aP]
 refine wpT_end ?_
 go_wp2_with fail
 go_ret
 exact ⟨_,rfl,.inl ⟨rfl,rfl⟩,⟨F,R8.out.1,F8.out⟩,tb_le HTB.out⟩
theorem one_then {H rb:Nat} {F:List Nat} {ks:List Int} {r:RS} {b e:List Stm} (c reg ar an br bn:Int) (vb ve:Value) (w:World) (hf:RF ks 11 c reg ar an br bn) (h:Run H rb F ks w r) (ht:r.told.length + 201≤201 * r.steps) (hb:Stms w H vb b) (he:Stms w H ve e) (hH:H≤w.heap.size) (hab:AllC ks b) (hv:valV r ar an < valV r br bn) :
 Calls Tryz.prog 106 #[.pointer (some ⟨rb,0,none⟩),.agg #[.int .i64 11,.int .i64 c,.int .i64 reg,.int .i64 ar,.int .i64 an,.int .i64 br,.int .i64 bn,vb,ve]] w (EvPost H rb F ks (evL b r) w):=by
 have HR:=Zh h
 have HB:=Zh hb
 have HE:=Zh he
 have HTB:=Zh ht
 have HAB:=Zh (And.intro hf.a hf.b)
 have HRF:=Zh hf
 have HHH:=Zh hH
 obtain ⟨c11,cf,cl⟩:=h.cells
 obtain ⟨x2,HX2⟩:∃ x,Hid (∀ (i:Nat),reg=i→∀ W,Upd [] w W→W.cell? ⟨rb,1 + i,none⟩=some (x:Value)):=by
  by_cases h0:0≤reg∧reg≤8
  ·obtain ⟨i,rfl⟩:∃ i:Nat,reg=i:=⟨reg.toNat,by omega⟩
   obtain ⟨x,hx⟩:=h.regc (i:=i) (by omega)
   exact ⟨_,Zh (fun j hj W hW => by
    obtain rfl:i=j:=by omega
    obtain ⟨y,hy⟩:=(h.upd0 hW).regc (i:=i) (by omega)
    obtain ⟨sb,FM,vt,_,hh⟩:=h
    exact ((hh.blk.upd hW (by simp)).cell _).trans ((hh.blk.cell _).symm.trans hx))⟩
  ·exact absurd hf.hreg h0
 have XB:Hid (Blk (w.alloc (.cells #[.int .i64 11,.int .i64 c,.int .i64 reg,.int .i64 ar,.int .i64 an,.int .i64 br,.int .i64 bn,vb,ve] 62)) w.heap.size 62 #[.int .i64 11,.int .i64 c,.int .i64 reg,.int .i64 ar,.int .i64 an,.int .i64 br,.int .i64 bn,vb,ve]):=Zh (Blk.new w _ _)
 have UA:Hid (Upd [] w (w.alloc (.cells #[.int .i64 11,.int .i64 c,.int .i64 reg,.int .i64 ar,.int .i64 an,.int .i64 br,.int .i64 bn,vb,ve] 62))):=Zh ((Upd.refl [] w).alloc _)
 clear h ht hb he hH hf
 have HA:=Zh hab
 obtain ⟨z,hz⟩:∃ z,valV r ar an=z:=⟨_,rfl⟩
 obtain ⟨y,hy⟩:∃ y,valV r br bn=y:=⟨_,rfl⟩
 have HZ:=Zh hz
 have HY:=Zh hy
 rw [hz,hy] at hv
 have d0:decide (z < y)=true:=by simpa using hv
 clear hz hy hv hab c11 cf cl
 go_enter Tryz.func106,Tryz.ntmps106
 go_wp2_with fail
 generalize (w.alloc (.cells #[.int .i64 11,.int .i64 c,.int .i64 reg,.int .i64 ar,.int .i64 an,.int .i64 br,.int .i64 bn,vb,ve] 62))=w1 at *
 have CS:Hid (∀ W,Upd [] w1.drew W→W.cell? ⟨w.heap.size,2,none⟩=some (.int .i64 reg)∧W.cell? ⟨w.heap.size,3,none⟩=some (.int .i64 ar)∧W.cell? ⟨w.heap.size,4,none⟩=some (.int .i64 an)∧W.cell? ⟨w.heap.size,5,none⟩=some (.int .i64 br)∧W.cell? ⟨w.heap.size,6,none⟩=some (.int .i64 bn)):=Zh (fun W hW => by
  have hu:=(Upd.refl [] w1).drew.trans hW
  have hb:=XB.out.upd hu (by simp)
  exact ⟨hb.cell 2,hb.cell 3,hb.cell 4,hb.cell 5,hb.cell 6⟩)
 refine wp_invN [(3,.det (.int .i64 z)),(7,.det (.int .i64 y))] [] (by kernel_rfl) (by kernel_rfl) (by kernel_rfl) ⟨lasts_det _,lasts_det _,trivial⟩ ?_
 iterate 3 (
  with_reducible apply wpV_light
  ·simp only [lightOp]
  ·intro W hU hF
   have f0:=CS.out W hU
   clear hU hF
   go_simp
   exact rfl
  simp only [aP])
 refine wpV_heavy (by simp only [lightOp]) (by rfl) (fun W hU hk hF K hK => ?_) ?_
 ·go_wp2_with fail
  refine (value_ok ar an W (HR.out.upd0 (UA.out.trans ((Upd.refl [] w1).drew.trans hU))) HAB.out.1).mono ?_
  rintro e' wx ⟨rfl,ux⟩
  go_wp2_with fail
  rw [HZ.out]
  exact hK.out _ _ (outV_new rfl rfl (by intro b hb; cases hb) ux)
 rintro _ rfl
 simp only [aP]
 iterate 3 (
  with_reducible apply wpV_light
  ·simp only [lightOp]
  ·intro W hU hF
   have f0:=CS.out W hU
   clear hU hF
   go_simp
   exact rfl
  simp only [aP])
 refine wpV_heavy (by simp only [lightOp]) (by rfl) (fun W hU hk hF K hK => ?_) ?_
 ·go_wp2_with fail
  refine (value_ok br bn W (HR.out.upd0 (UA.out.trans ((Upd.refl [] w1).drew.trans hU))) HAB.out.2).mono ?_
  rintro e' wx ⟨rfl,ux⟩
  go_wp2_with fail
  rw [HY.out]
  exact hK.out _ _ (outV_new rfl rfl (by intro b hb; cases hb) ux)
 rintro _ rfl
 simp only [aP]
 with_reducible apply wpV_light
 ·simp only [lightOp]
 ·intro W hU hF
  have f0:=CS.out W hU
  clear hU hF
  go_simp
  exact rfl
 simp only [aP]
 refine wpV_end (fun W hU _ hF => ?_)
 have UX:Hid (Upd [] w W):=Zh (UA.out.trans ((Upd.refl [] w1).drew.trans hU))
 have e7:W.cell? ⟨w.heap.size,7,none⟩=some vb:=(XB.out.upd ((Upd.refl [] w1).drew.trans hU) (by simp)).cell 7
 have e8:W.cell? ⟨w.heap.size,8,none⟩=some ve:=(XB.out.upd ((Upd.refl [] w1).drew.trans hU) (by simp)).cell 8
 clear hU hF
 refine wpT_end ?_
 go_wp2_with fail
 refine (HA.out H rb F vb r W (HR.out.upd0 UX.out) (tb_le HTB.out) (HB.out.belowW (UX.out.below HHH.out (by simp))) (Nat.le_trans HHH.out UX.out.size)).mono ?_
 rintro e' w4 ⟨u,rfl,hp⟩
 have HP:=Zh (EvPost.pre ⟨u,rfl,hp⟩ UX.out)
 clear hp e7 e8
 go_wp2_with fail
 go_ret
 exact HP.out
theorem one_else {H rb:Nat} {F:List Nat} {ks:List Int} {r:RS} {b e:List Stm} (c reg ar an br bn:Int) (vb ve:Value) (w:World) (hf:RF ks 11 c reg ar an br bn) (h:Run H rb F ks w r) (ht:r.told.length + 201≤201 * r.steps) (hb:Stms w H vb b) (he:Stms w H ve e) (hH:H≤w.heap.size) (hae:AllC ks e) (hv:¬ valV r ar an < valV r br bn) :
 Calls Tryz.prog 106 #[.pointer (some ⟨rb,0,none⟩),.agg #[.int .i64 11,.int .i64 c,.int .i64 reg,.int .i64 ar,.int .i64 an,.int .i64 br,.int .i64 bn,vb,ve]] w (EvPost H rb F ks (evL e r) w):=by
 have HR:=Zh h
 have HB:=Zh hb
 have HE:=Zh he
 have HTB:=Zh ht
 have HAB:=Zh (And.intro hf.a hf.b)
 have HRF:=Zh hf
 have HHH:=Zh hH
 obtain ⟨c11,cf,cl⟩:=h.cells
 obtain ⟨x2,HX2⟩:∃ x,Hid (∀ (i:Nat),reg=i→∀ W,Upd [] w W→W.cell? ⟨rb,1 + i,none⟩=some (x:Value)):=by
  by_cases h0:0≤reg∧reg≤8
  ·obtain ⟨i,rfl⟩:∃ i:Nat,reg=i:=⟨reg.toNat,by omega⟩
   obtain ⟨x,hx⟩:=h.regc (i:=i) (by omega)
   exact ⟨_,Zh (fun j hj W hW => by
    obtain rfl:i=j:=by omega
    obtain ⟨y,hy⟩:=(h.upd0 hW).regc (i:=i) (by omega)
    obtain ⟨sb,FM,vt,_,hh⟩:=h
    exact ((hh.blk.upd hW (by simp)).cell _).trans ((hh.blk.cell _).symm.trans hx))⟩
  ·exact absurd hf.hreg h0
 have XB:Hid (Blk (w.alloc (.cells #[.int .i64 11,.int .i64 c,.int .i64 reg,.int .i64 ar,.int .i64 an,.int .i64 br,.int .i64 bn,vb,ve] 62)) w.heap.size 62 #[.int .i64 11,.int .i64 c,.int .i64 reg,.int .i64 ar,.int .i64 an,.int .i64 br,.int .i64 bn,vb,ve]):=Zh (Blk.new w _ _)
 have UA:Hid (Upd [] w (w.alloc (.cells #[.int .i64 11,.int .i64 c,.int .i64 reg,.int .i64 ar,.int .i64 an,.int .i64 br,.int .i64 bn,vb,ve] 62))):=Zh ((Upd.refl [] w).alloc _)
 clear h ht hb he hH hf
 have HA:=Zh hae
 obtain ⟨z,hz⟩:∃ z,valV r ar an=z:=⟨_,rfl⟩
 obtain ⟨y,hy⟩:∃ y,valV r br bn=y:=⟨_,rfl⟩
 have HZ:=Zh hz
 have HY:=Zh hy
 rw [hz,hy] at hv
 have d0:decide (z < y)=false:=by simpa using hv
 clear hz hy hv hae c11 cf cl
 go_enter Tryz.func106,Tryz.ntmps106
 go_wp2_with fail
 generalize (w.alloc (.cells #[.int .i64 11,.int .i64 c,.int .i64 reg,.int .i64 ar,.int .i64 an,.int .i64 br,.int .i64 bn,vb,ve] 62))=w1 at *
 have CS:Hid (∀ W,Upd [] w1.drew W→W.cell? ⟨w.heap.size,2,none⟩=some (.int .i64 reg)∧W.cell? ⟨w.heap.size,3,none⟩=some (.int .i64 ar)∧W.cell? ⟨w.heap.size,4,none⟩=some (.int .i64 an)∧W.cell? ⟨w.heap.size,5,none⟩=some (.int .i64 br)∧W.cell? ⟨w.heap.size,6,none⟩=some (.int .i64 bn)):=Zh (fun W hW => by
  have hu:=(Upd.refl [] w1).drew.trans hW
  have hb:=XB.out.upd hu (by simp)
  exact ⟨hb.cell 2,hb.cell 3,hb.cell 4,hb.cell 5,hb.cell 6⟩)
 refine wp_invN [(3,.det (.int .i64 z)),(7,.det (.int .i64 y))] [] (by kernel_rfl) (by kernel_rfl) (by kernel_rfl) ⟨lasts_det _,lasts_det _,trivial⟩ ?_
 iterate 3 (
  with_reducible apply wpV_light
  ·simp only [lightOp]
  ·intro W hU hF
   have f0:=CS.out W hU
   clear hU hF
   go_simp
   exact rfl
  simp only [aP])
 refine wpV_heavy (by simp only [lightOp]) (by rfl) (fun W hU hk hF K hK => ?_) ?_
 ·go_wp2_with fail
  refine (value_ok ar an W (HR.out.upd0 (UA.out.trans ((Upd.refl [] w1).drew.trans hU))) HAB.out.1).mono ?_
  rintro e' wx ⟨rfl,ux⟩
  go_wp2_with fail
  rw [HZ.out]
  exact hK.out _ _ (outV_new rfl rfl (by intro b hb; cases hb) ux)
 rintro _ rfl
 simp only [aP]
 iterate 3 (
  with_reducible apply wpV_light
  ·simp only [lightOp]
  ·intro W hU hF
   have f0:=CS.out W hU
   clear hU hF
   go_simp
   exact rfl
  simp only [aP])
 refine wpV_heavy (by simp only [lightOp]) (by rfl) (fun W hU hk hF K hK => ?_) ?_
 ·go_wp2_with fail
  refine (value_ok br bn W (HR.out.upd0 (UA.out.trans ((Upd.refl [] w1).drew.trans hU))) HAB.out.2).mono ?_
  rintro e' wx ⟨rfl,ux⟩
  go_wp2_with fail
  rw [HY.out]
  exact hK.out _ _ (outV_new rfl rfl (by intro b hb; cases hb) ux)
 rintro _ rfl
 simp only [aP]
 with_reducible apply wpV_light
 ·simp only [lightOp]
 ·intro W hU hF
  have f0:=CS.out W hU
  clear hU hF
  go_simp
  exact rfl
 simp only [aP]
 refine wpV_end (fun W hU _ hF => ?_)
 have UX:Hid (Upd [] w W):=Zh (UA.out.trans ((Upd.refl [] w1).drew.trans hU))
 have e7:W.cell? ⟨w.heap.size,7,none⟩=some vb:=(XB.out.upd ((Upd.refl [] w1).drew.trans hU) (by simp)).cell 7
 have e8:W.cell? ⟨w.heap.size,8,none⟩=some ve:=(XB.out.upd ((Upd.refl [] w1).drew.trans hU) (by simp)).cell 8
 clear hU hF
 refine wpT_end ?_
 go_wp2_with fail
 refine (HA.out H rb F ve r W (HR.out.upd0 UX.out) (tb_le HTB.out) (HE.out.belowW (UX.out.below HHH.out (by simp))) (Nat.le_trans HHH.out UX.out.size)).mono ?_
 rintro e' w4 ⟨u,rfl,hp⟩
 have HP:=Zh (EvPost.pre ⟨u,rfl,hp⟩ UX.out)
 clear hp e7 e8
 go_wp2_with fail
 go_ret
 exact HP.out
theorem one_retry {H rb:Nat} {F:List Nat} {ks:List Int} {r:RS} {b e:List Stm} (c reg ar an br bn:Int) (vb ve:Value) (w:World) (hf:RF ks 15 c reg ar an br bn) (h:Run H rb F ks w r) (ht:r.told.length + 201≤201 * r.steps) (hb:Stms w H vb b) (he:Stms w H ve e) (hH:H≤w.heap.size) :
 Calls Tryz.prog 106 #[.pointer (some ⟨rb,0,none⟩),.agg #[.int .i64 15,.int .i64 c,.int .i64 reg,.int .i64 ar,.int .i64 an,.int .i64 br,.int .i64 bn,vb,ve]] w (EvPost H rb F ks (r,3) w):=by
 have HR:=Zh h
 have HB:=Zh hb
 have HE:=Zh he
 have HTB:=Zh ht
 have HAB:=Zh (And.intro hf.a hf.b)
 have HRF:=Zh hf
 have HHH:=Zh hH
 obtain ⟨c11,cf,cl⟩:=h.cells
 obtain ⟨x2,HX2⟩:∃ x,Hid (∀ (i:Nat),reg=i→∀ W,Upd [] w W→W.cell? ⟨rb,1 + i,none⟩=some (x:Value)):=by
  by_cases h0:0≤reg∧reg≤8
  ·obtain ⟨i,rfl⟩:∃ i:Nat,reg=i:=⟨reg.toNat,by omega⟩
   obtain ⟨x,hx⟩:=h.regc (i:=i) (by omega)
   exact ⟨_,Zh (fun j hj W hW => by
    obtain rfl:i=j:=by omega
    obtain ⟨y,hy⟩:=(h.upd0 hW).regc (i:=i) (by omega)
    obtain ⟨sb,FM,vt,_,hh⟩:=h
    exact ((hh.blk.upd hW (by simp)).cell _).trans ((hh.blk.cell _).symm.trans hx))⟩
  ·exact absurd hf.hreg h0
 have XB:Hid (Blk (w.alloc (.cells #[.int .i64 15,.int .i64 c,.int .i64 reg,.int .i64 ar,.int .i64 an,.int .i64 br,.int .i64 bn,vb,ve] 62)) w.heap.size 62 #[.int .i64 15,.int .i64 c,.int .i64 reg,.int .i64 ar,.int .i64 an,.int .i64 br,.int .i64 bn,vb,ve]):=Zh (Blk.new w _ _)
 have UA:Hid (Upd [] w (w.alloc (.cells #[.int .i64 15,.int .i64 c,.int .i64 reg,.int .i64 ar,.int .i64 an,.int .i64 br,.int .i64 bn,vb,ve] 62))):=Zh ((Upd.refl [] w).alloc _)
 clear h ht hb he hH hf
 obtain ⟨st,hst⟩:∃ st,r.steps=st:=⟨_,rfl⟩
 rw [hst] at c11
 clear hst
 have U2:Hid (Upd [] w ((w.alloc (.cells #[.int .i64 15,.int .i64 c,.int .i64 reg,.int .i64 ar,.int .i64 an,.int .i64 br,.int .i64 bn,vb,ve] 62)).alloc (.cells #[.int .i64 st,.int .i64 13] 206))):=Zh (((Upd.refl [] w).alloc _).alloc _)
 have B2:=Zh (Blk.new (w.alloc (.cells #[.int .i64 15,.int .i64 c,.int .i64 reg,.int .i64 ar,.int .i64 an,.int .i64 br,.int .i64 bn,vb,ve] 62)) 206 #[.int .i64 st,.int .i64 13])
 go_enter Tryz.func106,Tryz.ntmps106
 go_wp2_with fail
 go_ret
 exact ⟨_,rfl,.inr (.inr ⟨_,st,13,rfl,by have:=B2.out; simpa using this,by omega⟩),⟨F,HR.out.upd0 U2.out,(Frm.refl _ _).pre U2.out⟩,tb_le HTB.out⟩
theorem one_abort {H rb:Nat} {F:List Nat} {ks:List Int} {r:RS} {b e:List Stm} (c reg ar an br bn:Int) (vb ve:Value) (w:World) (hf:RF ks 16 c reg ar an br bn) (h:Run H rb F ks w r) (ht:r.told.length + 201≤201 * r.steps) (hb:Stms w H vb b) (he:Stms w H ve e) (hH:H≤w.heap.size) :
 Calls Tryz.prog 106 #[.pointer (some ⟨rb,0,none⟩),.agg #[.int .i64 16,.int .i64 c,.int .i64 reg,.int .i64 ar,.int .i64 an,.int .i64 br,.int .i64 bn,vb,ve]] w (EvPost H rb F ks (r,2) w):=by
 have HR:=Zh h
 have HB:=Zh hb
 have HE:=Zh he
 have HTB:=Zh ht
 have HAB:=Zh (And.intro hf.a hf.b)
 have HRF:=Zh hf
 have HHH:=Zh hH
 obtain ⟨c11,cf,cl⟩:=h.cells
 obtain ⟨x2,HX2⟩:∃ x,Hid (∀ (i:Nat),reg=i→∀ W,Upd [] w W→W.cell? ⟨rb,1 + i,none⟩=some (x:Value)):=by
  by_cases h0:0≤reg∧reg≤8
  ·obtain ⟨i,rfl⟩:∃ i:Nat,reg=i:=⟨reg.toNat,by omega⟩
   obtain ⟨x,hx⟩:=h.regc (i:=i) (by omega)
   exact ⟨_,Zh (fun j hj W hW => by
    obtain rfl:i=j:=by omega
    obtain ⟨y,hy⟩:=(h.upd0 hW).regc (i:=i) (by omega)
    obtain ⟨sb,FM,vt,_,hh⟩:=h
    exact ((hh.blk.upd hW (by simp)).cell _).trans ((hh.blk.cell _).symm.trans hx))⟩
  ·exact absurd hf.hreg h0
 have XB:Hid (Blk (w.alloc (.cells #[.int .i64 16,.int .i64 c,.int .i64 reg,.int .i64 ar,.int .i64 an,.int .i64 br,.int .i64 bn,vb,ve] 62)) w.heap.size 62 #[.int .i64 16,.int .i64 c,.int .i64 reg,.int .i64 ar,.int .i64 an,.int .i64 br,.int .i64 bn,vb,ve]):=Zh (Blk.new w _ _)
 have UA:Hid (Upd [] w (w.alloc (.cells #[.int .i64 16,.int .i64 c,.int .i64 reg,.int .i64 ar,.int .i64 an,.int .i64 br,.int .i64 bn,vb,ve] 62))):=Zh ((Upd.refl [] w).alloc _)
 clear h ht hb he hH hf
 obtain ⟨st,hst⟩:∃ st,r.steps=st:=⟨_,rfl⟩
 rw [hst] at c11
 clear hst
 have U2:Hid (Upd [] w ((w.alloc (.cells #[.int .i64 16,.int .i64 c,.int .i64 reg,.int .i64 ar,.int .i64 an,.int .i64 br,.int .i64 bn,vb,ve] 62)).alloc (.cells #[.int .i64 st,.int .i64 14] 206))):=Zh (((Upd.refl [] w).alloc _).alloc _)
 have B2:=Zh (Blk.new (w.alloc (.cells #[.int .i64 16,.int .i64 c,.int .i64 reg,.int .i64 ar,.int .i64 an,.int .i64 br,.int .i64 bn,vb,ve] 62)) 206 #[.int .i64 st,.int .i64 14])
 go_enter Tryz.func106,Tryz.ntmps106
 go_wp2_with fail
 go_ret
 exact ⟨_,rfl,.inr (.inr ⟨_,st,14,rfl,by have:=B2.out; simpa using this,by omega⟩),⟨F,HR.out.upd0 U2.out,(Frm.refl _ _).pre U2.out⟩,tb_le HTB.out⟩
end Go.Proofs.YtmjnmpifibemjaaGreatDoor.Ev
namespace Go.Proofs.YtmjnmpifibemjaaGreatDoor.Ev
open Go.RowKit Assoc MP
attribute [local go_sem] litStep_value
theorem mdl_base {B B' sb:Nat} {F:List Nat} {w:World} {s:MS} (h:Mdl B sb F w s) (hB:B'≤B):Mdl B' sb F w s:=by
 obtain ⟨g,vk,gc,cc,ms,rfl,h⟩:=h
 exact ⟨g,vk,gc,cc,ms,rfl,h.box,own_base h.k hB,own_base h.c hB,h.each,h.nd,Nat.le_trans hB h.bs,fun m hm => Nat.le_trans hB (h.bm m hm)⟩
theorem Run.setS {H rb:Nat} {F:List Nat} {ks:List Int} {w:World} {r:RS} (h:Run H rb F ks w r) {sb:Nat} {FM:List Nat} {s:MS} (hm:Mdl H sb FM w s) (hd:∀ k ∈ F,k ∉ FM) (hK:s.K=ks) :
 ∃ F',Run H rb F' ks (w.setCell ⟨rb,0,none⟩ (.pointer (some ⟨sb,0,none⟩))) { r with s:=s }∧(∀ k ∈ F',k ∈ F∨k ∈ FM)∧Upd F w (w.setCell ⟨rb,0,none⟩ (.pointer (some ⟨sb,0,none⟩))):=by
 obtain ⟨sb0,FM0,vt,rfl,h⟩:=h
 have hu:Upd [rb] w (w.setCell ⟨rb,0,none⟩ (.pointer (some ⟨sb,0,none⟩))):=Upd.setCell (p:=⟨rb,0,none⟩) (.refl _ _) (.inl (by simp)) _
 have hrm:rb ∉ FM:=hd rb (List.mem_cons_self ..)
 refine ⟨fpR rb vt FM,⟨sb,FM,vt,rfl,⟨h.blk.set_eq (runC_setS sb),hm.upd hu (fun k hk => by simp; rintro rfl; exact hrm hk),own_upd h.told hu (fun b hb => by simpa using h.tr b hb),h.low,hrm,fun b hb => hd b (by unfold fpR; simp [hb]),⟨hK,h.ok.regs,h.ok.steps,h.ok.told⟩⟩⟩,fun k hk => ?_,?_⟩
 ·unfold fpR at hk ⊢
  rw [List.mem_cons,List.mem_append] at hk
  rcases hk with rfl | hk | hk
  ·exact .inl (List.mem_cons_self ..)
  ·left; rw [List.mem_cons,List.mem_append]; exact .inr (.inl hk)
  ·exact .inr hk
 ·exact Upd.setCell (p:=⟨rb,0,none⟩) (.refl _ _) (.inl (List.mem_cons_self ..)) _
theorem iterR_zero (f:RS→RS × Int) (r:RS):iterR f 0 r=(r,0):=rfl
theorem iterR_succ (f:RS→RS × Int) (n:Nat) (r:RS):iterR f (n + 1) r=if (f r).2=0 then iterR f n (f r).1 else f r:=rfl
theorem one_ask {H rb:Nat} {F:List Nat} {ks:List Int} {r:RS} {b e:List Stm} (k c reg ar an br bn:Int) (vb ve:Value) (w:World) (hf:RF ks k c reg ar an br bn) (h:Run H rb F ks w r) (ht:r.told.length + 201≤201 * r.steps) (hb:Stms w H vb b) (he:Stms w H ve e) (hH:H≤w.heap.size) (hk8:k≤8) :
 Calls Tryz.prog 106 #[.pointer (some ⟨rb,0,none⟩),.agg #[.int .i64 k,.int .i64 c,.int .i64 reg,.int .i64 ar,.int .i64 an,.int .i64 br,.int .i64 bn,vb,ve]] w (EvPost H rb F ks (askR k c reg ar an br bn r) w):=by
 have HR:=Zh h
 have HB:=Zh hb
 have HE:=Zh he
 have HTB:=Zh ht
 have HAB:=Zh (And.intro hf.a hf.b)
 have HRF:=Zh hf
 have HHH:=Zh hH
 obtain ⟨c11,cf,cl⟩:=h.cells
 have XB:Hid (Blk (w.alloc (.cells #[.int .i64 k,.int .i64 c,.int .i64 reg,.int .i64 ar,.int .i64 an,.int .i64 br,.int .i64 bn,vb,ve] 62)) w.heap.size 62 #[.int .i64 k,.int .i64 c,.int .i64 reg,.int .i64 ar,.int .i64 an,.int .i64 br,.int .i64 bn,vb,ve]):=Zh (Blk.new w _ _)
 have UA:Hid (Upd [] w (w.alloc (.cells #[.int .i64 k,.int .i64 c,.int .i64 reg,.int .i64 ar,.int .i64 an,.int .i64 br,.int .i64 bn,vb,ve] 62))):=Zh ((Upd.refl [] w).alloc _)
 clear h ht hb he hH hf
 have HC:=Zh (ask_ok k c reg ar an br bn vb ve (w.alloc (.cells #[.int .i64 k,.int .i64 c,.int .i64 reg,.int .i64 ar,.int .i64 an,.int .i64 br,.int .i64 bn,vb,ve] 62)) hk8 HRF.out (HR.out.upd0 UA.out) HTB.out (Nat.le_trans HHH.out UA.out.size))
 have d9:(k == 9)=false:=by simp; omega
 have d10:(k == 10)=false:=by simp; omega
 have d11:(k == 11)=false:=by simp; omega
 have d12:(k == 12)=false:=by simp; omega
 have d13:(k == 13)=false:=by simp; omega
 have d14:(k == 14)=false:=by simp; omega
 have d15:(k == 15)=false:=by simp; omega
 have d16:(k == 16)=false:=by simp; omega
 clear hk8
 go_enter Tryz.func106,Tryz.ntmps106
 go_wp2_with fail
 refine HC.out.mono ?_
 rintro e' w4 ⟨u,rfl,hp⟩
 have HP:=Zh (EvPost.pre ⟨u,rfl,hp⟩ UA.out)
 clear hp d9 d10 d11 d12 d13 d14 d15 d16
 go_wp2_with fail
 go_ret
 exact HP.out
theorem one_loop {H rb:Nat} {F:List Nat} {ks:List Int} {r:RS} {b e:List Stm} (c reg ar an br bn:Int) (vb ve:Value) (w:World) (hf:RF ks 12 c reg ar an br bn) (h:Run H rb F ks w r) (ht:r.told.length + 201≤201 * r.steps) (hb:Stms w H vb b) (he:Stms w H ve e) (hH:H≤w.heap.size) (hab:AllC ks b) :
 Calls Tryz.prog 106 #[.pointer (some ⟨rb,0,none⟩),.agg #[.int .i64 12,.int .i64 c,.int .i64 reg,.int .i64 ar,.int .i64 an,.int .i64 br,.int .i64 bn,vb,ve]] w (EvPost H rb F ks (iterR (evL b) an.toNat r) w):=by
 have HR:=Zh h
 have HB:=Zh hb
 have HE:=Zh he
 have HTB:=Zh ht
 have HAB:=Zh (And.intro hf.a hf.b)
 have HRF:=Zh hf
 have HHH:=Zh hH
 obtain ⟨c11,cf,cl⟩:=h.cells
 have XB:Hid (Blk (w.alloc (.cells #[.int .i64 12,.int .i64 c,.int .i64 reg,.int .i64 ar,.int .i64 an,.int .i64 br,.int .i64 bn,vb,ve] 62)) w.heap.size 62 #[.int .i64 12,.int .i64 c,.int .i64 reg,.int .i64 ar,.int .i64 an,.int .i64 br,.int .i64 bn,vb,ve]):=Zh (Blk.new w _ _)
 have UA:Hid (Upd [] w (w.alloc (.cells #[.int .i64 12,.int .i64 c,.int .i64 reg,.int .i64 ar,.int .i64 an,.int .i64 br,.int .i64 bn,vb,ve] 62))):=Zh ((Upd.refl [] w).alloc _)
 clear h ht hb he hH hf
 have HA:=Zh hab
 obtain ⟨har,han,han5⟩:=HRF.out.loop rfl
 obtain ⟨n,rfl⟩:∃ n:Nat,an=n:=⟨an.toNat,by omega⟩
 rw [Int.toNat_natCast]
 obtain ⟨X,hX⟩:∃ X,iterR (evL b) n r=X:=⟨_,rfl⟩
 have HX:=Zh hX
 rw [hX]
 have hn5:n≤5:=by omega
 have HLT:Hid (∀ k ∈ F,H≤k∧k < w.heap.size):=Zh HR.out.lt
 clear har han han5 hX hab c11 cf cl
 go_enter Tryz.func106,Tryz.ntmps106
 go_wp2_with fail
 have S0:Hid (∃ Fk rk,Run H rb Fk ks (w.alloc (.cells #[.int .i64 12,.int .i64 c,.int .i64 reg,.int .i64 ar,.int .i64 n,.int .i64 br,.int .i64 bn,vb,ve] 62)) rk∧Frm F Fk (w.alloc (.cells #[.int .i64 12,.int .i64 c,.int .i64 reg,.int .i64 ar,.int .i64 n,.int .i64 br,.int .i64 bn,vb,ve] 62)) (w.alloc (.cells #[.int .i64 12,.int .i64 c,.int .i64 reg,.int .i64 ar,.int .i64 n,.int .i64 br,.int .i64 bn,vb,ve] 62))∧TB rk∧X=iterR (evL b) (n - 0) rk):=Zh ⟨F,r,HR.out.upd0 UA.out,Frm.refl _ _,tb_le HTB.out,HX.out.symm⟩
 generalize (w.alloc (.cells #[.int .i64 12,.int .i64 c,.int .i64 reg,.int .i64 ar,.int .i64 n,.int .i64 br,.int .i64 bn,vb,ve] 62))=w1 at *
 go_loopw [65] (fun i wr => ∃ k:Nat,i=.int .i64 k∧k≤n∧Hid (∃ Fk rk,Run H rb Fk ks wr rk∧Frm F Fk w1 wr∧TB rk∧X=iterR (evL b) (n - k) rk)) (fun i _ => n - (intOf i).toNat)
 case atStart => exact ⟨0,rfl,by omega,S0⟩
 case round =>
  obtain ⟨k,rfl,hk,HK⟩:=hrel
  obtain ⟨Fk,rk,hr,hf,ht,he⟩:=HK.out
  by_cases hkn:k < n
  ·rw [show n - k=(n - (k + 1)) + 1 by omega,iterR_succ] at he
   have HEV:=Zh he
   have HFR:=Zh hf
   have HBX:=Zh (XB.out.upd hf.upd (fun hm => by have:=HLT.out _ hm; omega))
   have UW:Hid (Below H w wr):=Zh (by
    have h1:=UA.out.below HHH.out (by simp)
    have h2:=hf.upd.below (Nat.le_trans HHH.out UA.out.size) (fun k hk => (HLT.out k hk).1)
    exact h1.trans h2)
   have e7:wr.cell? ⟨w.heap.size,7,none⟩=some vb:=HBX.out.cell 7
   have HC:=Zh (HA.out H rb Fk vb rk wr hr ht (HB.out.belowW UW.out) (Nat.le_trans HHH.out (Nat.le_trans UA.out.size hf.upd.size)))
   clear hr hf ht he HK
   go_wp2_with fail
   refine HC.out.mono ?_
   rintro e' w5 ⟨u,rfl,hsv,⟨F5,h5,f5⟩,t5⟩
   have H5:=Zh h5
   have T5:=Zh t5
   have G5:=Zh (HFR.out.trans f5)
   clear h5 f5 t5 HC e7
   rcases hsv with ⟨h0,rfl⟩ | ⟨h0,rfl⟩ | ⟨g,s',y',rfl,hb,hy⟩
   ·have HY:Hid (X=iterR (evL b) (n - (k + 1)) (evL b rk).1):=Zh (by rw [HEV.out,if_pos h0])
    clear h0
    go_wp2_with fail
    go_roundw
    case rel => exact ⟨k + 1,by go_num,by omega,Zh ⟨F5,(evL b rk).1,H5.out,G5.out,T5.out,HY.out⟩⟩
    case measure => simp [intOf]; omega
   ·have HY:Hid (X=evL b rk):=Zh (by rw [HEV.out,if_neg (by omega)])
    have HE5:=Zh h0
    clear h0
    go_wp2_with fail
    go_ret
    rw [HY.out]
    exact EvPost.pre ⟨_,rfl,.inr (.inl ⟨HE5.out,rfl⟩),⟨F5,H5.out,G5.out⟩,T5.out⟩ UA.out
   ·have HY:Hid (X=evL b rk):=Zh (by rw [HEV.out,if_neg (by omega)])
    have HBB:=Zh (And.intro hb hy)
    clear hb hy
    go_wp2_with fail
    go_ret
    rw [HY.out]
    exact EvPost.pre ⟨_,rfl,.inr (.inr ⟨g,s',y',rfl,HBB.out.1,HBB.out.2⟩),⟨F5,H5.out,G5.out⟩,T5.out⟩ UA.out
  ·obtain rfl:k=n:=by omega
   rw [Nat.sub_self,iterR_zero] at he
   have HQ:=Zh (And.intro hr (And.intro hf (And.intro ht he)))
   clear hr hf ht he HK
   go_wp2_with fail
   go_ret
   rw [HQ.out.2.2.2]
   exact EvPost.pre ⟨_,rfl,.inl ⟨rfl,rfl⟩,⟨Fk,HQ.out.1,HQ.out.2.1⟩,HQ.out.2.2.1⟩ UA.out
end Go.Proofs.YtmjnmpifibemjaaGreatDoor.Ev
namespace Go.Proofs.YtmjnmpifibemjaaGreatDoor.Ev
open Go.RowKit Assoc MP
attribute [local go_sem] litStep_value
theorem is_nil (b:Int) (w:World):Calls Tryz.prog 23 #[.nilIface,.iface 40 (.int .i64 b)] w fun e w' => e=.returned (.bool false)∧w=w':=by
 have hn:(binOp .eql 45 .nilIface (.iface 40 (.int .i64 b))).run Tryz.prog w=.ok (.bool false) w:=by kernel_rfl
 go_enter Tryz.func23,Tryz.ntmps23
 go_wp2_with fail
 go_ret
 exact ⟨rfl,rfl⟩
theorem is_stopv {w:World} {u:Value} {n:Int} (h:StopV w u n) (b m:Int) (hb:b=14∧m=2∨b=13∧m=3) :
 Calls Tryz.prog 23 #[u,.iface 40 (.int .i64 b)] w fun e w' => e=.returned (.bool (n == m))∧w=w':=by
 rcases h with ⟨rfl,rfl⟩ | ⟨rfl,rfl⟩ | ⟨g,st,y,rfl,hg,hy⟩
 ·rw [show ((0:Int) == m)=false by simp; omega]
  exact is_nil b w
 ·rw [show ((5:Int) == m)=((8:Int) == b) by rw [Bool.eq_iff_iff]; simp; omega]
  exact is_errno 8 b w
 ·rw [show (n == m)=(y == b) by rw [Bool.eq_iff_iff]; simp; omega]
  exact Stp.is_stop g y b w (hg.cell 1)
theorem atomic_ok {H rb:Nat} {F:List Nat} {ks:List Int} {r:RS} {b e:List Stm} (k c reg ar an br bn:Int) (vb ve:Value) (w:World) (hf:RF ks k c reg ar an br bn) (h:Run H rb F ks w r) (ht:r.told.length + 201≤201 * r.steps) (hb:Stms w H vb b) (he:Stms w H ve e) (hH:H≤w.heap.size) (hab:AllC ks b) :
 Calls Tryz.prog 120 #[.pointer (some ⟨rb,0,none⟩),.agg #[.int .i64 k,.int .i64 c,.int .i64 reg,.int .i64 ar,.int .i64 an,.int .i64 br,.int .i64 bn,vb,ve]] w (EvPost H rb F ks (if (evL b r).2=2 then ({ (evL b r).1 with s:=r.s },0) else evL b r) w):=by
 have HR:=Zh h
 have HB:=Zh hb
 have HE:=Zh he
 have HTB:=Zh ht
 have HAB:=Zh (And.intro hf.a hf.b)
 have HRF:=Zh hf
 have HHH:=Zh hH
 obtain ⟨c11,cf,cl⟩:=h.cells
 have XB:Hid (Blk (w.alloc (.cells #[.int .i64 k,.int .i64 c,.int .i64 reg,.int .i64 ar,.int .i64 an,.int .i64 br,.int .i64 bn,vb,ve] 62)) w.heap.size 62 #[.int .i64 k,.int .i64 c,.int .i64 reg,.int .i64 ar,.int .i64 an,.int .i64 br,.int .i64 bn,vb,ve]):=Zh (Blk.new w _ _)
 have UA:Hid (Upd [] w (w.alloc (.cells #[.int .i64 k,.int .i64 c,.int .i64 reg,.int .i64 ar,.int .i64 an,.int .i64 br,.int .i64 bn,vb,ve] 62))):=Zh ((Upd.refl [] w).alloc _)
 clear h ht hb he hH hf
 have HA:=Zh hab
 obtain ⟨sb,FM,hM⟩:=HR.out.mdl
 have HM:=Zh hM
 have e0:=(hM _ UA.out).2
 have HLT:Hid (∀ k ∈ F,H≤k∧k < w.heap.size):=Zh HR.out.lt
 obtain ⟨X,hX⟩:∃ X,evL b r=X:=⟨_,rfl⟩
 have HX:=Zh hX
 rw [hX]
 obtain ⟨Y,hY⟩:∃ Y,(if X.2=2 then ({ X.1 with s:=r.s },0) else X)=Y:=⟨_,rfl⟩
 have HY:=Zh hY
 rw [hY]
 have S1:Hid (w.heap.size≤(w.alloc (.cells #[.int .i64 k,.int .i64 c,.int .i64 reg,.int .i64 ar,.int .i64 an,.int .i64 br,.int .i64 bn,vb,ve] 62)).heap.size):=Zh UA.out.size
 have CP:=Zh (m_copy H sb FM r.s _ (hM _ UA.out).1)
 clear hab c11 cf cl hX hM hY
 go_enter Tryz.func120,Tryz.ntmps120
 go_wp2_with fail
 generalize (w.alloc (.cells #[.int .i64 k,.int .i64 c,.int .i64 reg,.int .i64 ar,.int .i64 an,.int .i64 br,.int .i64 bn,vb,ve] 62))=w1 at *
 refine CP.out.mono ?_
 rintro e' w2 ⟨sb',F',rfl,hm,hu⟩
 have MC:=Zh hm
 have U12:=Zh hu
 have U2:=Zh (UA.out.trans hu)
 have e7:w2.cell? ⟨w.heap.size,7,none⟩=some vb:=(XB.out.upd hu (by simp)).cell 7
 have HC:=Zh (HA.out H rb F vb r w2 (HR.out.upd0 U2.out) (tb_le HTB.out) (HB.out.belowW (U2.out.below HHH.out (by simp))) (Nat.le_trans HHH.out U2.out.size))
 rw [HX.out] at HC
 clear hm hu CP e0
 go_wp2_with fail
 refine HC.out.mono ?_
 rintro e' w5 ⟨u,rfl,hsv,⟨F5,h5,f5⟩,t5⟩
 have H5:=Zh h5
 have T5:=Zh t5
 have F25:=Zh f5
 have G5:=Zh (f5.pre U2.out)
 have HSV:=Zh hsv
 have M5:=Zh ((mdl_base MC.out (Nat.le_trans HHH.out S1.out)).upd f5.upd (fun k hk hm => by have h1:=(MC.out.lt k hk).1; have h2:=HLT.out _ hm; have h3:=S1.out; omega))
 have D5:Hid (∀ k ∈ F5,k ∉ F'):=Zh (fun k hk hm => by
  have h1:=MC.out.lt k hm
  have h3:=S1.out
  rcases f5.sub k hk with h | h
  ·have h2:=HLT.out _ h; omega
  ·omega)
 have MK:Hid (r.s.K=ks):=Zh HR.out.ok.K
 have c5:=h5.cells
 obtain ⟨sbx,FMx,hMx⟩:=h5.mdl
 have e0:=(hMx w5 (.refl _ _)).2
 obtain ⟨_,cf,cl⟩:=c5
 clear h5 f5 t5 HC e7 hMx
 have IS:=Zh (is_stopv HSV.out 14 2 (.inl ⟨rfl,rfl⟩))
 have HU:Hid (u=.nilIface∨(∃ x,u=.iface 40 x)∨∃ x,u=.iface 204 x):=Zh (by
  rcases hsv with ⟨_,h⟩ | ⟨_,h⟩ | ⟨g,_,_,h,_⟩
  ·exact .inl h
  ·exact .inr (.inl ⟨_,h⟩)
  ·exact .inr (.inr ⟨_,h⟩))
 by_cases h2:X.2=2
 ·have d2:(X.2 == 2)=true:=by simpa using h2
  rw [d2] at IS
  have HYY:Hid (Y=({ X.1 with s:=r.s },0)):=Zh (by rw [← HY.out,if_pos h2])
  clear hsv d2 h2
  go_wp2_with fail
  refine IS.out.mono ?_
  rintro e' w6 ⟨rfl,rfl⟩
  obtain ⟨F6,r6,s6,u6⟩:=H5.out.setS M5.out D5.out MK.out
  have R6:=Zh r6
  have G6:Hid (Frm F F6 w (w5.setCell ⟨rb,0,none⟩ (.pointer (some ⟨sb',0,none⟩)))):=Zh ⟨G5.out.upd.trans' u6 (fun x hx => G5.out.sub x hx),fun k hk => by
   rcases s6 k hk with h | h
   ·exact G5.out.sub k h
   ·right; have:=(MC.out.lt k h).1; have:=S1.out; omega⟩
  clear r6 s6 u6
  go_wp2_with fail
  go_ret
  rw [HYY.out]
  exact ⟨_,rfl,.inl ⟨rfl,rfl⟩,⟨F6,R6.out,G6.out⟩,T5.out⟩
 ·have d2:(X.2 == 2)=false:=by simpa using h2
  rw [d2] at IS
  have HYY:Hid (Y=X):=Zh (by rw [← HY.out,if_neg h2])
  clear hsv d2 h2
  go_wp2_with fail
  refine IS.out.mono ?_
  rintro e' w6 ⟨rfl,rfl⟩
  go_wp2_with fail
  go_ret
  rw [HYY.out]
  exact ⟨_,rfl,HSV.out,⟨F5,H5.out,G5.out⟩,T5.out⟩
theorem one_atomic {H rb:Nat} {F:List Nat} {ks:List Int} {r:RS} {b e:List Stm} (c reg ar an br bn:Int) (vb ve:Value) (w:World) (hf:RF ks 13 c reg ar an br bn) (h:Run H rb F ks w r) (ht:r.told.length + 201≤201 * r.steps) (hb:Stms w H vb b) (he:Stms w H ve e) (hH:H≤w.heap.size) (hab:AllC ks b) :
 Calls Tryz.prog 106 #[.pointer (some ⟨rb,0,none⟩),.agg #[.int .i64 13,.int .i64 c,.int .i64 reg,.int .i64 ar,.int .i64 an,.int .i64 br,.int .i64 bn,vb,ve]] w (EvPost H rb F ks (if (evL b r).2=2 then ({ (evL b r).1 with s:=r.s },0) else evL b r) w):=by
 have HR:=Zh h
 have HB:=Zh hb
 have HE:=Zh he
 have HTB:=Zh ht
 have HAB:=Zh (And.intro hf.a hf.b)
 have HRF:=Zh hf
 have HHH:=Zh hH
 obtain ⟨c11,cf,cl⟩:=h.cells
 have XB:Hid (Blk (w.alloc (.cells #[.int .i64 13,.int .i64 c,.int .i64 reg,.int .i64 ar,.int .i64 an,.int .i64 br,.int .i64 bn,vb,ve] 62)) w.heap.size 62 #[.int .i64 13,.int .i64 c,.int .i64 reg,.int .i64 ar,.int .i64 an,.int .i64 br,.int .i64 bn,vb,ve]):=Zh (Blk.new w _ _)
 have UA:Hid (Upd [] w (w.alloc (.cells #[.int .i64 13,.int .i64 c,.int .i64 reg,.int .i64 ar,.int .i64 an,.int .i64 br,.int .i64 bn,vb,ve] 62))):=Zh ((Upd.refl [] w).alloc _)
 clear h ht hb he hH hf
 obtain ⟨Y,hY⟩:∃ Y,(if (evL b r).2=2 then ({ (evL b r).1 with s:=r.s },0) else evL b r)=Y:=⟨_,rfl⟩
 have HC:=Zh (atomic_ok 13 c reg ar an br bn vb ve (w.alloc (.cells #[.int .i64 13,.int .i64 c,.int .i64 reg,.int .i64 ar,.int .i64 an,.int .i64 br,.int .i64 bn,vb,ve] 62)) HRF.out (HR.out.upd0 UA.out) HTB.out (HB.out.belowW (UA.out.below HHH.out (by simp))) (HE.out.belowW (UA.out.below HHH.out (by simp))) (Nat.le_trans HHH.out UA.out.size) hab)
 rw [hY] at HC ⊢
 clear hab c11 cf cl hY
 go_enter Tryz.func106,Tryz.ntmps106
 go_wp2_with fail
 refine HC.out.mono ?_
 rintro e' w4 ⟨u,rfl,hp⟩
 have HP:=Zh (EvPost.pre ⟨u,rfl,hp⟩ UA.out)
 clear hp
 go_wp2_with fail
 go_ret
 exact HP.out
end Go.Proofs.YtmjnmpifibemjaaGreatDoor.Ev
namespace Go.Proofs.YtmjnmpifibemjaaGreatDoor
open Assoc
def posW (W:AL) (c:Int):Int:=match W.findIdx? (fun p => p.1 == c) with | some k => (k:Int) | none => -1
theorem idx_at {L:List (Int × Int)} {c:Int} {k:Nat} {x:Int × Int} (h:∀ j,j < k→(L.getD j default).1≠c) (hx:L[k]?=some x) (e:x.1=c):L.findIdx? (fun p => p.1 == c)=some k:=by
 obtain ⟨hk,rfl⟩:=List.getElem?_eq_some_iff.1 hx
 rw [List.findIdx?_eq_some_iff_getElem]
 refine ⟨hk,by simpa using e,fun j hj => ?_⟩
 have:=h j hj
 rw [List.getD_eq_getElem?_getD,List.getElem?_eq_getElem (by omega)] at this
 simpa using this
theorem idx_no {L:List (Int × Int)} {c:Int} (h:∀ j,j < L.length→(L.getD j default).1≠c):L.findIdx? (fun p => p.1 == c)=none:=by
 rw [List.findIdx?_eq_none_iff]
 intro x hx
 obtain ⟨j,hj,rfl⟩:=List.getElem_of_mem hx
 have:=h j hj
 rw [List.getD_eq_getElem?_getD,List.getElem?_eq_getElem hj] at this
 simpa using this
theorem posW_none {W:AL} {c:Int} (h:get W c=none):posW W c=-1:=by
 unfold posW
 rw [get_none] at h
 have:W.findIdx? (fun p => p.1 == c)=none:=by
  rw [List.findIdx?_eq_none_iff]
  intro p hp
  simpa using h p hp
 rw [this]
theorem posW_some {W:AL} {c v:Int} (h:get W c=some v):∃ k:Nat,posW W c=k∧W[k]?=some (c,v):=by
 unfold posW
 cases hf:W.findIdx? (fun p => p.1 == c) with
 | none =>
   rw [List.findIdx?_eq_none_iff] at hf
   have:get W c=none:=get_none.2 fun p hp => by simpa using hf p hp
   rw [this] at h
   cases h
 | some k =>
   refine ⟨k,rfl,?_⟩
   rw [List.findIdx?_eq_some_iff_getElem] at hf
   obtain ⟨hk,h1,h2⟩:=hf
   rw [List.getElem?_eq_getElem hk]
   have h1:W[k].1=c:=by simpa using h1
   have:get W c=some W[k].2:=by
    unfold Assoc.get
    have:W.find? (fun p => p.1 == c)=some W[k]:=by
     rw [List.find?_eq_some_iff_getElem]
     exact ⟨by simpa using h1,k,hk,rfl,fun j hj => by simpa using h2 j hj⟩
    rw [this]
    rfl
   rw [this] at h
   injection h with h
   rw [← h1,← h]
end Go.Proofs.YtmjnmpifibemjaaGreatDoor

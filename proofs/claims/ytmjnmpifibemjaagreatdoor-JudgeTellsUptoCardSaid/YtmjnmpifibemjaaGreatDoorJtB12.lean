/-
 slices.Clone of ints, maps.Clone; model.State: Kinds; one more map.
-/
import Derived.Test.YtmjnmpifibemjaaGreatDoorJtB8
import Derived.Test.YtmjnmpifibemjaaGreatDoorLayM
import Derived.Test.YtmjnmpifibemjaaGreatDoorJtB0
import Derived.Test.YtmjnmpifibemjaaGreatDoorJtB4
import Derived.Test.YtmjnmpifibemjaaGreatDoorJtB10
import Derived.Test.YtmjnmpifibemjaaGreatDoorJtB7
set_option linter.unusedVariables false
set_option linter.unusedSimpArgs false
set_option maxRecDepth 100000
set_option maxHeartbeats 16000000
namespace Go.Proofs.YtmjnmpifibemjaaGreatDoor
open Go.RowKit Assoc MP
attribute [local go_sem] litStep_value
theorem elem_int:Elem Tryz.prog 22 3 1 8:=.mk' (z:=((Tryz.prog.info? 3).bind (·.zero)).getD undef) Tryz.underlying22 (by kernel_rfl) (by kernel_rfl) (by omega)
theorem elem_map:Elem Tryz.prog 146 149 1 8:=.mk' (z:=((Tryz.prog.info? 149).bind (·.zero)).getD undef) Tryz.underlying146 (by kernel_rfl) (by kernel_rfl) (by omega)
def CloneKPost (xs:List Int) (w:World) (e:Ending) (w':World):Prop:=∃ v,e=.returned v∧Ow encK 3 w' w.heap.size v xs∧Upd [] w w'
theorem clone_ints (A:Option Addr) (n c:Nat) (xs:List Int) (w:World) (h:Rd encK w (.slice A n c) xs) (hn:xs.length=n) (hl:n≤1000) :
 Calls Tryz.prog 70 #[.slice A n c] w fun e w' => CloneKPost xs w e w':=by
 have eq0:=@Lib.run_eql_slice_nil Tryz.prog
 have HN:=Zh hn
 have HSR:Hid (Src w 1 (.slice A n c) n (flat encK xs)):=Zh (by have:=h; unfold Rd at this; rw [hn] at this; exact this)
 cases A with
 | none =>
   have HL:Hid (xs=[]):=Zh (by
    cases xs with
    | nil => rfl
    | cons x xs =>
      obtain ⟨ad,e,_⟩:=h.at_ (k:=0) (a:=x) rfl
      cases e)
   clear h hn
   go_enter Tryz.func70,Tryz.ntmps70
   go_wp2_with fail
   go_ret
   unfold CloneKPost
   rw [HL.out]
   exact ⟨_,rfl,Ow.nil _ _ _ _,.refl _ _⟩
 | some a =>
   clear h hn
   go_enter Tryz.func70,Tryz.ntmps70
   go_wp2_with (at_builtin; refine stopped ?_)
   refine Zh ?_
   refine wpList_app _ (by rfl) (.tmp 5) (.tmp 6) _ (by rfl) elem_int _ _ (by rfl) (by rfl) (own_made (B:=w.heap.size) 1 (Blk.new w 3 #[]) (Nat.le_refl _)) (HSR.out.upd0 ((Upd.refl [] w).alloc _)) flat_cells (by unfold maxLen; omega) (by omega) (by simp) ?_
   intro v2 w2 o2 u2 b2
   have U2:Hid (Upd [] w w2):=Zh (((Upd.refl [] w).alloc _).trans' u2 (by intro x hx; simp [Value.ownBlock] at hx; subst hx; exact .inr (Nat.le_refl _)))
   have O2:Hid (Ow encK 3 w2 w.heap.size v2 xs):=Zh (by unfold Ow; rw [HN.out]; rw [Nat.zero_add,List.nil_append] at o2; exact o2)
   clear o2 u2 b2
   go_wp2_with fail
   go_ret
   exact ⟨_,rfl,O2.out,U2.out⟩
theorem clone_map (m:Nat) (f:Int→Option Value) (n:Nat) (w:World) (h:IMap w .i64 m f n) :
 Calls Tryz.prog 102 #[.map (some m)] w fun e w' => e=.returned (.map (some w.heap.size))∧IMap w' .i64 w.heap.size f n∧Upd [] w w'∧w'.heap.size=w.heap.size + 1:=by
 obtain ⟨L,c,hr,hf,hn⟩:=h
 refine (show Calls Tryz.prog 102 #[.map (some m)] w _ from AnyW.maps_Clone cloneM_lay m _ c w hr.blk).mono ?_
 rintro e w' ⟨rfl,rfl⟩
 exact ⟨rfl,⟨L,c,⟨(Go.MapKept.heap_alloc w _).1,hr.keys,hr.stamps,hr.lt⟩,hf,hn⟩,(Upd.refl [] w).alloc _,by simp⟩
theorem m_kinds (B sb:Nat) (F:List Nat) (s:MS) (w:World) (h:Mdl B sb F w s) :
 Calls Tryz.prog 40 #[.pointer (some ⟨sb,0,none⟩)] w fun e w' => CloneKPost s.K w e w':=by
 have H:=Zh h
 obtain ⟨g,vk,gc,cc,ms,hF,h⟩:=h
 have HS:=Zh h
 have K8:=Zh g.k8
 obtain ⟨Ak,ck,rfl,hnk,_⟩:=own_slice HS.out.k
 have c0:w.cell? ⟨sb,0,none⟩=some (.slice Ak s.K.length ck):=HS.out.box.cell 0
 clear g hF h
 go_enter Tryz.func40,Tryz.ntmps40
 go_wp2_with fail
 refine (clone_ints Ak s.K.length ck s.K w HS.out.k.rd rfl (by have:=K8.out; omega)).mono ?_
 rintro e w1 ⟨v,rfl,o1,u1⟩
 have O1:=Zh o1
 have U1:=Zh u1
 clear o1 u1
 go_wp2_with fail
 go_ret
 exact ⟨_,rfl,O1.out,U1.out⟩
theorem MdlSt.push {B sb gc cc gc' cc' m:Nat} {vk:Value} {ms:List Nat} {w w':World} {s:MS} {l:AL} (h:MdlSt B sb vk gc cc ms w s) (hu:Upd [sb,gc] w w') (hb:Blk w' sb 148 #[vk,.slice (some ⟨gc',0,none⟩) (s.L.length + 1) cc'])
 (hc:w'.ownsRow B 149 1 (.slice (some ⟨gc',0,none⟩) (s.L.length + 1) cc') (s.L.length + 1) (mapsV ms ++ [.map (some m)])) (hm:IMap w' .i64 m (mapI l) l.length) (hw:w.heap.size≤m) (hB:B≤m):MdlSt B sb vk gc' cc' (ms ++ [m]) w' { s with L:=s.L ++ [l] }:=by
 have e:({ s with L:=s.L ++ [l] }:MS).L.length=s.L.length + 1:=by simp
 have hlt:∀ k ∈ ms,k < w.heap.size:=fun k hk => (h.lt k (by unfold fpM; simp [hk])).2
 refine ⟨by rw [e]; exact hb,h.k.upd hu fun b hb => ?_,by rw [e]; unfold mapsV at hc ⊢; rw [List.map_append]; exact hc,fun i m' l' hi hl => ?_,?_,h.bs,fun k hk => ?_⟩
 ·simp
  exact ⟨fun e => own_type h.k h.box (by decide) (e ▸ hb),fun e => by
   subst e
   rcases h.k.2 with ⟨e1,_⟩ | ⟨g,cap,cur,e1,_,hg,_⟩
   ·rw [e1] at hb; simp [Value.ownBlock] at hb
   ·rw [e1] at hb
    simp only [Value.ownBlock,Option.some.injEq] at hb
    subst hb
    exact own_type h.c hg (by decide) rfl⟩
 ·have hl':(s.L ++ [l])[i]?=some l':=hl
  rw [List.getElem?_append] at hi hl'
  rw [h.mlen] at hi
  split at hi
  ·rename_i hlt'
   rw [if_pos hlt'] at hl'
   refine (h.each i m' l' hi hl').upd hu ?_
   have hmm:=h.each i m' l' hi hl'
   simp
   exact ⟨fun e => blk_map h.box hmm e.symm,fun e => own_map h.c hmm (by rw [e]; rfl)⟩
  ·rename_i hlt'
   rw [if_neg hlt'] at hl'
   cases hz:i - s.L.length with
   | zero =>
     rw [hz] at hi hl'
     simp at hi hl'
     subst hi hl'
     exact hm
   | succ z =>
     rw [hz] at hi
     simp at hi
 ·rw [List.nodup_append]
  refine ⟨h.nd,by simp,fun a ha b hb => ?_⟩
  simp at hb
  subst hb
  have:=hlt a ha
  omega
 ·rcases List.mem_append.1 hk with hk | hk
  ·exact h.bm k hk
  ·simp at hk
   subst hk
   exact hB
end Go.Proofs.YtmjnmpifibemjaaGreatDoor
namespace Go.Proofs.YtmjnmpifibemjaaGreatDoor
open Go.RowKit Assoc MP
attribute [local go_sem] litStep_value
theorem take_snoc5 {α:Type} {L:List α} {k:Nat} {x:α} (h:L[k]?=some x):L.take (k + 1)=L.take k ++ [x]:=by
 obtain ⟨hk,rfl⟩:=List.getElem?_eq_some_iff.1 h
 exact List.take_succ_eq_append_getElem hk
def mapSpec (H:Nat) (f:Int→Option Value) (n:Nat):Spec:=⟨fun _ => [],fun v w => ∃ m,v=.map (some m)∧H≤m∧IMap w .i64 m f n,fun v => ∃ m,v=.map (some m)⟩
def litMap (H:Nat) (f:Int→Option Value) (n:Nat):Spec:=⟨fun _ => [],fun v w => ∃ g m,v=.slice (some ⟨g,0,none⟩) 1 1∧Blk w g 149 #[.map (some m)]∧H≤m∧IMap w .i64 m f n,fun v => ∃ g,v=.slice (some ⟨g,0,none⟩) 1 1⟩
theorem lasts_mapSpec (w0:World) (H:Nat) (f:Int→Option Value) (n:Nat):Lasts0 w0 (mapSpec H f n) :=
 ⟨fun v w w' _ ⟨m,h1,h2,h3⟩ hu => ⟨m,h1,h2,h3.upd hu (by simp)⟩,⟨_,0,rfl⟩,fun _ _ ⟨m,h,_⟩ => ⟨m,h⟩⟩
theorem lasts_litMap (w0:World) (H:Nat) (f:Int→Option Value) (n:Nat):Lasts0 w0 (litMap H f n) :=
 ⟨fun v w w' _ ⟨g,m,h1,h2,h3,h4⟩ hu => ⟨g,m,h1,h2.upd hu (by simp),h3,h4.upd hu (by simp)⟩,⟨_,0,rfl⟩,fun _ _ ⟨g,_,h,_⟩ => ⟨g,h⟩⟩
def MCopyPost (s:MS) (w:World) (e:Ending) (w':World):Prop:=∃ sb F,e=.returned (.pointer (some ⟨sb,0,none⟩))∧Mdl w.heap.size sb F w' s∧Upd [] w w'
theorem m_copy (B sb:Nat) (F:List Nat) (s:MS) (w:World) (h:Mdl B sb F w s) :
 Calls Tryz.prog 85 #[.pointer (some ⟨sb,0,none⟩)] w fun e w' => MCopyPost s w e w':=by
 have eq0:=@Lib.run_eql_slice_nil Tryz.prog
 obtain ⟨g,vk,gc,cc,ms,hF,h⟩:=h
 have HG:=Zh g
 have HS:=Zh h
 obtain ⟨n,hn⟩:∃ n,s.L.length=n:=⟨_,rfl⟩
 have HN:=Zh hn
 have hn8:n≤8:=by rw [← hn,← g.kl]; exact g.k8
 have K8:=Zh g.k8
 obtain ⟨Ak,ck,rfl,hnk,_⟩:=own_slice HS.out.k
 have HB:Hid (Blk w sb 148 #[.slice Ak s.K.length ck,.slice (some ⟨gc,0,none⟩) n cc]):=Zh (by rw [← hn]; exact h.box)
 have OC:Hid (w.ownsRow B 149 1 (.slice (some ⟨gc,0,none⟩) n cc) n (mapsV ms)):=Zh (by rw [← hn]; exact h.c)
 have c0:w.cell? ⟨sb,0,none⟩=some (.slice Ak s.K.length ck):=HB.out.cell 0
 have c1:w.cell? ⟨sb,1,none⟩=some (.slice (some ⟨gc,0,none⟩) n cc):=HB.out.cell 1
 clear g h hF hn
 go_enter Tryz.func85,Tryz.ntmps85
 go_wp2_with fail
 refine (clone_ints Ak s.K.length ck s.K w HS.out.k.rd rfl (by have:=K8.out; omega)).mono ?_
 rintro e w1 ⟨v,rfl,o1,u1⟩
 obtain ⟨A1,k1,rfl,_,_⟩:=own_slice o1
 have O1:=Zh o1
 have U1:=Zh u1
 clear o1 u1 c0 c1
 have UX:Hid (Upd [] w1 ((w1.alloc (.cells #[] 149)).alloc (.cells #[.slice A1 s.K.length k1,.slice (some ⟨w1.heap.size,0,none⟩) 0 0] 148))):=Zh (((Upd.refl [] w1).alloc _).alloc _)
 have cx:((w1.alloc (.cells #[] 149)).alloc (.cells #[.slice A1 s.K.length k1,.slice (some ⟨w1.heap.size,0,none⟩) 0 0] 148)).cell? ⟨sb,1,none⟩=some (.slice (some ⟨gc,0,none⟩) n cc):=(HB.out.upd (U1.out.trans UX.out) (by simp)).cell 1
 have h2:(w1.alloc (.cells #[] 149)).heap.size=w1.heap.size + 1:=by simp
 have C0:Hid (MdlSt w.heap.size (w1.heap.size + 1) (.slice A1 s.K.length k1) w1.heap.size 0 [] ((w1.alloc (.cells #[] 149)).alloc (.cells #[.slice A1 s.K.length k1,.slice (some ⟨w1.heap.size,0,none⟩) 0 0] 148)) { s with L:=s.L.take 0 }):=Zh ⟨Blk.newAt 148 _ h2,O1.out.upd0 UX.out,own_made 1 ((Blk.new w1 149 #[]).upd ((Upd.refl [] _).alloc _) (by simp)) U1.out.size,by simp,.nil,by have:=U1.out.size; omega,by simp⟩
 go_wp2_with fail
 generalize ((w1.alloc (.cells #[] 149)).alloc (.cells #[.slice A1 s.K.length k1,.slice (some ⟨w1.heap.size,0,none⟩) 0 0] 148))=w2 at *
 have U2:=Zh (U1.out.trans UX.out)
 obtain ⟨ob,hob⟩:∃ ob,w1.heap.size + 1=ob:=⟨_,rfl⟩
 have hob2:(w1.alloc (.cells #[] 149)).heap.size=ob:=by rw [h2,hob]
 rw [hob] at C0
 try rw [h2]
 try rw [hob]
 clear h2 hob2 hob cx UX
 go_loopw [28] (fun v wr => ∃ k:Nat,v=.int .i64 k∧k≤n∧Hid ((∃ gc1 cc1 ms1,MdlSt w.heap.size ob (.slice A1 s.K.length k1) gc1 cc1 ms1 wr { s with L:=s.L.take k })∧Upd [] w wr)) (fun v _ => n - (intOf v).toNat)
 case atStart => exact ⟨0,rfl,by omega,Zh ⟨⟨_,_,_,C0.out⟩,U2.out⟩⟩
 case round =>
  obtain ⟨k,rfl,hk,HK⟩:=hrel
  obtain ⟨⟨gc1,cc1,ms1,hst⟩,hu⟩:=HK.out
  rename World => wi
  have ST:=Zh hst
  have UI:=Zh hu
  have LK:Hid ((s.L.take k).length=k):=Zh (by rw [List.length_take,HN.out]; omega)
  clear HK hst hu C0
  by_cases hkn:k < n
  ·obtain ⟨m,hm,him⟩:=(HS.out.upd UI.out (by simp)).at_ (i:=k) (by rw [HN.out]; exact hkn)
   have HIM:=Zh him
   have LT:=Zh (take_snoc5 (coll_get (s:=s) (i:=k) (by rw [HN.out]; exact hkn)))
   have e0:wi.cell? ⟨gc,k,none⟩=some (.map (some m)):=own_cell (own_upd0 OC.out UI.out) k _ (by unfold mapsV; rw [List.getElem?_map,hm]; rfl)
   have q1:(0:Int)≤(k:Int):=by omega
   have q2:(k:Int) < (n:Int):=by omega
   have OB:Hid (Blk wi ob 148 #[.slice A1 s.K.length k1,.slice (some ⟨gc1,0,none⟩) k cc1]):=Zh (by have:=ST.out.box; rw [show ({ s with L:=s.L.take k }:MS).L.length=k from LK.out] at this; exact this)
   have ON:Hid (wi.ownsRow w.heap.size 149 1 (.slice (some ⟨gc1,0,none⟩) k cc1) k (mapsV ms1)):=Zh (by have:=ST.out.c; rw [show ({ s with L:=s.L.take k }:MS).L.length=k from LK.out] at this; exact this)
   clear hm him
   go_wp2_with fail
   have CS:Hid (∀ W,Upd [] wi.drew W→W.cell? ⟨ob,1,none⟩=some (.slice (some ⟨gc1,0,none⟩) k cc1)):=Zh (fun W hW => (OB.out.upd ((Upd.refl [] wi).drew.trans hW) (by simp)).cell 1)
   refine wp_invNT0 8 [(6,mapSpec wi.heap.size (mapI (coll s k)) (coll s k).length),(7,litMap wi.heap.size (mapI (coll s k)) (coll s k).length)] (by kernel_rfl) (by simp) (by kernel_rfl) (by kernel_rfl) ⟨lasts_mapSpec _ _ _ _,lasts_litMap _ _ _ _,trivial⟩ ?_
   simp only [List.take_succ_cons,List.take_zero,List.drop_succ_cons,List.drop_zero]
   iterate 6 (
    with_reducible apply wpV_light
    ·simp only [lightOp]
    ·intro W hU hF
     have f0:=CS.out W hU
     clear hU hF
     go_simp
     exact rfl
    simp only [aP])
   refine wpV_heavy (by simp only [lightOp]) (by rfl) (fun W hU hk hF K hK => ?_) ?_
   ·go_wp2_with fail
    refine (clone_map m _ _ _ (HIM.out.upd ((Upd.refl [] wi).drew.trans hU) (by simp))).mono ?_
    rintro e w5 ⟨rfl,im5,u5,-⟩
    go_wp2_with fail
    exact hK.out _ _ (outV_new rfl ⟨_,rfl,((Upd.refl [] wi).drew.trans hU).size,im5⟩ (by intro b hb; cases hb) u5)
   rintro _ ⟨m6,rfl⟩
   simp only [aP]
   refine wpV_heavy (by simp only [lightOp]) (by rfl) (fun W hU hk hF K hK => ?_) ?_
   ·have h6:=hF.out.1 (by kernel_rfl)
    go_wp2_with fail
    obtain ⟨m',e6,h6a,h6b⟩:=h6
    injection e6 with e6
    injection e6 with e6
    subst e6
    exact hK.out _ _ (outV_new rfl ⟨_,m6,rfl,Blk.new _ _ _,h6a,h6b.upd ((Upd.refl [] _).alloc _) (by simp)⟩ (by intro b hb; cases hb) ((Upd.refl [] _).alloc _))
   rintro _ ⟨g5,rfl⟩
   simp only [aP]
   refine wpV_end (fun W hU _ hF => ?_)
   have U6:Hid (Upd [] wi W):=Zh ((Upd.refl [] wi).drew.trans hU)
   obtain ⟨g5',m5,e5,hb5,hm5,him5⟩:=hF.out.2.1 (by kernel_rfl)
   injection e5 with e5 _ _
   injection e5 with e5
   injection e5 with e5
   subst e5
   have HB5:=Zh hb5
   have HM5:=Zh hm5
   have IM5:=Zh him5
   clear hU hF hb5 hm5 him5
   have S5:Hid (w.heap.size≤W.heap.size):=Zh (UI.out.trans U6.out).size
   refine wpT_op (by rfl) (fun K hK => ?_)
   refine wp_app W (.tmp 36) (.tmp 39) _ (by rfl) elem_map (.slice (some ⟨gc1,0,none⟩) k cc1) _ (by rfl) (by rfl) (own_upd0 ON.out U6.out) (.of_blk HB5.out (m:=1) 1 rfl) (by intro u hu; simp at hu; subst hu; rfl) (by simp only [maxLen]; omega) (by omega) S5.out ?_
   intro v7 w7 o7 u7 b7
   have O7N:Hid (w7.ownsRow w.heap.size 149 1 v7 (k + 1) (mapsV ms1 ++ [.map (some m5)])):=Zh o7
   have U7:=Zh u7
   obtain ⟨g7,c7,cur7,rfl,_⟩:=own_form O7N.out (by omega)
   refine hK.out _ _ ?_
   clear hK K
   simp only [aP]
   have OB7:=Zh ((OB.out.upd U6.out (by simp)).upd u7 (by intro hm; exact own_type ON.out OB.out (by decide) (by simpa using hm)))
   clear o7 u7 b7
   have z3:w7.cell? ⟨ob,1,none⟩=some (.slice (some ⟨gc1,0,none⟩) k cc1):=OB7.out.cell 1
   have z4:w7.frozen? ⟨ob,1,none⟩=false:=OB7.out.frozen 1
   have z5:ob < w7.heap.size:=OB7.out.lt
   iterate 3 (
    refine wpT_op (by rfl) (fun K hK => ?_)
    go_wp2_with fail
    refine hK.out _ _ ?_
    clear hK K
    try simp only [aP])
   refine wpT_end ?_
   have U8:Hid (Upd [ob] w7 (w7.setCell ⟨ob,1,none⟩ (.slice (some ⟨g7,0,none⟩) (k + 1) c7))):=Zh ((Upd.refl [ob] w7).setCell (.inl (by simp)) _)
   have ST8:Hid (∃ gc1 cc1 ms1,MdlSt w.heap.size ob (.slice A1 s.K.length k1) gc1 cc1 ms1 (w7.setCell ⟨ob,1,none⟩ (.slice (some ⟨g7,0,none⟩) (k + 1) c7)) { s with L:=s.L.take (k + 1) }):=Zh (by
    have UT:Upd [ob,gc1] wi (w7.setCell ⟨ob,1,none⟩ (.slice (some ⟨g7,0,none⟩) (k + 1) c7)):=((U6.out.mono (by simp)).trans (U7.out.mono (by intro y hy; simp [Value.ownBlock] at hy; subst hy; exact .inl (by simp)))).trans (U8.out.mono (by simp))
    have IMX:IMap (w7.setCell ⟨ob,1,none⟩ (.slice (some ⟨g7,0,none⟩) (k + 1) c7)) .i64 m5 (mapI (coll s k)) (coll s k).length:=by
     have im7:=IM5.out.upd U7.out (by simp [Value.ownBlock]; intro e; have:=(own_lt ON.out (b:=gc1) rfl).2; have:=HM5.out; omega)
     exact im7.upd U8.out (by simp; intro e; have:=OB.out.lt; have:=HM5.out; omega)
    have hp:=ST.out.push (m:=m5) (l:=coll s k) (gc':=g7) (cc':=c7) UT (by rw [show ({ s with L:=s.L.take k }:MS).L.length=k from LK.out]; exact OB7.out.set_eq rfl) (by rw [show ({ s with L:=s.L.take k }:MS).L.length=k from LK.out]; exact own_upd O7N.out U8.out (by intro b hb; simp; rintro rfl; exact own_type O7N.out OB7.out (by decide) hb)) IMX HM5.out (Nat.le_trans UI.out.size HM5.out)
    rw [LT.out]
    exact ⟨_,_,_,hp⟩)
   have UI8:Hid (Upd [] w (w7.setCell ⟨ob,1,none⟩ (.slice (some ⟨g7,0,none⟩) (k + 1) c7))):=Zh (by
    have h1:=(UI.out.trans U6.out).trans' U7.out (fun x hx => .inr (own_lt ON.out (by simpa using hx)).1)
    exact h1.trans' U8.out (fun x hx => by simp at hx; subst hx; exact .inr ST.out.bs))
   go_wp2_with fail
   go_roundw
   case rel => exact ⟨k + 1,by go_num,by omega,Zh ⟨ST8.out,UI8.out⟩⟩
   case measure => simp [intOf]; omega
  ·obtain rfl:k=n:=by omega
   go_wp2_with fail
   go_ret
   unfold MCopyPost
   have hst:=ST.out
   rw [show ({ s with L:=s.L.take k }:MS)=s by rw [List.take_of_length_le (by rw [HN.out]; exact Nat.le_refl _)]] at hst
   exact ⟨ob,_,rfl,⟨HG.out,_,_,_,_,rfl,hst⟩,UI.out⟩
end Go.Proofs.YtmjnmpifibemjaaGreatDoor
namespace Go.Proofs.YtmjnmpifibemjaaGreatDoor.Ev
open Go.RowKit Assoc MP
attribute [local go_sem] litStep_value
theorem stopped {p:Prop} (h:Hid p):p:=h.out
def runC (sb:Nat) (regs:List Int) (vt:Value) (n:Nat):Array Value:=(.pointer (some ⟨sb,0,none⟩) :: (regs.map (Value.int .i64) ++ [vt,.int .i64 n])).toArray
section
variable {sb n i:Nat} {regs:List Int} {vt:Value}
theorem runC_reg {x:Int} (h:regs[i]?=some x):(runC sb regs vt n)[1 + i]?=some (.int .i64 x):=by
 have hi:i < regs.length:=(List.getElem?_eq_some_iff.1 h).1
 unfold runC
 rw [List.getElem?_toArray,Nat.add_comm,List.getElem?_cons_succ,List.getElem?_append_left (by simpa using hi),List.getElem?_map,h]
 rfl
theorem runC_told (hl:regs.length=9):(runC sb regs vt n)[10]?=some vt:=by
 unfold runC
 rw [List.getElem?_toArray,List.getElem?_cons_succ,List.getElem?_append_right (by simp [hl]),List.length_map,hl]
 rfl
theorem runC_steps (hl:regs.length=9):(runC sb regs vt n)[11]?=some (.int .i64 n):=by
 unfold runC
 rw [List.getElem?_toArray,List.getElem?_cons_succ,List.getElem?_append_right (by simp [hl]),List.length_map,hl]
 rfl
theorem runC_setS (sb':Nat):(runC sb regs vt n).setIfInBounds 0 (.pointer (some ⟨sb',0,none⟩))=runC sb' regs vt n:=by
 unfold runC
 rw [List.setIfInBounds_toArray,List.set_cons_zero]
theorem runC_setR (hi:i < regs.length) (x:Int):(runC sb regs vt n).setIfInBounds (1 + i) (.int .i64 x)=runC sb (regs.set i x) vt n:=by
 unfold runC
 rw [List.setIfInBounds_toArray,Nat.add_comm,List.set_cons_succ,List.set_append_left i _ (by simpa using hi),List.map_set]
theorem runC_setT (hl:regs.length=9) (vt':Value):(runC sb regs vt n).setIfInBounds 10 vt'=runC sb regs vt' n:=by
 unfold runC
 rw [List.setIfInBounds_toArray,List.set_cons_succ,List.set_append_right 9 _ (by simp [hl]),List.length_map,hl]
 rfl
theorem runC_setN (hl:regs.length=9) (n':Nat):(runC sb regs vt n).setIfInBounds 11 (.int .i64 n')=runC sb regs vt n':=by
 unfold runC
 rw [List.setIfInBounds_toArray,List.set_cons_succ,List.set_append_right 10 _ (by simp [hl]),List.length_map,hl]
 rfl
end
structure Ok (ks:List Int) (r:RS):Prop where
 K:r.s.K=ks
 regs:r.regs.length=9
 steps:r.steps≤1000
 told:r.told.length≤201 * 1000
def fpR (rb:Nat) (vt:Value) (FM:List Nat):List Nat:=rb :: (vt.ownBlock.toList ++ FM)
structure RunSt (H rb sb:Nat) (FM:List Nat) (vt:Value) (ks:List Int) (w:World) (r:RS):Prop where
 blk:Blk w rb 185 (runC sb r.regs vt r.steps)
 mdl:Mdl H sb FM w r.s
 told:w.ownsRow H 3 1 vt r.told.length (r.told.map (Value.int .i64))
 low:H≤rb
 rm:rb ∉ FM
 tm:∀ b,vt.ownBlock=some b→b ∉ FM
 ok:Ok ks r
def Run (H rb:Nat) (F:List Nat) (ks:List Int) (w:World) (r:RS):Prop:=∃ sb FM vt,F=fpR rb vt FM∧RunSt H rb sb FM vt ks w r
section
variable {H rb sb:Nat} {F FM T:List Nat} {vt:Value} {ks:List Int} {w w':World} {r:RS}
theorem RunSt.tr (h:RunSt H rb sb FM vt ks w r):∀ b,vt.ownBlock=some b→b≠rb:=fun b hb e => by
 subst e
 exact own_type h.told h.blk (by decide) hb
theorem RunSt.upd0 (h:RunSt H rb sb FM vt ks w r) (hu:Upd [] w w'):RunSt H rb sb FM vt ks w' r:=⟨h.blk.upd hu (by simp),h.mdl.upd0 hu,own_upd0 h.told hu,h.low,h.rm,h.tm,h.ok⟩
theorem RunSt.upd (h:RunSt H rb sb FM vt ks w r) (hu:Upd T w w') (hT:∀ k ∈ fpR rb vt FM,k ∉ T):RunSt H rb sb FM vt ks w' r :=
 ⟨h.blk.upd hu (hT _ (List.mem_cons_self ..)),h.mdl.upd hu (fun k hk => hT k (by unfold fpR; simp [hk])),own_upd h.told hu (fun b hb => hT b (by unfold fpR; simp [hb])),h.low,h.rm,h.tm,h.ok⟩
theorem RunSt.lt (h:RunSt H rb sb FM vt ks w r):∀ k ∈ fpR rb vt FM,H≤k∧k < w.heap.size:=fun k hk => by
 unfold fpR at hk
 rw [List.mem_cons,List.mem_append] at hk
 rcases hk with rfl | hk | hk
 ·exact ⟨h.low,h.blk.lt⟩
 ·exact own_lt h.told (by simpa using hk)
 ·exact h.mdl.lt k hk
theorem Run.upd0 (h:Run H rb F ks w r) (hu:Upd [] w w'):Run H rb F ks w' r:=by
 obtain ⟨sb,FM,vt,e,h⟩:=h
 exact ⟨sb,FM,vt,e,h.upd0 hu⟩
theorem Run.upd (h:Run H rb F ks w r) (hu:Upd T w w') (hT:Disj F T):Run H rb F ks w' r:=by
 obtain ⟨sb,FM,vt,rfl,h⟩:=h
 exact ⟨sb,FM,vt,rfl,h.upd hu hT⟩
theorem Run.lt (h:Run H rb F ks w r):∀ k ∈ F,H≤k∧k < w.heap.size:=by
 obtain ⟨sb,FM,vt,rfl,h⟩:=h
 exact h.lt
theorem Run.ok (h:Run H rb F ks w r):Ok ks r:=by
 obtain ⟨sb,FM,vt,rfl,h⟩:=h
 exact h.ok
theorem RunSt.cells (h:RunSt H rb sb FM vt ks w r):w.cell? ⟨rb,0,none⟩=some (.pointer (some ⟨sb,0,none⟩))∧w.cell? ⟨rb,10,none⟩=some vt∧w.cell? ⟨rb,11,none⟩=some (.int .i64 r.steps)∧(∀ i,w.frozen? ⟨rb,i,none⟩=false)∧rb < w.heap.size :=
 ⟨h.blk.cell 0,(h.blk.cell 10).trans (runC_told h.ok.regs),(h.blk.cell 11).trans (runC_steps h.ok.regs),h.blk.frozen,h.blk.lt⟩
theorem RunSt.reg (h:RunSt H rb sb FM vt ks w r) {i:Nat} {x:Int} (hx:r.regs[i]?=some x):w.cell? ⟨rb,1 + i,none⟩=some (.int .i64 x):=(h.blk.cell (1 + i)).trans (runC_reg hx)
end
section
theorem tmod_in (n m:Int) (hm:0 < m) (hb:m≤1000):wrap64 (n.tmod m + m)=n.tmod m + m:=by
 have h1:n.tmod m < m:=Int.tmod_lt_of_pos n hm
 have h2:-m < n.tmod m:=by
  have:=Int.lt_tmod_of_pos n hm
  omega
 unfold wrap64
 omega
theorem modI_rng (n m:Int) (hm:0 < m):0≤modI n m∧modI n m < m:=by
 unfold modI
 have h2:-m < n.tmod m:=by
  have:=Int.lt_tmod_of_pos n hm
  omega
 exact ⟨Int.tmod_nonneg _ (by omega),Int.tmod_lt_of_pos _ hm⟩
theorem mod_ok (n m:Int) (w:World) (hm:0 < m) (hb:m≤1000):Calls Tryz.prog 118 #[.int .i64 n,.int .i64 m] w fun e w' => e=.returned (.int .i64 (modI n m))∧w=w':=by
 have z:¬ m=0:=by omega
 have hw:=tmod_in n m hm hb
 obtain ⟨x,hx⟩:∃ x,modI n m=x:=⟨_,rfl⟩
 have HX:Hid ((n.tmod m + m).tmod m=x):=Zh hx
 rw [hx]
 clear hx
 go_enter Tryz.func118,Tryz.ntmps118
 go_wp2_with fail
 go_ret
 rw [← HX.out]
 exact ⟨rfl,rfl⟩
theorem arg_ok {H rb:Nat} {F:List Nat} {ks:List Int} {r:RS} (a n:Int) (w:World) (h:Run H rb F ks w r) (ha:0≤a∧a≤8) :
 Calls Tryz.prog 119 #[.pointer (some ⟨rb,0,none⟩),.agg #[.int .i64 a,.int .i64 n]] w fun e w' => e=.returned (.int .i64 (argV r a n))∧Upd [] w w':=by
 obtain ⟨sb,FM,vt,_,h⟩:=h
 by_cases h0:a=0
 ·subst h0
  have HR:Hid (argV r 0 n=n):=Zh (if_pos rfl)
  clear h
  go_enter Tryz.func119,Tryz.ntmps119
  go_wp2_with fail
  go_ret
  rw [HR.out]
  exact ⟨rfl,(Upd.refl [] w).alloc _⟩
 ·obtain ⟨i,rfl⟩:∃ i:Nat,a=i:=⟨a.toNat,by omega⟩
  obtain ⟨x,hx⟩:∃ x,r.regs[i]?=some x:=⟨_,List.getElem?_eq_getElem (by rw [h.ok.regs]; omega)⟩
  have HR:Hid (argV r i n=IntKind.i64.wrap (x + n)):=Zh (by unfold argV; rw [if_neg h0,Int.toNat_natCast,List.getD_eq_getElem?_getD,hx]; rfl)
  have d0:((i:Int) == 0)=false:=by simpa using h0
  have HS:=Zh h
  have XB:Hid (Blk (w.alloc (.cells #[.int .i64 i,.int .i64 n] 60)) w.heap.size 60 #[.int .i64 i,.int .i64 n]):=Zh (Blk.new w _ _)
  have UA:Hid (Upd [] w (w.alloc (.cells #[.int .i64 i,.int .i64 n] 60))):=Zh ((Upd.refl [] w).alloc _)
  have HXX:=Zh hx
  have q1:(0:Int)≤(i:Int):=by omega
  have q2:(i:Int) < 9:=by omega
  have hrb:=h.blk.lt
  clear h hx
  go_enter Tryz.func119,Tryz.ntmps119
  go_wp2_with fail
  generalize (w.alloc (.cells #[.int .i64 i,.int .i64 n] 60))=w1 at *
  have CS:Hid (∀ W,Upd [] w1.drew W→W.cell? ⟨w.heap.size,0,none⟩=some (.int .i64 i)∧W.cell? ⟨w.heap.size,1,none⟩=some (.int .i64 n)∧W.cell? ⟨rb,1 + i,none⟩=some (.int .i64 x)):=Zh (fun W hW => by
   have hu:=(Upd.refl [] w1).drew.trans hW
   exact ⟨(XB.out.upd hu (by simp)).cell 0,(XB.out.upd hu (by simp)).cell 1,(HS.out.upd0 (UA.out.trans hu)).reg HXX.out⟩)
  refine wp_invN [] [] (by kernel_rfl) (by kernel_rfl) (by kernel_rfl) trivial ?_
  iterate 11 (
   with_reducible apply wpV_light
   ·simp only [lightOp]
   ·intro W hU hF
    have f0:=CS.out W hU
    clear hU hF
    go_simp
    exact rfl
   simp only [aP])
  refine wpV_end (fun W hU _ hF => ?_)
  have UX:Hid (Upd [] w W):=Zh (UA.out.trans ((Upd.refl [] w1).drew.trans hU))
  clear hU hF
  refine wpT_end ?_
  go_wp2_with fail
  go_ret
  rw [HR.out]
  exact ⟨rfl,UX.out⟩
theorem key_ok {H rb:Nat} {F:List Nat} {ks:List Int} {r:RS} (a n:Int) (w:World) (h:Run H rb F ks w r) (ha:0≤a∧a≤8) :
 Calls Tryz.prog 135 #[.pointer (some ⟨rb,0,none⟩),.agg #[.int .i64 a,.int .i64 n]] w fun e w' => e=.returned (.int .i64 (keyV r a n))∧Upd [] w w':=by
 have HS:=Zh h
 have HV:Hid (keyV r a n=modI (argV r a n) 64):=Zh rfl
 have UA:Hid (Upd [] w (w.alloc (.cells #[.int .i64 a,.int .i64 n] 60))):=Zh ((Upd.refl [] w).alloc _)
 clear h
 go_enter Tryz.func135,Tryz.ntmps135
 go_wp2_with fail
 refine (arg_ok a n _ (HS.out.upd0 UA.out) ha).mono ?_
 rintro e w1 ⟨rfl,u1⟩
 have U1:=Zh (UA.out.trans u1)
 clear u1
 go_wp2_with fail
 refine (mod_ok (argV r a n) 64 w1 (by omega) (by omega)).mono ?_
 rintro e w2 ⟨rfl,rfl⟩
 go_wp2_with fail
 go_ret
 rw [HV.out]
 exact ⟨rfl,U1.out⟩
theorem value_ok {H rb:Nat} {F:List Nat} {ks:List Int} {r:RS} (a n:Int) (w:World) (h:Run H rb F ks w r) (ha:0≤a∧a≤8) :
 Calls Tryz.prog 117 #[.pointer (some ⟨rb,0,none⟩),.agg #[.int .i64 a,.int .i64 n]] w fun e w' => e=.returned (.int .i64 (valV r a n))∧Upd [] w w':=by
 have HS:=Zh h
 have HV:Hid (valV r a n=modI (argV r a n) 1000):=Zh rfl
 have UA:Hid (Upd [] w (w.alloc (.cells #[.int .i64 a,.int .i64 n] 60))):=Zh ((Upd.refl [] w).alloc _)
 clear h
 go_enter Tryz.func117,Tryz.ntmps117
 go_wp2_with fail
 refine (arg_ok a n _ (HS.out.upd0 UA.out) ha).mono ?_
 rintro e w1 ⟨rfl,u1⟩
 have U1:=Zh (UA.out.trans u1)
 clear u1
 go_wp2_with fail
 refine (mod_ok (argV r a n) 1000 w1 (by omega) (by omega)).mono ?_
 rintro e w2 ⟨rfl,rfl⟩
 go_wp2_with fail
 go_ret
 rw [HV.out]
 exact ⟨rfl,U1.out⟩
end
end Go.Proofs.YtmjnmpifibemjaaGreatDoor.Ev
namespace Go.Proofs.YtmjnmpifibemjaaGreatDoor
open Go.RowKit Assoc MP
attribute [local go_sem] litStep_value
theorem isNaN_int (x:Int) (w:World):Calls Tryz.prog 150 #[.int .i64 x] w fun e w' => e=.returned (.bool false)∧w=w':=by
 go_enter Tryz.func150,Tryz.ntmps150
 go_wp2_with fail
 go_ret
 exact ⟨by simp,rfl⟩
theorem isNaN_cmp (x:Int) (w:World):Calls Tryz.prog 101 #[.int .i64 x] w fun e w' => e=.returned (.bool false)∧w=w':=by
 go_enter Tryz.func101,Tryz.ntmps101
 go_wp2_with fail
 go_ret
 exact ⟨by simp,rfl⟩
theorem less_int (x y:Int) (w:World):Calls Tryz.prog 129 #[.int .i64 x,.int .i64 y] w fun e w' => e=.returned (.bool (decide (x < y)))∧w=w':=by
 go_enter Tryz.func129,Tryz.ntmps129
 go_wp2_with fail
 refine (isNaN_cmp x w).mono ?_; rintro e w' ⟨rfl,rfl⟩
 go_wp2_with fail
 go_ret
 exact ⟨rfl,rfl⟩
def BinPost (xs:List Int) (k:Int) (w:World) (e:Ending) (w':World):Prop:=∃ i b,e=.returned (.tuple #[.int .i64 (i:Nat),.bool b])∧i≤xs.length∧(∀ j,j < i→xs.getD j 0 < k)∧(∀ j,i≤j→j < xs.length→k≤xs.getD j 0)∧Upd [] w w'
theorem bin_ok (B:Nat) (xs:List Int) (v:Value) (k:Int) (w:World) (h:Ow encK 3 w B v xs) (hs:xs.Pairwise (· < ·)) (hl:xs.length≤1000) :
 Calls Tryz.prog 148 #[v,.int .i64 k] w fun e w' => BinPost xs k w e w':=by
 obtain ⟨A,c,rfl,hnc,hcm⟩:=own_slice h
 obtain ⟨n,hn⟩:∃ n,xs.length=n:=⟨_,rfl⟩
 have HO:Hid (w.ownsRow B 3 1 (.slice A n c) n (flat encK xs)):=Zh (by have:=h; unfold Ow at this; rw [hn] at this; exact this)
 have HN:=Zh hn
 have HS:=Zh hs
 rw [hn] at hl hnc ⊢
 clear h hn hs
 go_enter Tryz.func148,Tryz.ntmps148
 go_wp2_with fail
 go_loopw [7,8] (fun vi vj wr => ∃ i j:Nat,vi=.int .i64 i∧vj=.int .i64 j∧i≤j∧j≤n∧Hid (∀ p,p < i→xs.getD p 0 < k)∧Hid (∀ p,j≤p→p < n→k≤xs.getD p 0)∧Hid (Upd [] w wr)) (fun vi vj _ => ((intOf vj).toNat - (intOf vi).toNat))
 case atStart => exact ⟨0,n,rfl,rfl,by omega,by omega,Zh (fun p hp => by omega),Zh (fun p hp hpn => by omega),Zh (.refl _ _)⟩
 case round =>
  obtain ⟨i,j,rfl,rfl,hij,hjn,HA,HB,HU⟩:=hrel
  by_cases hlt:i < j
  ·have q0:(i:Int) < (j:Int):=by omega
   obtain ⟨m,hm⟩:∃ m:Nat,((i:Int) + (j:Int)) / 2=(m:Int):=⟨((i + j) / 2:Nat),by omega⟩
   have m1:i≤m:=by omega
   have m2:m < j:=by omega
   obtain ⟨g,cg,cur,e1,_⟩:=own_form HO.out (by omega)
   injection e1 with e1 _ e1'
   subst e1 e1'
   obtain ⟨y,hy⟩:∃ y,xs[m]?=some y:=⟨_,List.getElem?_eq_getElem (by rw [HN.out]; omega)⟩
   have HY:=Zh hy
   have OW:=Zh (own_upd0 HO.out HU.out)
   have e0:wr.cell? ⟨g,m,none⟩=some (.int .i64 y):=by
    have:=own_cell OW.out _ _ ((flat_get (E:=encK) hy (j:=0) (by decide)).trans rfl)
    rwa [show m * encK.s + 0=m by simp [encI]] at this
   have HG:Hid (xs.getD m 0=y):=Zh (by rw [List.getD_eq_getElem?_getD,hy]; rfl)
   have q1:(0:Int)≤(m:Int):=by omega
   have q2:(m:Int) < (n:Int):=by omega
   clear hy
   go_wp2_with fail
   refine (less_int y k wr).mono ?_; rintro e w' ⟨rfl,rfl⟩
   by_cases hyk:y < k
   ·have d:decide (y < k)=true:=by simpa using hyk
    have HA2:Hid (∀ p,p < m + 1→xs.getD p 0 < k):=Zh (fun p hp => by
     rcases Nat.lt_or_ge p m with h1 | h1
     ·have h2:=List.pairwise_iff_getElem.1 HS.out p m (by rw [HN.out]; omega) (by rw [HN.out]; omega) h1
      rw [List.getD_eq_getElem?_getD,List.getElem?_eq_getElem (by rw [HN.out]; omega)]
      have h3:=(List.getElem?_eq_some_iff.1 HY.out).2
      rw [h3] at h2
      simp only [Option.getD_some]
      omega
     ·obtain rfl:p=m:=by omega
      rw [HG.out]; exact hyk)
    rw [d]
    clear hyk d e0
    go_wp2_with fail
    go_roundw
    case rel => exact ⟨m + 1,j,by go_num,rfl,by omega,by omega,HA2,HB,HU⟩
    case measure => simp [intOf]; omega
   ·have d:decide (y < k)=false:=by simpa using hyk
    have HB2:Hid (∀ p,m≤p→p < n→k≤xs.getD p 0):=Zh (fun p hp hpn => by
     rcases Nat.lt_or_ge m p with h1 | h1
     ·have h2:=List.pairwise_iff_getElem.1 HS.out m p (by rw [HN.out]; omega) (by rw [HN.out]; omega) h1
      rw [List.getD_eq_getElem?_getD,List.getElem?_eq_getElem (by rw [HN.out]; omega)]
      have h3:=(List.getElem?_eq_some_iff.1 HY.out).2
      rw [h3] at h2
      simp only [Option.getD_some]
      omega
     ·obtain rfl:p=m:=by omega
      rw [HG.out]; omega)
    rw [d]
    clear hyk d e0
    go_wp2_with fail
    go_roundw
    case rel => exact ⟨i,m,rfl,rfl,by omega,by omega,HA,HB2,HU⟩
    case measure => simp [intOf]; omega
  ·obtain rfl:i=j:=by omega
   by_cases hin:i < n
   ·obtain ⟨g,cg,cur,e1,_⟩:=own_form HO.out (by omega)
    injection e1 with e1 _ e1'
    subst e1 e1'
    obtain ⟨y,hy⟩:∃ y,xs[i]?=some y:=⟨_,List.getElem?_eq_getElem (by rw [HN.out]; omega)⟩
    have OW:=Zh (own_upd0 HO.out HU.out)
    have e0:wr.cell? ⟨g,i,none⟩=some (.int .i64 y):=by
     have:=own_cell OW.out _ _ ((flat_get (E:=encK) hy (j:=0) (by decide)).trans rfl)
     rwa [show i * encK.s + 0=i by simp [encI]] at this
    have q1:(0:Int)≤(i:Int):=by omega
    have q2:(i:Int) < (n:Int):=by omega
    clear hy
    by_cases hyk:y=k
    ·have d:(y == k)=true:=by simpa using hyk
     clear hyk
     go_wp2_with fail
     go_ret2
     unfold BinPost
     exact ⟨i,_,rfl,by rw [HN.out]; exact hjn,HA.out,by rw [HN.out]; exact HB.out,HU.out⟩
    ·have d:(y == k)=false:=by simpa using hyk
     clear hyk
     go_wp2_with fail
     refine (isNaN_int y _).mono ?_; rintro e w' ⟨rfl,rfl⟩
     go_wp2_with fail
     go_ret2
     unfold BinPost
     exact ⟨i,_,rfl,by rw [HN.out]; exact hjn,HA.out,by rw [HN.out]; exact HB.out,HU.out⟩
   ·have q2:¬ (i:Int) < (n:Int):=by omega
    go_wp2_with fail
    go_ret2
    unfold BinPost
    exact ⟨i,_,rfl,by rw [HN.out]; exact hjn,HA.out,by rw [HN.out]; exact HB.out,HU.out⟩
end Go.Proofs.YtmjnmpifibemjaaGreatDoor
namespace Go.Proofs.YtmjnmpifibemjaaGreatDoor
open Go.RowKit Assoc MP
attribute [local go_sem] litStep_value
def encPr:Enc (Int × Int):=encII .i64 .i64
theorem elem_pair:Elem Tryz.prog 103 157 2 16:=.mk' (z:=((Tryz.prog.info? 157).bind (·.zero)).getD undef) Tryz.underlying103 (by kernel_rfl) (by kernel_rfl) (by omega)
def oErr (s:MS) (c:Int):Int:=if isC s c then (if s.K.getD c.toNat 0=3 then 0 else 17) else 3
def keysC (s:MS) (c:Int):List Int:=(coll s c.toNat).map (·.1)
def OrdPost (s:MS) (c:Int) (w:World) (e:Ending) (w':World):Prop:=∃ v u,e=.returned (.tuple #[v,u])∧Upd [] w w' ∧
 ((oErr s c=0∧isC s c=true∧u=.nilIface∧Ow encK 3 w' w.heap.size v (keysC s c))∨(oErr s c=17∧isC s c=true∧v=.slice none 0 0∧u=.iface 40 (.int .i64 17)) ∨
  (oErr s c=3∧isC s c=false∧v=.slice none 0 0∧∃ g,u=.iface 96 (.pointer (some ⟨g,0,none⟩))∧Blk w' g 100 #[.int .i64 c,.int .i64 3]))
theorem good_kwf {s:MS} (h:MP.Good s) {i:Nat} (hi:i < s.L.length):kwf (coll s i):=fun p hp => WalkArith.wf_i64 (h.kb _ (coll_mem hi) p hp)
theorem m_ordered (B sb:Nat) (F:List Nat) (s:MS) (c:Int) (w:World) (h:Mdl B sb F w s) :
 Calls Tryz.prog 147 #[.pointer (some ⟨sb,0,none⟩),.int .i64 c] w fun e w' => OrdPost s c w e w':=by
 have H:=Zh h
 obtain ⟨g,vk,gc,cc,ms,hF,h⟩:=h
 have HF:=Zh hF
 have HS:=Zh h
 have HG:=Zh g
 have K8:=Zh (show s.L.length≤8 by have:=g.k8; rw [g.kl] at this; exact this)
 clear g hF h
 go_enter Tryz.func147,Tryz.ntmps147
 go_wp2_with fail
 refine (m_coll B sb vk gc cc ms s c w HS.out K8.out).mono ?_
 rintro e w1 (⟨hc,rfl,i,m,rfl,hi,hm,rfl⟩ | ⟨hc,u1,gf,rfl,bf⟩)
 ·obtain ⟨m',hm',him⟩:=HS.out.at_ hi
  obtain rfl:m'=m:=by rw [hm] at hm'; exact (Option.some.inj hm').symm
  have HI:=Zh hc
  have HIM:=Zh him
  have HII:=Zh hi
  obtain ⟨Ak,ck,rfl,hnk,_⟩:=own_slice HS.out.k
  obtain ⟨NK,hNK⟩:∃ NK,s.K.length=NK:=⟨_,rfl⟩
  have hik:i < NK:=by rw [← hNK,HG.out.kl]; exact hi
  have OK:Hid (w.ownsRow B 3 1 (.slice Ak NK ck) NK (flat encK s.K)):=Zh (by have:=HS.out.k; unfold Ow at this; rw [hNK] at this; exact this)
  obtain ⟨gk,cg,cur,e1,_⟩:=own_form OK.out (by omega)
  injection e1 with e1 _ e1'
  subst e1 e1'
  obtain ⟨y,hy⟩:∃ y,s.K[i]?=some y:=⟨_,List.getElem?_eq_getElem (by rw [hNK]; exact hik)⟩
  have e0:w.cell? ⟨gk,i,none⟩=some (.int .i64 y):=by
   have:=own_cell OK.out _ _ ((flat_get (E:=encK) hy (j:=0) (by decide)).trans rfl)
   rwa [show i * encK.s + 0=i by simp [encI]] at this
  have c0:w.cell? ⟨sb,0,none⟩=some (.slice (some ⟨gk,0,none⟩) NK ck):=by rw [← hNK]; exact HS.out.box.cell 0
  have q1:(0:Int)≤(i:Int):=by omega
  have q2:(i:Int) < (NK:Int):=by omega
  have HE:Hid (oErr s i=if y=3 then 0 else 17):=Zh (by unfold oErr; rw [hc,Int.toNat_natCast,List.getD_eq_getElem?_getD,hy]; rfl)
  clear hm hm' hi hc him hNK hy
  by_cases h3:y=3
  ·have d:(y != 3)=false:=by simpa using h3
   have HE0:Hid (oErr s i=0):=Zh (by rw [HE.out,if_pos h3])
   clear h3
   go_wp2_with fail
   refine (keysM (some m') w).mono ?_; rintro e w1 ⟨rfl,rfl⟩
   have U1:Hid (Upd [] w (w.alloc (.cells #[.map (some m')] 149))):=Zh ((Upd.refl [] w).alloc _)
   have Y1:Hid (Blk (w.alloc (.cells #[.map (some m')] 149)) w.heap.size 149 #[.map (some m')]):=Zh (Blk.new w _ _)
   clear c0 e0
   go_wp2_with fail
   generalize (w.alloc (.cells #[.map (some m')] 149))=w2 at *
   refine (sortedKeys w.heap.size m' (coll s i) w2 Y1.out (HIM.out.upd U1.out (by simp)) (HG.out.srt _ (coll_mem HII.out)) (good_kwf HG.out HII.out) (HG.out.len _ (coll_mem HII.out))).mono ?_
   rintro e w3 ⟨v,rfl,o3,u3⟩
   have O3:=Zh (own_base o3 U1.out.size)
   have U3:=Zh (U1.out.trans u3)
   clear o3 u3
   go_wp2_with fail
   go_ret2
   unfold OrdPost
   exact ⟨_,_,rfl,U3.out,.inl ⟨HE0.out,HI.out,rfl,O3.out⟩⟩
  ·have d:(y != 3)=true:=by simpa using h3
   have HE0:Hid (oErr s i=17):=Zh (by rw [HE.out,if_neg h3])
   clear h3
   go_wp2_with fail
   go_ret2
   unfold OrdPost
   exact ⟨_,_,rfl,.refl _ _,.inr (.inl ⟨HE0.out,HI.out,rfl,rfl⟩)⟩
 ·have U1:=Zh u1
  have BF:=Zh bf
  have HI:=Zh hc
  clear u1 bf hc
  go_wp2_with fail
  go_ret2
  unfold OrdPost
  exact ⟨_,_,rfl,U1.out,.inr (.inr ⟨by unfold oErr; rw [HI.out]; rfl,HI.out,rfl,gf,rfl,BF.out⟩)⟩
theorem oErr_err {s:MS} {c:Int} {w:World} {u v:Value} (h:(oErr s c=17∧isC s c=true∧v=.slice none 0 0∧u=.iface 40 (.int .i64 17)) ∨
 (oErr s c=3∧isC s c=false∧v=.slice none 0 0∧∃ g,u=.iface 96 (.pointer (some ⟨g,0,none⟩))∧Blk w g 100 #[.int .i64 c,.int .i64 3])):ErrV w u (oErr s c) (if isC s c then 0 else c):=by
 rcases h with ⟨h1,h2,_,rfl⟩ | ⟨h1,h2,_,g,rfl,hb⟩
 ·rw [h1,h2]; exact ErrV.errno _ 17 (by omega) (by omega)
 ·rw [h1,h2]; exact ErrV.fault (no:=3) (at_:=c) hb (by omega) (by omega)
theorem ceil_at {l:AL} {k:Int} {i:Nat} (h1:∀ j,j < i→(l.map (·.1)).getD j 0 < k) (h2:∀ j,i≤j→j < (l.map (·.1)).length→k≤(l.map (·.1)).getD j 0):ceilL l k=(l.map (·.1))[i]?:=by
 unfold ceilL
 rw [List.getElem?_map]
 congr 1
 rw [List.length_map] at h2
 rcases Nat.lt_or_ge i l.length with hi | hi
 ·rw [List.getElem?_eq_getElem hi,List.find?_eq_some_iff_getElem]
  have h3:=h2 i (Nat.le_refl _) hi
  rw [List.getD_eq_getElem?_getD,List.getElem?_map,List.getElem?_eq_getElem hi] at h3
  refine ⟨by simpa using h3,i,hi,rfl,fun j hj => ?_⟩
  have h4:=h1 j hj
  rw [List.getD_eq_getElem?_getD,List.getElem?_map,List.getElem?_eq_getElem (by omega)] at h4
  simp at h4 ⊢
  exact h4
 ·rw [List.getElem?_eq_none hi,List.find?_eq_none]
  intro p hp
  obtain ⟨j,hj,rfl⟩:=List.getElem_of_mem hp
  have h4:=h1 j (by omega)
  rw [List.getD_eq_getElem?_getD,List.getElem?_map,List.getElem?_eq_getElem hj] at h4
  simp at h4 ⊢
  exact h4
def ceilC (s:MS) (c k:Int):Option Int:=if oErr s c=0 then ceilL (coll s c.toNat) k else none
def CeilPost (s:MS) (c k:Int) (w:World) (e:Ending) (w':World):Prop:=∃ u,e=.returned (.tuple #[.int .i64 ((ceilC s c k).getD 0),.bool (ceilC s c k).isSome,u])∧ErrV w' u (oErr s c) (if isC s c then 0 else c)∧Upd [] w w'
theorem keys_len {s:MS} {c:Int} (h:MP.Good s) (hc:isC s c=true):(keysC s c).length≤100∧(keysC s c).Pairwise (· < ·):=by
 obtain ⟨i,rfl,hi⟩:=isC_form hc
 unfold keysC
 rw [Int.toNat_natCast,List.length_map]
 exact ⟨h.len _ (coll_mem hi),srt_keys (h.srt _ (coll_mem hi))⟩
theorem m_ceil (B sb:Nat) (F:List Nat) (s:MS) (c k:Int) (w:World) (h:Mdl B sb F w s) :
 Calls Tryz.prog 139 #[.pointer (some ⟨sb,0,none⟩),.int .i64 c,.int .i64 k] w fun e w' => CeilPost s c k w e w':=by
 have H:=Zh h
 clear h
 go_enter Tryz.func139,Tryz.ntmps139
 go_wp2_with fail
 refine (m_ordered B sb F s c w H.out).mono ?_
 rintro e w1 ⟨v,u,rfl,u1,hor⟩
 have U1:=Zh u1
 clear u1
 rcases hor with ⟨h1,h2,rfl,ho⟩ | hor
 ·have HE:=Zh h1
  have HC:=Zh h2
  have KL:=Zh (keys_len H.out.1 h2)
  obtain ⟨A,ca,rfl,hnc,_⟩:=own_slice ho
  obtain ⟨n,hn⟩:∃ n,(keysC s c).length=n:=⟨_,rfl⟩
  have HN:=Zh hn
  have HO:=Zh ho
  rw [hn] at hnc HO ⊢
  clear ho hn h1 h2
  go_wp2_with fail
  refine (bin_ok _ (keysC s c) (.slice A n ca) k w1 HO.out KL.out.2 (by have:=KL.out.1; omega)).mono ?_
  rintro e w2 ⟨i,b,rfl,hi,ha,hb,u2⟩
  have HCE:Hid (ceilC s c k=(keysC s c)[i]?):=Zh (by unfold ceilC; rw [HE.out,if_pos rfl]; exact ceil_at ha hb)
  have U2:=Zh (U1.out.trans u2)
  rw [HN.out] at hi
  have O2:=Zh (HO.out.upd0 u2)
  clear ha hb u2
  by_cases hin:i=n
  ·have d:((i:Int) == (n:Int))=true:=by simp [hin]
   have HX:Hid (ceilC s c k=none):=Zh (by rw [HCE.out,List.getElem?_eq_none (by rw [HN.out]; omega)])
   clear hin
   go_wp2_with fail
   go_ret3
   unfold CeilPost
   rw [HX.out,HE.out,HC.out]
   exact ⟨_,rfl,ErrV.nil _,U2.out⟩
  ·have d:((i:Int) == (n:Int))=false:=by simp; omega
   obtain ⟨y,hy⟩:∃ y,(keysC s c)[i]?=some y:=⟨_,List.getElem?_eq_getElem (by rw [HN.out]; omega)⟩
   have HX:Hid (ceilC s c k=some y):=Zh (by rw [HCE.out,hy])
   have ON:Hid (w2.ownsRow w.heap.size 3 1 (.slice A n ca) n (flat encK (keysC s c))):=Zh (by have:=O2.out; unfold Ow at this; rw [HN.out] at this; exact this)
   obtain ⟨g,cg,cur,e1,_⟩:=own_form ON.out (by omega)
   injection e1 with e1 _ e1'
   subst e1 e1'
   have e0:w2.cell? ⟨g,i,none⟩=some (.int .i64 y):=by
    have:=own_cell ON.out _ _ ((flat_get (E:=encK) hy (j:=0) (by decide)).trans rfl)
    rwa [show i * encK.s + 0=i by simp [encI]] at this
   have q1:(0:Int)≤(i:Int):=by omega
   have q2:(i:Int) < (n:Int):=by omega
   clear hy hin
   go_wp2_with fail
   go_ret3
   unfold CeilPost
   rw [HX.out,HE.out,HC.out]
   exact ⟨_,rfl,ErrV.nil _,U2.out⟩
 ·have EV:=Zh (oErr_err hor)
  have HNE:Hid (ceilC s c k=none):=Zh (by unfold ceilC; rw [if_neg (by rcases hor with ⟨h,_⟩ | ⟨h,_⟩ <;> omega)])
  have HU:(∃ x,u=.iface 40 x)∨∃ g,u=.iface 96 (.pointer (some ⟨g,0,none⟩)):=by
   rcases hor with ⟨_,_,_,h⟩ | ⟨_,_,_,g,h,_⟩
   ·exact .inl ⟨_,h⟩
   ·exact .inr ⟨g,h⟩
  clear hor
  rcases HU with ⟨x,rfl⟩ | ⟨g,rfl⟩
  ·go_wp2_with fail
   go_ret3
   unfold CeilPost
   rw [HNE.out]
   exact ⟨_,rfl,EV.out,U1.out⟩
  ·go_wp2_with fail
   go_ret3
   unfold CeilPost
   rw [HNE.out]
   exact ⟨_,rfl,EV.out,U1.out⟩
end Go.Proofs.YtmjnmpifibemjaaGreatDoor
namespace Go.Proofs.YtmjnmpifibemjaaGreatDoor
open Go.RowKit Assoc MP
attribute [local go_sem] litStep_value
def rangeK (xs:List Int) (a b:Int):Nat:=(xs.filter (fun x => decide (a≤x) && decide (x≤b))).length
theorem rangeK_snoc (xs:List Int) (a b x:Int):rangeK (xs ++ [x]) a b=rangeK xs a b + if a≤x∧x≤b then 1 else 0:=by
 unfold rangeK
 rw [List.filter_append,List.length_append]
 by_cases h:a≤x∧x≤b
 ·simp [h]
 ·have:(decide (a≤x) && decide (x≤b))=false:=by simpa using h
  simp [this,h]
theorem rangeL_eq (l:AL) (a b:Int):rangeL l a b=rangeK (l.map (·.1)) a b:=by
 unfold rangeL rangeK
 rw [List.filter_map,List.length_map]
 rfl
theorem take_snoc_ {α:Type} {L:List α} {k:Nat} {x:α} (h:L[k]?=some x):L.take (k + 1)=L.take k ++ [x]:=by
 obtain ⟨hk,rfl⟩:=List.getElem?_eq_some_iff.1 h
 exact List.take_succ_eq_append_getElem hk
def rangeC (s:MS) (c a b:Int):Nat:=if oErr s c=0 then rangeL (coll s c.toNat) a b else 0
def MRangePost (s:MS) (c a b:Int) (w:World) (e:Ending) (w':World):Prop:=∃ u,e=.returned (.tuple #[.int .i64 (rangeC s c a b:Nat),u])∧ErrV w' u (oErr s c) (if isC s c then 0 else c)∧Upd [] w w'
theorem m_range (B sb:Nat) (F:List Nat) (s:MS) (c a b:Int) (w:World) (h:Mdl B sb F w s) :
 Calls Tryz.prog 140 #[.pointer (some ⟨sb,0,none⟩),.int .i64 c,.int .i64 a,.int .i64 b] w fun e w' => MRangePost s c a b w e w':=by
 have H:=Zh h
 clear h
 go_enter Tryz.func140,Tryz.ntmps140
 go_wp2_with fail
 refine (m_ordered B sb F s c w H.out).mono ?_
 rintro e w1 ⟨v,u,rfl,u1,hor⟩
 have U1:=Zh u1
 clear u1
 rcases hor with ⟨h1,h2,rfl,ho⟩ | hor
 ·have HE:=Zh h1
  have HC:=Zh h2
  have KL:=Zh (keys_len H.out.1 h2)
  obtain ⟨A,ca,rfl,hnc,_⟩:=own_slice ho
  obtain ⟨n,hn⟩:∃ n,(keysC s c).length=n:=⟨_,rfl⟩
  have HN:=Zh hn
  have HO:=Zh ho
  have ON:Hid (w1.ownsRow w.heap.size 3 1 (.slice A n ca) n (flat encK (keysC s c))):=Zh (by have:=ho; unfold Ow at this; rw [hn] at this; exact this)
  have hn1:n≤100:=hn ▸ KL.out.1
  rw [hn] at hnc ⊢
  clear ho hn h1 h2
  go_wp2_with fail
  go_loopw [12,26] (fun vm vk wr => ∃ k:Nat,vk=.int .i64 k∧vm=.int .i64 (rangeK ((keysC s c).take k) a b:Nat)∧k≤n∧Hid (rangeK ((keysC s c).take k) a b≤k)∧Hid (Upd [] w1 wr)) (fun _ v _ => n - (intOf v).toNat)
  case atStart => exact ⟨0,rfl,rfl,by omega,Zh (by simp [rangeK]),Zh (.refl _ _)⟩
  case round =>
   obtain ⟨k,rfl,rfl,hk,HR,HU⟩:=hrel
   obtain ⟨r,hr⟩:∃ r,rangeK ((keysC s c).take k) a b=r:=⟨_,rfl⟩
   have HRR:=Zh hr
   have hrk:r≤k:=hr ▸ HR.out
   rw [hr]
   clear hr
   by_cases hkn:k < n
   ·obtain ⟨y,hy⟩:∃ y,(keysC s c)[k]?=some y:=⟨_,List.getElem?_eq_getElem (by rw [HN.out]; exact hkn)⟩
    obtain ⟨g,cg,cur,e1,_⟩:=own_form ON.out (by omega)
    injection e1 with e1 _ e1'
    subst e1 e1'
    have e0:wr.cell? ⟨g,k,none⟩=some (.int .i64 y):=by
     have:=own_cell (own_upd0 ON.out HU.out) _ _ ((flat_get (E:=encK) hy (j:=0) (by decide)).trans rfl)
     rwa [show k * encK.s + 0=k by simp [encI]] at this
    have HT:=Zh (take_snoc_ hy)
    have q1:(0:Int)≤(k:Int):=by omega
    have q2:(k:Int) < (n:Int):=by omega
    clear hy
    by_cases h1:a≤y
    ·have d1:decide (a≤y)=true:=by simpa using h1
     by_cases h2:y≤b
     ·have d2:decide (y≤b)=true:=by simpa using h2
      have HZ:Hid (rangeK ((keysC s c).take (k + 1)) a b=r + 1):=Zh (by rw [HT.out,rangeK_snoc,HRR.out,if_pos ⟨h1,h2⟩])
      go_wp2_with fail
      go_roundw
      case rel => exact ⟨k + 1,by go_num,by rw [HZ.out]; go_num,by omega,Zh (by rw [HZ.out]; omega),HU⟩
      case measure => simp [intOf]; omega
     ·have d2:decide (y≤b)=false:=by simpa using h2
      have HZ:Hid (rangeK ((keysC s c).take (k + 1)) a b=r + 0):=Zh (by rw [HT.out,rangeK_snoc,HRR.out,if_neg (fun h => h2 h.2)])
      go_wp2_with fail
      go_roundw
      case rel => exact ⟨k + 1,by go_num,by rw [HZ.out]; go_num,by omega,Zh (by rw [HZ.out]; omega),HU⟩
      case measure => simp [intOf]; omega
    ·have d1:decide (a≤y)=false:=by simpa using h1
     have HZ:Hid (rangeK ((keysC s c).take (k + 1)) a b=r + 0):=Zh (by rw [HT.out,rangeK_snoc,HRR.out,if_neg (fun h => h1 h.1)])
     go_wp2_with fail
     go_roundw
     case rel => exact ⟨k + 1,by go_num,by rw [HZ.out]; go_num,by omega,Zh (by rw [HZ.out]; omega),HU⟩
     case measure => simp [intOf]; omega
   ·obtain rfl:k=n:=by omega
    go_wp2_with fail
    go_ret2
    unfold MRangePost
    have HX:rangeC s c a b=r:=by
     unfold rangeC
     rw [HE.out,if_pos rfl,rangeL_eq,← HRR.out,List.take_of_length_le (by rw [HN.out]; exact Nat.le_refl _)]
     rfl
    rw [HX,HE.out,HC.out]
    exact ⟨_,rfl,ErrV.nil _,U1.out.trans HU.out⟩
 ·have EV:=Zh (oErr_err hor)
  have HNE:Hid (rangeC s c a b=0):=Zh (by unfold rangeC; rw [if_neg (by rcases hor with ⟨h,_⟩ | ⟨h,_⟩ <;> omega)])
  have HU:(∃ x,u=.iface 40 x)∨∃ g,u=.iface 96 (.pointer (some ⟨g,0,none⟩)):=by
   rcases hor with ⟨_,_,_,h⟩ | ⟨_,_,_,g,h,_⟩
   ·exact .inl ⟨_,h⟩
   ·exact .inr ⟨g,h⟩
  clear hor
  rcases HU with ⟨x,rfl⟩ | ⟨g,rfl⟩
  ·go_wp2_with fail
   go_ret2
   unfold MRangePost
   rw [HNE.out]
   exact ⟨_,rfl,EV.out,U1.out⟩
  ·go_wp2_with fail
   go_ret2
   unfold MRangePost
   rw [HNE.out]
   exact ⟨_,rfl,EV.out,U1.out⟩
def listC (s:MS) (c:Int):AL:=if isC s c then coll s c.toNat else []
def ListPost (s:MS) (c:Int) (w:World) (e:Ending) (w':World):Prop:=∃ v u,e=.returned (.tuple #[v,u])∧ErrV w' u (if isC s c then 0 else 3) (if isC s c then 0 else c)∧Ow encPr 157 w' w.heap.size v (listC s c)∧Upd [] w w'
theorem m_list (B sb:Nat) (F:List Nat) (s:MS) (c:Int) (w:World) (h:Mdl B sb F w s) :
 Calls Tryz.prog 41 #[.pointer (some ⟨sb,0,none⟩),.int .i64 c] w fun e w' => ListPost s c w e w':=by
 have H:=Zh h
 obtain ⟨g,vk,gc,cc,ms,hF,h⟩:=h
 have HF:=Zh hF
 have HS:=Zh h
 have HG:=Zh g
 have K8:=Zh (show s.L.length≤8 by have:=g.k8; rw [g.kl] at this; exact this)
 clear g hF h
 go_enter Tryz.func41,Tryz.ntmps41
 go_wp2_with fail
 refine (m_coll B sb vk gc cc ms s c w HS.out K8.out).mono ?_
 rintro e w1 (⟨hc,rfl,i,m,rfl,hi,hm,rfl⟩ | ⟨hc,u1,gf,rfl,bf⟩)
 ·obtain ⟨m',hm',him⟩:=HS.out.at_ hi
  obtain rfl:m'=m:=by rw [hm] at hm'; exact (Option.some.inj hm').symm
  have HI:=Zh hc
  have HIM:=Zh him
  have HII:=Zh hi
  obtain ⟨l,hl⟩:∃ l,coll s i=l:=⟨_,rfl⟩
  have HL:Hid (listC s i=l):=Zh (by unfold listC; rw [hc,Int.toNat_natCast]; exact hl)
  have SR:Hid (Srt l∧kwf l∧l.length≤100):=Zh ⟨hl ▸ HG.out.srt _ (coll_mem hi),hl ▸ good_kwf HG.out hi,hl ▸ HG.out.len _ (coll_mem hi)⟩
  rw [hl] at HIM
  clear hm hm' hi hc him hl
  go_wp2_with fail
  refine (keysM (some m') w).mono ?_; rintro e w1 ⟨rfl,rfl⟩
  have U1:Hid (Upd [] w (w.alloc (.cells #[.map (some m')] 149))):=Zh ((Upd.refl [] w).alloc _)
  have Y1:Hid (Blk (w.alloc (.cells #[.map (some m')] 149)) w.heap.size 149 #[.map (some m')]):=Zh (Blk.new w _ _)
  go_wp2_with fail
  generalize (w.alloc (.cells #[.map (some m')] 149))=w2 at *
  refine (sortedKeys w.heap.size m' l w2 Y1.out (HIM.out.upd U1.out (by simp)) SR.out.1 SR.out.2.1 SR.out.2.2).mono ?_
  rintro e w3 ⟨v,rfl,o3,u3⟩
  have U3:=Zh (U1.out.trans u3)
  obtain ⟨A,ca,rfl,hnc,_⟩:=own_slice o3
  rw [List.length_map] at hnc ⊢
  obtain ⟨n,hn⟩:∃ n,l.length=n:=⟨_,rfl⟩
  have HN:=Zh hn
  have ON:Hid (w3.ownsRow w2.heap.size 3 1 (.slice A n ca) n (flat encK (l.map (·.1)))):=Zh (by have:=o3; unfold Ow at this; rw [List.length_map,hn] at this; exact this)
  have hn1:n≤100:=hn ▸ SR.out.2.2
  rw [hn] at hnc ⊢
  clear o3 u3 hn Y1 U1
  go_wp2_with fail
  go_loopw [8,24] (fun vl vk wr => ∃ k:Nat,vk=.int .i64 k∧k≤n∧Hid (Ow encPr 157 wr w3.heap.size vl (l.take k)∧Upd [] w3 wr)) (fun _ v _ => n - (intOf v).toNat)
  case atStart => exact ⟨0,rfl,by omega,Zh ⟨Ow.nil _ _ _ _,.refl _ _⟩⟩
  case round =>
   obtain ⟨k,rfl,hk,HK⟩:=hrel
   obtain ⟨ho,hu⟩:=HK.out
   rename World => wi
   obtain ⟨Al,cl,rfl,_,_⟩:=own_slice ho
   obtain ⟨q,hq⟩:∃ q,(l.take k).length=q:=⟨_,rfl⟩
   have hqk:q=k:=by rw [← hq,List.length_take,HN.out]; omega
   subst hqk
   have O1:Hid (wi.ownsRow w3.heap.size 157 2 (.slice Al q cl) q (flat encPr (l.take q))):=Zh (by have:=ho; unfold Ow at this; rw [hq] at this; exact this)
   have HUI:=Zh hu
   rw [hq]
   clear HK ho hu hq
   by_cases hkn:q < n
   ·obtain ⟨⟨xk,xv⟩,hx⟩:∃ x,l[q]?=some x:=⟨_,List.getElem?_eq_getElem (by rw [HN.out]; exact hkn)⟩
    obtain ⟨g,cg,cur,e1,_⟩:=own_form ON.out (by omega)
    injection e1 with e1 _ e1'
    subst e1 e1'
    have e0:wi.cell? ⟨g,q,none⟩=some (.int .i64 xk):=by
     have:=own_cell (own_upd0 ON.out HUI.out) _ _ ((flat_get (E:=encK) (L:=l.map (·.1)) (a:=xk) (by rw [List.getElem?_map,hx]; rfl) (j:=0) (by decide)).trans rfl)
     rwa [show q * encK.s + 0=q by simp [encI]] at this
    have l0:(Instr.lookup 149 (.map (some m')) (.int .i64 xk) false).run Tryz.prog wi=.ok (.int .i64 xv) wi:=by
     have hr:=run_lookup_int' (P:=Tryz.prog) (z:=.int .i64 0) (mt:=149) Tryz.underlying149 Tryz.underlying3 (w:=wi) (by kernel_rfl) (HIM.out.upd (U3.out.trans HUI.out) (by simp)) xk
     rw [hr]
     unfold mapI
     rw [get_mem SR.out.1 (List.mem_of_getElem? hx)]
     rfl
    have HT:=Zh (take_snoc_ hx)
    have q1:(0:Int)≤(q:Int):=by omega
    have q2:(q:Int) < (n:Int):=by omega
    clear hx
    go_wp2_with (at_builtin; refine stopped ?_)
    refine Zh ?_
    refine wpList_app _ (by rfl) (.tmp 28) (.tmp 34) _ (by rfl) elem_pair (.slice Al q cl) _ (by rfl) (by rfl) (own_upd0 O1.out ((Upd.refl [] wi).alloc _)) (.of_blk (Blk.new _ _ _) (m:=1) 1 rfl) (by intro u hu; simp at hu; rcases hu with rfl | rfl <;> rfl) (by simp only [maxLen]; omega) (by omega) (Nat.le_trans HUI.out.size (by simp)) ?_
    intro v5 w5 o5 u5 b5
    obtain ⟨A5,c5,rfl,_,_⟩:=own_slice o5
    have U5':Hid (Upd [] w3 w5):=Zh (HUI.out.trans' (((Upd.refl _ wi).alloc _).trans u5) (fun k hk => .inr (own_lt O1.out (by simpa using hk)).1))
    have O5:Hid (Ow encPr 157 w5 w3.heap.size (.slice A5 (q + 1) c5) (l.take (q + 1))):=Zh (by
     rw [HT.out]
     have e1:flat encPr (l.take q) ++ #[Value.int .i64 xk,Value.int .i64 xv].toList=flat encPr (l.take q ++ [(xk,xv)]):=by rw [flat_append]; rfl
     rw [e1] at o5
     unfold Ow
     rw [List.length_append,List.length_take,HN.out,Nat.min_eq_left (by omega)]
     exact o5)
    clear o5 u5 b5
    go_wp2_with fail
    go_roundw
    case rel => exact ⟨q + 1,by go_num,by omega,Zh ⟨O5.out,U5'.out⟩⟩
    case measure => simp [intOf]; omega
   ·obtain rfl:q=n:=by omega
    go_wp2_with fail
    go_ret2
    unfold ListPost
    rw [HI.out,HL.out]
    refine ⟨_,_,rfl,ErrV.nil _,?_,U3.out.trans HUI.out⟩
    have:=own_base O1.out U3.out.size
    rw [List.take_of_length_le (by rw [HN.out]; exact Nat.le_refl _)] at this
    unfold Ow
    rw [HN.out]
    exact this
 ·have U1:=Zh u1
  have BF:=Zh bf
  have HI:=Zh hc
  clear u1 bf hc
  go_wp2_with fail
  go_ret2
  unfold ListPost listC
  rw [HI.out]
  exact ⟨_,_,rfl,ErrV.fault (no:=3) (at_:=c) BF.out (by omega) (by omega),Ow.nil _ _ _ _,U1.out⟩
end Go.Proofs.YtmjnmpifibemjaaGreatDoor
namespace Go.Proofs.YtmjnmpifibemjaaGreatDoor.Ev
open Go.RowKit Assoc MP
attribute [local go_sem] litStep_value
abbrev ints (l:List Int):List Value:=l.map (Value.int .i64)
section
variable {H rb sb:Nat} {F FM T:List Nat} {vt:Value} {ks:List Int} {w w':World} {r:RS}
theorem RunSt.setR (h:RunSt H rb sb FM vt ks w r) {i:Nat} (hi:i < 9) (x:Int):RunSt H rb sb FM vt ks (w.setCell ⟨rb,1 + i,none⟩ (.int .i64 x)) { r with regs:=r.regs.set i x }:=by
 have hu:Upd [rb] w (w.setCell ⟨rb,1 + i,none⟩ (.int .i64 x)):=Upd.setCell (p:=⟨rb,1 + i,none⟩) (.refl _ _) (.inl (by simp)) _
 exact ⟨h.blk.set_eq (runC_setR (by rw [h.ok.regs]; exact hi) x),h.mdl.upd hu (fun k hk => by simp; rintro rfl; exact h.rm hk),own_upd h.told hu (fun b hb => by simpa using h.tr b hb),h.low,h.rm,h.tm,⟨h.ok.K,by simp [h.ok.regs],h.ok.steps,h.ok.told⟩⟩
theorem RunSt.setN (h:RunSt H rb sb FM vt ks w r) {n:Nat} (hn:n≤1000):RunSt H rb sb FM vt ks (w.setCell ⟨rb,11,none⟩ (.int .i64 n)) { r with steps:=n }:=by
 have hu:Upd [rb] w (w.setCell ⟨rb,11,none⟩ (.int .i64 n)):=Upd.setCell (p:=⟨rb,11,none⟩) (.refl _ _) (.inl (by simp)) _
 exact ⟨h.blk.set_eq (runC_setN h.ok.regs n),h.mdl.upd hu (fun k hk => by simp; rintro rfl; exact h.rm hk),own_upd h.told hu (fun b hb => by simpa using h.tr b hb),h.low,h.rm,h.tm,⟨h.ok.K,h.ok.regs,hn,h.ok.told⟩⟩
theorem frm_rb (o:Nat) (v:Value):Frm (fpR rb vt FM) (fpR rb vt FM) w (w.setCell ⟨rb,o,none⟩ v) :=
 ⟨Upd.setCell (p:=⟨rb,o,none⟩) (.refl _ _) (.inl (List.mem_cons_self ..)) _,fun k hk => .inl hk⟩
theorem RunSt.push (h:RunSt H rb sb FM vt ks w r) {w1 w5:World} {v5:Value} {news:List Int} {m:Nat} (u1:Upd [] w w1) (o5:w5.ownsRow H 3 1 v5 (r.told.length + m) (ints r.told ++ ints news)) (u5:Upd vt.ownBlock.toList w1 w5)
 (b5:v5.ownBlock=vt.ownBlock∨v5.ownBlock=some w1.heap.size) (hm:news.length=m) (hl:r.told.length + m≤201 * 1000) :
 RunSt H rb sb FM v5 ks (w5.setCell ⟨rb,10,none⟩ v5) { r with told:=r.told ++ news }∧Frm (fpR rb vt FM) (fpR rb v5 FM) w (w5.setCell ⟨rb,10,none⟩ v5):=by
 have u15:Upd vt.ownBlock.toList w w5:=(u1.mono (by simp)).trans u5
 have hT:∀ b,vt.ownBlock=some b→b≠rb:=h.tr
 have hbr:Blk w5 rb 185 (runC sb r.regs vt r.steps):=h.blk.upd u15 (fun hm => hT rb (by simpa using hm) rfl)
 have hv:∀ b,v5.ownBlock=some b→b≠rb:=fun b hb e => by
  subst e
  exact own_type o5 hbr (by decide) hb
 have hu:Upd [rb] w5 (w5.setCell ⟨rb,10,none⟩ v5):=Upd.setCell (p:=⟨rb,10,none⟩) (.refl _ _) (.inl (by simp)) _
 have hM:Mdl H sb FM w5 r.s:=h.mdl.upd u15 (fun k hk hm => h.tm k (by simpa using hm) hk)
 refine ⟨⟨hbr.set_eq (runC_setT h.ok.regs v5),hM.upd hu (fun k hk => by simp; rintro rfl; exact h.rm hk),?_,h.low,h.rm,fun b hb => ?_,⟨h.ok.K,h.ok.regs,h.ok.steps,by rw [List.length_append,hm]; exact hl⟩⟩,⟨?_,fun k hk => ?_⟩⟩
 ·have:=own_upd o5 hu (fun b hb => by simpa using hv b hb)
  rw [List.length_append,hm,List.map_append]
  exact this
 ·rcases b5 with b5 | b5
  ·exact h.tm b (b5 ▸ hb)
  ·intro hk
   have h1:=(h.mdl.lt b hk).2
   have h2:=u1.size
   rw [hb] at b5
   injection b5 with b5
   omega
 ·refine (u15.mono (fun x hx => .inl ?_)).trans (hu.mono (fun x hx => .inl ?_))
  ·unfold fpR; rw [List.mem_cons,List.mem_append]; exact .inr (.inl hx)
  ·unfold fpR; rw [List.mem_cons]; exact .inl (by simpa using hx)
 ·unfold fpR at hk ⊢
  rw [List.mem_cons,List.mem_append] at hk
  rcases hk with rfl | hk | hk
  ·exact .inl (List.mem_cons_self ..)
  ·rcases b5 with b5 | b5
   ·left; rw [List.mem_cons,List.mem_append,← b5]; exact .inr (.inl hk)
   ·right
    rw [b5] at hk
    simp at hk
    rw [hk]
    exact u1.size
  ·left; rw [List.mem_cons,List.mem_append]; exact .inr (.inr hk)
end
def RunPost (H rb:Nat) (F:List Nat) (ks:List Int) (r':RS) (w w':World):Prop:=∃ F',Run H rb F' ks w' r'∧Frm F F' w w'
theorem tell_ok {H rb:Nat} {F:List Nat} {ks:List Int} {r:RS} (reg n:Int) (w:World) (h:Run H rb F ks w r) (h1:0≤reg) (h8:reg≤8) (hH:H≤w.heap.size) (hl:r.told.length + 1≤201 * 1000) :
 Calls Tryz.prog 136 #[.pointer (some ⟨rb,0,none⟩),.int .i64 reg,.int .i64 n] w fun e w' => e=.returned (.tuple #[])∧RunPost H rb F ks (tell r reg n) w w':=by
 obtain ⟨sb,FM,vt,rfl,h⟩:=h
 obtain ⟨i,rfl⟩:∃ i:Nat,reg=i:=⟨reg.toNat,by omega⟩
 have HT:Hid (tell r i n={ r with regs:=r.regs.set i n,told:=r.told ++ [n] }):=Zh (by unfold tell; rw [Int.toNat_natCast])
 have H1:=Zh (h.setR (i:=i) (by omega) n)
 have F1:Hid (Frm (fpR rb vt FM) (fpR rb vt FM) w (w.setCell ⟨rb,1 + i,none⟩ (.int .i64 n))):=Zh (frm_rb _ _)
 obtain ⟨x,hx⟩:∃ x,r.regs[i]?=some x:=⟨_,List.getElem?_eq_getElem (by rw [h.ok.regs]; omega)⟩
 have cx:=h.reg hx
 obtain ⟨c0,c10,c11,cf,cl⟩:=h.cells
 have q1:(0:Int)≤(i:Int):=by omega
 have q2:(i:Int) < 9:=by omega
 obtain ⟨e0,e10,e11,ef,el⟩:=H1.out.cells
 clear h hx
 go_enter Tryz.func136,Tryz.ntmps136
 go_wp2_with (at_builtin; refine stopped ?_)
 clear c0 c10 c11 cf cl cx e0 e10 e11 ef el
 have HB:Hid (H≤(w.setCell ⟨rb,1 + i,none⟩ (.int .i64 n)).heap.size):=Zh (Nat.le_trans hH F1.out.upd.size)
 have SZ:Hid ((w.setCell ⟨rb,1 + i,none⟩ (.int .i64 n)).heap.size=w.heap.size):=Zh (by simp [World.setCell])
 have T1:Hid ((w.setCell ⟨rb,1 + i,none⟩ (.int .i64 n)).ownsRow H 3 1 vt r.told.length (ints r.told)):=Zh H1.out.told
 generalize (w.setCell ⟨rb,1 + i,none⟩ (.int .i64 n))=w1 at *
 refine Zh ?_
 refine wpList_app _ (by rfl) (.tmp 16) (.tmp 18) _ (by rfl) elem_int vt _ (by rfl) (by rfl) (own_upd0 T1.out ((Upd.refl [] w1).alloc _)) (.of_blk (q:=w.heap.size) (by rw [← SZ.out]; exact Blk.new w1 3 #[.int .i64 n]) (m:=1) 1 rfl) (by intro u hu; simp at hu; subst hu; rfl) (by simp only [maxLen]; omega) (by omega) (Nat.le_trans HB.out (by simp)) ?_
 intro v5 w5 o5 u5 b5
 obtain ⟨A5,c5,rfl,_,_⟩:=own_slice o5
 have R5:=Zh (H1.out.push (news:=[n]) (m:=1) ((Upd.refl [] w1).alloc (.cells #[.int .i64 n] 3)) o5 u5 b5 rfl hl)
 have B5:Hid (Blk w5 rb 185 (runC sb (r.regs.set i n) vt r.steps)):=Zh ((H1.out.blk.alloc _).upd u5 (fun hm => H1.out.tr rb (by simpa using hm) rfl))
 have c10:w5.cell? ⟨rb,10,none⟩=some vt:=(B5.out.cell 10).trans (runC_told H1.out.ok.regs)
 have cf:=B5.out.frozen
 have cl:=B5.out.lt
 clear o5 u5 b5 B5
 go_wp2_with fail
 go_end0
 exact ⟨rfl,by rw [HT.out]; exact ⟨_,⟨sb,FM,_,rfl,R5.out.1⟩,F1.out.trans R5.out.2⟩⟩
theorem flatP_len (l:AL):(flatP l).length=2 * l.length:=by
 induction l with
 | nil => rfl
 | cons a l ih => unfold flatP at *; rw [List.flatMap_cons,List.length_append,ih]; simp; omega
theorem flatP_snoc (l:AL) (p:Int × Int):flatP (l ++ [p])=flatP l ++ [p.1,p.2]:=by unfold flatP; simp
def tellL (r:RS) (n:Int) (l:AL):RS:={ r with told:=r.told ++ (n :: flatP l) }
theorem tellL_snoc (r:RS) (n:Int) (l:AL) (p:Int × Int):tellL r n (l ++ [p])={ tellL r n l with told:=(tellL r n l).told ++ [p.1,p.2] }:=by
 unfold tellL
 rw [flatP_snoc]
 simp
theorem list_ok' {H rb:Nat} {F:List Nat} {ks:List Int} {r:RS} (c:Int) (w:World) (h:Run H rb F ks w r) (hc:isC r.s c=true) (hH:H≤w.heap.size) (hl:r.told.length + 201≤201 * 1000) (l:AL) (n:Nat) (hl':coll r.s c.toNat=l) (hn:l.length=n) :
 Calls Tryz.prog 141 #[.pointer (some ⟨rb,0,none⟩),.int .i64 c] w fun e w' => e=.returned .nilIface∧RunPost H rb F ks (tellL r n l) w w':=by
 have HR:=Zh h
 obtain ⟨sb,FM,vt,hF,h⟩:=h
 have HFE:Hid (fpR rb vt FM=F):=Zh hF.symm
 have LL:Hid (n≤100):=Zh (by
  obtain ⟨i,rfl,hi⟩:=isC_form hc
  rw [← hn,← hl',Int.toNat_natCast]
  exact h.mdl.1.len _ (coll_mem hi))
 have ML:=Zh (m_list H sb FM r.s c w h.mdl)
 have HLC:Hid (listC r.s c=l):=Zh (by unfold listC; rw [if_pos hc]; exact hl')
 have HC:=Zh hc
 obtain ⟨c0,c10,c11,cf,cl⟩:=h.cells
 have HS:=Zh h
 have HN:=Zh hn
 have n100:=LL.out
 clear h hc hF hn hl' LL
 go_enter Tryz.func141,Tryz.ntmps141
 go_wp2_with fail
 refine ML.out.mono ?_
 rintro e w3 ⟨v,u,rfl,eu,ol,u3⟩
 rw [HC.out] at eu
 obtain rfl:u=.nilIface:=by
  rcases eu with h | h | ⟨g,_,_,h,_⟩
  ·exact h.1
  ·obtain ⟨_,⟨h,_⟩,_⟩:=h; simp at h
  ·simp at h
 rw [HLC.out] at ol
 have OL:=Zh ol
 have U3:=Zh u3
 obtain ⟨Al,cl',rfl,_,_⟩:=own_slice ol
 rw [HN.out] at OL ⊢
 have HS3:=Zh (HS.out.upd0 u3)
 clear eu ol u3 ML c0 c10 c11 cf cl HC
 obtain ⟨c0,c10,c11,cf,cl⟩:=HS3.out.cells
 have HB3:Hid (H≤w3.heap.size):=Zh (Nat.le_trans hH U3.out.size)
 go_wp2_with (at_builtin; refine stopped ?_)
 refine Zh ?_
 refine wpList_app _ (by rfl) (.tmp 25) (.tmp 28) _ (by rfl) elem_int vt _ (by rfl) (by rfl) (own_upd0 HS3.out.told ((Upd.refl [] w3).alloc _)) (.of_blk (Blk.new w3 3 #[.int .i64 n]) (m:=1) 1 rfl) (by intro u hu; simp at hu; subst hu; rfl) (by simp only [maxLen]; omega) (by omega) (Nat.le_trans HB3.out (by simp)) ?_
 intro v5 w5 o5 u5 b5
 obtain ⟨A5,c5,rfl,_,_⟩:=own_slice o5
 have R5:=Zh (HS3.out.push (news:=[(n:Int)]) (m:=1) ((Upd.refl [] w3).alloc (.cells #[.int .i64 n] 3)) o5 u5 b5 rfl (by omega))
 have B5:Hid (Blk w5 rb 185 (runC sb r.regs vt r.steps)):=Zh ((HS3.out.blk.alloc _).upd u5 (fun hm => HS3.out.tr rb (by simpa using hm) rfl))
 clear c0 c10 c11 cf cl
 have c10:w5.cell? ⟨rb,10,none⟩=some vt:=(B5.out.cell 10).trans (runC_told HS3.out.ok.regs)
 have cf:=B5.out.frozen
 have cl:=B5.out.lt
 clear o5 u5 b5 B5
 have L5:Hid (∃ F',Run H rb F' ks (w5.setCell ⟨rb,10,none⟩ (.slice A5 (r.told.length + 1) c5)) (tellL r n (l.take 0))∧Frm F F' w3 (w5.setCell ⟨rb,10,none⟩ (.slice A5 (r.told.length + 1) c5))):=Zh ⟨_,⟨sb,FM,_,rfl,R5.out.1⟩,by rw [← HFE.out]; exact R5.out.2⟩
 go_wp2_with fail
 generalize (w5.setCell ⟨rb,10,none⟩ (.slice A5 (r.told.length + 1) c5))=w6 at *
 clear c10 cf cl R5
 have HF:Hid (∀ k ∈ F,k < w.heap.size):=Zh (fun k hk => (HR.out.lt k hk).2)
 clear HS HS3 HFE
 go_loopw [34] (fun v wr => ∃ k:Nat,v=.int .i64 k∧k≤n∧Hid (∃ F',Run H rb F' ks wr (tellL r n (l.take k))∧Frm F F' w3 wr)) (fun v _ => n - (intOf v).toNat)
 case atStart => exact ⟨0,rfl,by omega,L5⟩
 case round =>
  obtain ⟨k,rfl,hk,HK⟩:=hrel
  by_cases hkn:k < n
  ·obtain ⟨x,hx⟩:∃ x,l[k]?=some x:=⟨_,List.getElem?_eq_getElem (by rw [HN.out]; exact hkn)⟩
   obtain ⟨F',hr,hf⟩:=HK.out
   have OLr:Hid (Ow encPr 157 wr w.heap.size (.slice Al n cl') l):=Zh (by
    exact OL.out.upd hf.upd (fun b hb hm => by have h1:=(own_lt OL.out hb).1; have h2:=HF.out b hm; omega))
   have HT:=Zh (take_snoc_ hx)
   obtain ⟨ad,eA,hlt,hcl⟩:=OLr.out.rd.at_ hx
   subst eA
   have e0:wr.cell? (ad.add (k * 2))=some (.int .i64 x.1):=hcl 0 _ rfl
   have e1:wr.cell? ⟨(ad.add (k * 2)).block,(ad.add (k * 2)).off + 1,none⟩=some (.int .i64 x.2):=by
    have:=hcl 1 _ rfl; rwa [show k * encPr.s + 1=k * 2 + (0 + 1) from rfl,add_more] at this
   obtain ⟨sb',FM',vt',rfl,hs⟩:=hr
   have HS:=Zh hs
   have HF':=Zh hf
   have q1:(0:Int)≤(k:Int):=by omega
   have q2:(k:Int) < (n:Int):=by omega
   obtain ⟨ρ,hρ⟩:∃ ρ,tellL r n (l.take k)=ρ:=⟨_,rfl⟩
   have HP:Hid (tellL r n (l.take (k + 1))={ ρ with told:=ρ.told ++ [x.1,x.2] }):=Zh (by rw [HT.out,tellL_snoc,hρ])
   have HLR:Hid (ρ.told.length + 2≤201 * 1000):=Zh (by
    rw [← hρ]
    unfold tellL
    simp only [List.length_append,List.length_cons,flatP_len,List.length_take,HN.out]
    omega)
   rw [hρ] at HS
   have HBr:Hid (H≤wr.heap.size):=Zh (Nat.le_trans HB3.out hf.upd.size)
   clear hx hcl hs hf hρ HK
   go_wp2_with fail
   have XB:Hid (Blk (wr.alloc (.cells #[.int .i64 x.1,.int .i64 x.2] 157)) wr.heap.size 157 #[.int .i64 x.1,.int .i64 x.2]):=Zh (Blk.new wr _ _)
   have UA:Hid (Upd [] wr (wr.alloc (.cells #[.int .i64 x.1,.int .i64 x.2] 157))):=Zh ((Upd.refl [] wr).alloc _)
   generalize (wr.alloc (.cells #[.int .i64 x.1,.int .i64 x.2] 157))=w7 at *
   have CS:Hid (∀ W,Upd [] w7.drew W→W.cell? ⟨wr.heap.size,0,none⟩=some (.int .i64 x.1)∧W.cell? ⟨wr.heap.size,1,none⟩=some (.int .i64 x.2)∧W.cell? ⟨rb,10,none⟩=some vt'):=Zh (fun W hW => by
    have hu:=(Upd.refl [] w7).drew.trans hW
    exact ⟨(XB.out.upd hu (by simp)).cell 0,(XB.out.upd hu (by simp)).cell 1,((HS.out.upd0 UA.out).upd0 hu).cells.2.1⟩)
   clear e0 e1
   refine wp_invNT 10 [(9,.lit 3 #[.int .i64 x.1,.int .i64 x.2] 2)] [] (by kernel_rfl) (by simp) (by kernel_rfl) (by kernel_rfl) ⟨lasts_lit _ _ _,trivial⟩ ?_
   simp only [List.take_succ_cons,List.take_zero,List.drop_succ_cons,List.drop_zero]
   iterate 9 (
    with_reducible apply wpV_light
    ·simp only [lightOp]
    ·intro W hU hF
     have f0:=CS.out W hU
     clear hU hF
     go_simp
     exact rfl
    simp only [aP])
   refine wpV_heavy (by simp only [lightOp]) (by rfl) (fun W hU hk hF K hK => ?_) ?_
   ·go_wp2_with fail
    exact wpV_lit hK rfl rfl rfl
   rintro _ ⟨g',rfl⟩
   simp only [aP]
   refine wpV_end (fun W hU _ hF => ?_)
   have U6:Hid (Upd [] wr W):=Zh (UA.out.trans ((Upd.refl [] w7).drew.trans hU))
   have LT:Hid (Blk W g' 3 #[.int .i64 x.1,.int .i64 x.2]):=Zh (by
    obtain ⟨g2,he,hb⟩:=hF.out.1 (by kernel_rfl)
    injection he with he _ _
    injection he with he
    injection he with he
    subst he
    exact hb)
   clear hU hF
   refine wpT_op (by rfl) (fun K hK => ?_)
   refine wp_app W (.tmp 42) (.tmp 47) _ (by rfl) elem_int vt' _ (by rfl) (by rfl) (own_upd0 HS.out.told U6.out) (.of_blk LT.out (m:=2) 2 rfl) (by intro u hu; simp at hu; rcases hu with rfl | rfl <;> rfl) (by have:=HLR.out; simp only [maxLen]; omega) (by have:=HLR.out; omega) (Nat.le_trans HBr.out U6.out.size) ?_
   intro v8 w8 o8 u8 b8
   obtain ⟨A8,c8,rfl,_,_⟩:=own_slice o8
   have R8:=Zh (HS.out.push (news:=[x.1,x.2]) (m:=2) U6.out o8 u8 b8 rfl HLR.out)
   have B8:Hid (Blk w8 rb 185 (runC sb' ρ.regs vt' ρ.steps)):=Zh ((HS.out.blk.upd U6.out (by simp)).upd u8 (fun hm => HS.out.tr rb (by simpa using hm) rfl))
   refine hK.out _ _ ?_
   clear hK K o8 u8 b8
   simp only [aP]
   have f0:w8.cell? ⟨rb,10,none⟩=some vt':=(B8.out.cell 10).trans (runC_told HS.out.ok.regs)
   have f1:=B8.out.frozen
   have f2:=B8.out.lt
   iterate 3 (
    refine wpT_op (by rfl) (fun K hK => ?_)
    go_wp2_with fail
    refine hK.out _ _ ?_
    clear hK K
    try simp only [aP])
   refine wpT_end ?_
   clear f0 f1 f2
   go_wp2_with fail
   go_roundw
   case rel => exact ⟨k + 1,by go_num,by omega,Zh ⟨_,by rw [HP.out]; exact ⟨sb',FM',_,rfl,R8.out.1⟩,HF'.out.trans R8.out.2⟩⟩
   case measure => simp [intOf]; omega
  ·obtain rfl:k=n:=by omega
   obtain ⟨F',hr,hf⟩:=HK.out
   rw [List.take_of_length_le (by rw [HN.out]; exact Nat.le_refl _)] at hr
   have HQ:=Zh hr
   have HG:=Zh hf
   clear hr hf
   go_wp2_with fail
   go_ret
   exact ⟨rfl,F',HQ.out,HG.out.pre U3.out⟩
theorem list_ok {H rb:Nat} {F:List Nat} {ks:List Int} {r:RS} (c:Int) (w:World) (h:Run H rb F ks w r) (hc:isC r.s c=true) (hH:H≤w.heap.size) (hl:r.told.length + 201≤201 * 1000) :
 Calls Tryz.prog 141 #[.pointer (some ⟨rb,0,none⟩),.int .i64 c] w fun e w' => e=.returned .nilIface∧RunPost H rb F ks (tellL r (coll r.s c.toNat).length (coll r.s c.toNat)) w w':=list_ok' c w h hc hH hl _ _ rfl rfl
end Go.Proofs.YtmjnmpifibemjaaGreatDoor.Ev

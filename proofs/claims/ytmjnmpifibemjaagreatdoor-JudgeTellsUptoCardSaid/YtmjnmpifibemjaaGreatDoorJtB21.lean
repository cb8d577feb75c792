/-
 concordref24.Seen.
-/
import Derived.Test.YtmjnmpifibemjaaGreatDoorJtB20
import Derived.Test.YtmjnmpifibemjaaGreatDoorJtB17
import Derived.BigQuiet
import Derived.Deep.QuietTactic
import Derived.Test.YtmjnmpifibemjaaGreatDoorJtB10
import Derived.Test.YtmjnmpifibemjaaGreatDoorJtB12
import Derived.Test.YtmjnmpifibemjaaGreatDoorJtB14
import Derived.Test.YtmjnmpifibemjaaGreatDoorRows
import Derived.Test.YtmjnmpifibemjaaGreatDoorJtB2
import Derived.Test.YtmjnmpifibemjaaGreatDoorJtB4
import Derived.LaidMore
import Derived.LaidHandle
import Derived.Stop.Joined
set_option linter.unusedVariables false
set_option linter.unusedSimpArgs false
set_option maxRecDepth 100000
set_option maxHeartbeats 16000000
namespace Go.Proofs.YtmjnmpifibemjaaGreatDoor.Rt
open Go.RowKit St Jd Ev Rv
attribute [local go_sem] litStep_value
theorem seen_r (p:Pn) (kv tv:Value) (A:Option Addr) (n c:Nat) (M:List En) (v:Value) (fp:List Nat) (B:Nat) (m:En) (l:List Stm) (w:World) (hb:Base w p kv tv M) (hr:Rd encE w (.slice A n c) M) (hn:M.length=n) (h40:n≤40) (hf:FitP p) (hz:SzP p)
 (d:List Ed) (hd:d=edsW w M) (hs:StsR B w v (stsN p d d.length) fp) (hm:EnOk w m) (h3k:m.tn≤300000) (hx:txnR p (attE m)=some l) :
 Calls Tryz.prog 37 #[planC p kv tv,.slice A n c,v,.agg (enCells m).toArray] w fun e w' => e=.returned (.bool (seenR p d (edW w m)))∧Upd [] w w':=by
 obtain ⟨Ak,ck,hkv⟩:∃ A c,kv=.slice A p.ks.length c:=by obtain ⟨_,A,c,e,_⟩:=hb.plan.ks; exact ⟨A,c,e⟩
 obtain ⟨nk,hnk⟩:∃ k,k=p.ks.length:=⟨_,rfl⟩
 obtain ⟨nt,hnt⟩:∃ k,k=p.ths.length:=⟨_,rfl⟩
 have hdl:d.length=n:=by rw [hd,← hn]; simp [edsW]
 obtain ⟨ti,tj,nj,cj,ct,a0,a1,u,t1,t2,t3,t4,t5,t6,t7,t8⟩:=plan_at hb.plan hx
 rw [← hnt] at t3 t6
 rw [← hnk] at hkv
 subst hkv t6
 obtain ⟨th,ix,st,wr,be,en,kd,er,ta,tn,tc⟩:=m
 obtain rfl:th=ti:=t1
 obtain rfl:ix=tj:=t2
 obtain ⟨Av,cv,rfl,_,_⟩:=own_slice hs.own
 obtain ⟨gv,cv2,cur,e1,_⟩:=own_form hs.own (by rw [stsN_len]; omega)
 injection e1 with e1 _ e1'
 subst e1 e1'
 obtain ⟨b0,hb0⟩:∃ b0,b0=wth (attsR d) be:=⟨_,rfl⟩
 have hbe:(b0:Int)≤n:=by
  have:=wthK_le (attsR d) (srt (ahd (attsR d)) (List.range (attsR d).length)) be (attsR d).length
  have hl:(attsR d).length=n:=by rw [← hdl]; simp [attsR]
  unfold wth at hb0
  omega
 obtain ⟨M0,hM0⟩:∃ M0,M0=(⟨ti,tj,st,wr,be,en,kd,er,ta,tn,tc⟩:En):=⟨_,rfl⟩
 obtain ⟨rr,hrr⟩:∃ r,seenR p d (edW w ⟨ti,tj,st,wr,be,en,kd,er,ta,tn,tc⟩)=r:=⟨_,rfl⟩
 rw [hrr]
 rw [← hM0] at hm hx hrr
 have HRR:=Zh hrr
 clear hrr
 have HB:=Zh hb
 have HR:=Zh hr
 have HF:=Zh (And.intro hf hz)
 have HD:=Zh hd
 have HM0:Hid (M0.kd=kd∧M0.ta=ta∧M0.tn=tn∧M0.tc=tc∧tn≤300000∧M0.be=be∧(edW w M0).a.be=be):=Zh ⟨by rw [hM0],by rw [hM0],by rw [hM0],by rw [hM0],h3k,by rw [hM0],by rw [hM0]; rfl⟩
 have HEM:=Zh hm
 have HS:=Zh hs
 have HX:=Zh hx
 have HN:Hid (M.length=n∧n≤40∧d.length=n∧nk=p.ks.length∧nt=p.ths.length):=Zh ⟨hn,h40,hdl,hnk,hnt⟩
 have HB0:Hid (b0=wth (attsR d) be):=Zh hb0
 have hn40:(n:Int)≤40:=by omega
 have htn:(tn:Int)≤300000:=by simp only at h3k; omega
 have sl:(stsN p d d.length).length=n + 1:=by rw [stsN_len,hdl]
 have HT7:=Zh t7
 have HST:=Zh t8
 have ti1:(ti:Int) < nt:=by omega
 have tj1:(tj:Int) < nj:=by omega
 have nj1:(nj:Int)≤100:=by obtain ⟨ts,h1,h2⟩:=t5; have:=hf.tx20 ts h1; omega
 have nt1:(nt:Int)≤100:=by have:=hf.th6; omega
 obtain ⟨w1,hw1⟩:∃ w1,w1=((w.alloc (.cells #[.int .i64 p.words,.int .i64 p.pat,.slice Ak nk ck,.slice (some a0) nt ct] 25)).alloc (.cells #[.int .i64 ti,.int .i64 tj,.int .i64 st,.bool wr,.int .i64 be,.int .i64 en,.int .i64 kd,.slice ta tn tc,.int .i64 er] 42)):=⟨_,rfl⟩
 have U1:Hid (Upd [] w w1):=Zh (by rw [hw1]; exact ((Upd.refl _ _).alloc _).alloc _)
 have X1:Hid (Blk w1 w.heap.size 25 #[.int .i64 p.words,.int .i64 p.pat,.slice Ak nk ck,.slice (some a0) nt ct]∧Blk w1 (w.heap.size + 1) 42 #[.int .i64 ti,.int .i64 tj,.int .i64 st,.bool wr,.int .i64 be,.int .i64 en,.int .i64 kd,.slice ta tn tc,.int .i64 er]):=Zh (by rw [hw1]; exact ⟨(Blk.new _ _ _).alloc _,Blk.newAt _ _ (by simp)⟩)
 obtain ⟨pb,hpb⟩:∃ x,x=w.heap.size:=⟨_,rfl⟩
 obtain ⟨xb,hxb⟩:∃ x,x=pb + 1:=⟨_,rfl⟩
 rw [← hpb,← hxb] at X1
 clear hb hr hf hz hd hm hx hn h40 hdl hnk hnt hs t3 t4 t5 t7 t8 hM0 h3k hb0
 rw [sl]
 simp only [enCells]
 go_enter Tryz.func37,Tryz.ntmps37
 go_wp2_with fail
 rw [← hw1,← hpb,← hxb]
 clear hw1 hpb hxb
 have CS:Hid (∀ W,Upd [] w1.drew W→W.cell? ⟨xb,4,none⟩=some (.int .i64 be)):=Zh (fun W hW => (X1.out.2.upd ((Upd.refl [] w1).drew.trans hW) (by simp)).cell 4)
 refine wp_invN [(1,.own w.heap.size 39 6 n (flat encA (M.map attE))),(5,.det (.int .i64 b0))] [] (by kernel_rfl) (by kernel_rfl) (by kernel_rfl) ⟨lasts_own _ _ _ _ _ (by have:=HN.out; unfold maxLen; omega),lasts_det _,trivial⟩ ?_
 with_reducible apply wpV_light
 ·simp only [lightOp]
 ·intro W hU hF
  have f0:=CS.out W hU
  clear hU hF
  go_simp
  exact rfl
 simp only [aP]
 refine wpV_heavy (by simp only [lightOp]) (by rfl) (fun W hU hk hF K hK => ?_) ?_
 ·go_wp2_with fail
  have hu:Upd [] w W:=U1.out.trans ((Upd.refl [] w1).drew.trans hU)
  refine (attempts_r A n c M W (HR.out.upd0 hu) HN.out.1 (by have:=HN.out; omega)).mono ?_
  rintro e w2 ⟨v2,rfl,o2,u2⟩
  go_wp2_with fail
  refine hK.out _ _ (outV_new rfl ?_ ?_ u2)
  ·have o3:w2.ownsRow w.heap.size 39 6 v2 n (flat encA (M.map attE)):=own_base (by have:=o2; unfold Ow at this; rw [List.length_map,HN.out.1] at this; exact this) hu.size
   exact o3
  ·intro b hb
   have hb1:b ∈ v2.ownBlock.toList:=hb
   have hb2:v2.ownBlock=some b:=by simpa using hb1
   exact own_lt o2 hb2
 rintro _ ⟨A2,c2,rfl,_,_⟩
 simp only [aP]
 iterate 3 (
  with_reducible apply wpV_light
  ·simp only [lightOp]
  ·intro W hU hF
   have f0:=CS.out W hU
   clear hU hF
   go_simp
   exact rfl
  simp only [aP])
 refine wpV_heavy (by simp only [lightOp]) (by rfl) (fun W hU hk hF K hK => ?_) ?_
 ·go_wp2_with fail
  have o2:W.ownsRow w.heap.size 39 6 (.slice A2 n c2) n (flat encA (M.map attE)):=hF.out.1 (by kernel_rfl)
  have hr:Rd encA W (.slice A2 n c2) (attsR d):=by
   rw [HD.out,attsR_edsW]
   have:=Src.of_own o2
   unfold Rd
   rw [List.length_map,HN.out.1]
   exact this
  refine (rwithin_ok A2 n c2 (attsR d) be W (atts_rd hr) (by have:=HN.out; simp [attsR]; omega) (by have:=HN.out; omega)).mono ?_
  rintro e w3 ⟨rfl,u3⟩
  rw [← HB0.out]
  go_wp2_with fail
  exact hK.out _ _ (outV_new rfl rfl (by intro b hb; cases hb) u3)
 rintro _ rfl
 simp only [aP]
 with_reducible apply wpV_light
 ·simp only [lightOp]
 ·intro W hU hF
  have f0:=CS.out W hU
  clear hU hF
  go_simp
  exact rfl
 simp only [aP]
 refine wpV_end (fun W hU _ _ => ?_)
 have UW:Hid (Upd [] w1 W):=Zh ((Upd.refl [] w1).drew.trans hU)
 clear hU
 refine wpT_end ?_
 go_wp2_with fail
 go_loopw [9] (fun u9 wr => ∃ k:Nat,u9=.int .i64 k∧k≤n + 1∧b0≤k∧Hid (Upd [] w1 wr)∧Hid (∀ i,b0≤i→i < k→toldB p (edW w M0) (stN p (seqR d) i)=false)) (fun u _ => n + 1 - (intOf u).toNat)
 case atStart => exact ⟨b0,rfl,by omega,Nat.le_refl _,UW,Zh (fun i h1 h2 => by omega)⟩
 case round =>
  obtain ⟨k,rfl,hk,hbk,UR,KR⟩:=hrel
  rename World => wr1
  by_cases hlt:k≤n
  ·have hki:(k:Int) < n + 1:=by omega
   have HK:=Zh (And.intro hlt hbk)
   obtain ⟨q,hq⟩:∃ q,fp[k]?=some q:=⟨_,List.getElem?_eq_getElem (by rw [HS.out.len,sl]; omega)⟩
   have HQ:=Zh hq
   clear hk hlt hbk hq
   go_wp2_with fail
   have CS2:Hid (∀ W,Upd [] wr1.drew W→W.cell? ⟨pb,3,none⟩=some (.slice (some a0) nt ct)∧W.cell? ⟨xb,0,none⟩=some (.int .i64 ti)∧W.cell? ⟨xb,1,none⟩=some (.int .i64 tj)∧W.cell? (a0.add ti)=some (.slice (some a1) nj cj)∧W.cell? (a1.add tj)=some u∧W.cell? ⟨gv,k,none⟩=some (.pointer (some ⟨q,0,none⟩))):=Zh (fun W hW => by
    have h1:Upd [] w1 W:=UR.out.trans ((Upd.refl [] wr1).drew.trans hW)
    have h2:=X1.out.2.upd h1 (by simp)
    have h3:=HT7.out W (U1.out.trans h1)
    exact ⟨(X1.out.1.upd h1 (by simp)).cell 3,h2.cell 0,h2.cell 1,h3.1,h3.2,own_cell (own_upd0 HS.out.own (U1.out.trans h1)) k _ (by rw [List.getElem?_map,HQ.out]; rfl)⟩)
   have SK:Hid (StOk p (stN p (seqR d) k)∧RSt q w (stN p (seqR d) k)):=Zh ⟨st_n p _ k,HS.out.st k q _ HQ.out (by unfold stsN; rw [List.getElem?_map,List.getElem?_range (by have:=HN.out.2.2.1; have:=HK.out.1; omega)]; rfl)⟩
   obtain ⟨sk,hsk⟩:∃ sk,sk=stN p (seqR d) k:=⟨_,rfl⟩
   have HSK:=Zh hsk
   rw [← hsk] at SK
   clear hsk
   obtain ⟨en1,hen⟩:∃ en,en=endE sk l:=⟨_,rfl⟩
   obtain ⟨tl,htl⟩:∃ tl,tl=toldE sk l:=⟨_,rfl⟩
   obtain ⟨tk,htk⟩:∃ tk,tk=tl.length:=⟨_,rfl⟩
   have ETO:Hid (txnO p (edW w M0)=l):=Zh (by show (txnR p (attE M0)).getD []=l; rw [HX.out]; rfl)
   have HE:Hid (toldB p (edW w M0) sk=(en1 == kd && tl == tlW w M0)):=Zh (by unfold toldB; rw [ETO.out,← hen,← htl]; show (_ == M0.kd && _)=_; rw [HM0.out.1]; rfl)
   have HEQ:Hid (endE sk l=en1∧toldE sk l=tl∧tl.length=tk):=Zh ⟨hen.symm,htl.symm,htk.symm⟩
   clear hen htl htk
   have HC:Hid (∀ W,Upd [] wr1.drew W→Calls Tryz.prog 9 #[.pointer (some ⟨q,0,none⟩),u] W (DoG sk l W)):=Zh (fun W hW => by
    have hu:Upd [] w W:=(U1.out.trans UR.out).trans ((Upd.refl [] wr1).drew.trans hW)
    exact do_ok q sk l u W (SK.out.2.upd0 hu) ((HST.out.belowW (hu.below (Nat.le_refl _) (by simp))).more hu.size) (txn_size HF.out.2 HX.out) SK.out.1.1 (by rw [SK.out.1.2]; exact txn_right HF.out.1 HX.out))
   go_region_held3 (fun W => W.cell? ⟨pb,3,none⟩=some (.slice (some a0) nt ct)∧W.cell? ⟨xb,0,none⟩=some (.int .i64 ti)∧W.cell? ⟨xb,1,none⟩=some (.int .i64 tj)∧W.cell? (a0.add ti)=some (.slice (some a1) nj cj)∧W.cell? (a1.add tj)=some u∧W.cell? ⟨gv,k,none⟩=some (.pointer (some ⟨q,0,none⟩))) (first | exact CS2.out _ (.refl _ _) | exact CS2.out _ ((Upd.refl _ _).alloc _) | exact CS2.out _ ux | exact CS2.out _ (ux.alloc _) | exact CS2.out _ ((ux.setCell (.inr (by simp)) _).setCell (.inr (by simp)) _)) (first
    | (go_at_call 9
       refine (HC.out _ (by first | exact .refl _ _ | exact (Upd.refl _ _).alloc _)).mono ?_
       rintro e wx ⟨nb,v,rfl,ux0,lx,ox,sx⟩
       have ux:Upd [] wr1.drew wx:=by first | exact ux0 | exact ((Upd.refl _ _).alloc _).trans ux0
       try (have YB:=Zh ((Blk.newAt (W:=wr1.drew) (H:=wr1.heap.size) 34 #[.int .i64 0,.slice none 0 0] (by simp)).upd ux0 (by simp)))
       try (have yb:=((Blk.newAt (W:=wr1.drew) (H:=wr1.heap.size) 34 #[.int .i64 0,.slice none 0 0] (by simp)).upd ux0 (by simp)).facts)
       rw [HEQ.out.2.1,HEQ.out.2.2] at ox
       rw [HEQ.out.1]
       obtain ⟨Ax,cx,rfl,_,_⟩:=own_slice ox
       have OX:=Zh ox
       have LX:Hid (tk≤201000):=Zh (by rw [← HEQ.out.2.2,← HEQ.out.2.1]; exact lx)
       clear ox sx lx ux0))
   all_goals
    first
    | (have Y9:Hid (Blk ((wx.setCell ⟨wr1.heap.size,0,none⟩ (.int .i64 en1)).setCell ⟨wr1.heap.size,1,none⟩ (.slice Ax tk cx)) wr1.heap.size 34 #[.int .i64 en1,.slice Ax tk cx]∧Upd [wr1.heap.size] wx ((wx.setCell ⟨wr1.heap.size,0,none⟩ (.int .i64 en1)).setCell ⟨wr1.heap.size,1,none⟩ (.slice Ax tk cx))∧Upd [] wr1.drew ((wx.setCell ⟨wr1.heap.size,0,none⟩ (.int .i64 en1)).setCell ⟨wr1.heap.size,1,none⟩ (.slice Ax tk cx))):=Zh ⟨(YB.out.set_eq (i:=0) rfl).set_eq (i:=1) rfl,((Upd.refl _ _).setCell (.inl (by simp)) _).setCell (.inl (by simp)) _,(ux.setCell (.inr (by simp)) _).setCell (.inr (by simp)) _⟩
       have OD:∀ k ∈ [wr1.heap.size],Odd wx k:=fun k hk => by simp at hk; subst hk; exact ⟨_,_,YB.out,by decide,by decide,by decide⟩
       have OX9:=Zh (own_odd OX.out (.inl rfl) Y9.out.2.1 OD)
       clear yb OD
       generalize ((wx.setCell ⟨wr1.heap.size,0,none⟩ (.int .i64 en1)).setCell ⟨wr1.heap.size,1,none⟩ (.slice Ax tk cx))=W9 at Y9 OX9 ⊢
       generalize wr1.heap.size=g at Y9 ⊢)
    | (have Y9:Hid (Blk (wx.alloc (.cells #[.int .i64 en1,.slice Ax tk cx] 34)) wx.heap.size 34 #[.int .i64 en1,.slice Ax tk cx]∧Upd [] wx (wx.alloc (.cells #[.int .i64 en1,.slice Ax tk cx] 34))∧Upd [] wr1.drew (wx.alloc (.cells #[.int .i64 en1,.slice Ax tk cx] 34))):=Zh ⟨Blk.new _ _ _,(Upd.refl _ _).alloc _,ux.alloc _⟩
       have OX9:=Zh (own_upd0 OX.out Y9.out.2.1)
       generalize (wx.alloc (.cells #[.int .i64 en1,.slice Ax tk cx] 34))=W9 at Y9 OX9 ⊢
       generalize wx.heap.size=g at Y9 ⊢)
    have U9:Hid (Upd [] w1 W9):=Zh (UR.out.trans ((Upd.refl [] wr1).drew.trans Y9.out.2.2))
    have x9:=(X1.out.2.upd U9.out (by simp)).facts
    have y9:=Y9.out.1.facts
    clear ux
    by_cases h1:en1=kd
    ·have e1:(en1 == kd)=true:=by simpa using h1
     have E1:=Zh e1
     clear h1
     go_wp2_with fail
     have em:=HEM.out.upd0 (U1.out.trans U9.out)
     have eS:Src W9 1 (.slice ta tn tc) tn ((tlW w M0).map (Value.int .i64)):=by
      have h:=em.1
      unfold EnOk at h
      rw [em.2,HM0.out.2.1,HM0.out.2.2.1,HM0.out.2.2.2.1] at h
      exact h
     refine (ints_src ta Ax tn tc tk cx (tlW w M0) tl W9 eS (by have:=Src.of_own OX9.out; exact this) (by have:=HM0.out.2.2.2.2.1; omega) (by have:=LX.out; omega)).mono ?_
     rintro e w10 ⟨rfl,u10⟩
     have U10:=Zh (U9.out.trans u10)
     clear em eS u10 x9 y9
     by_cases h2:tlW w M0=tl
     ·have d2:decide (tlW w M0=tl)=true:=by simpa using h2
      have HSE:Hid (seenR p d (edW w M0)=true):=Zh (seen_yes (by rw [HN.out.2.2.1]; exact HK.out.1) (by rw [HM0.out.2.2.2.2.2.2,← HB0.out]; exact HK.out.2) (by rw [← HSK.out,HE.out,E1.out,h2]; simp))
      rw [d2]
      clear d2 h2
      go_wp2_with fail
      go_ret
      rw [← HRR.out,HSE.out]
      exact ⟨rfl,U1.out.trans U10.out⟩
     ·have d2:decide (tlW w M0=tl)=false:=by simpa using h2
      have KR2:Hid (∀ i,b0≤i→i < k + 1→toldB p (edW w M0) (stN p (seqR d) i)=false):=Zh (fun i h3 h4 => by
       by_cases e:i=k
       ·rw [e,← HSK.out,HE.out,E1.out]; simpa using fun e => h2 e.symm
       ·exact KR.out i h3 (by omega))
      rw [d2]
      clear d2 h2
      go_wp2_with fail
      go_round
      case rel => exact ⟨k + 1,by simp,by have:=HK.out; omega,by have:=HK.out; omega,U10,KR2⟩
      case measure => have:=HK.out; simp [intOf]; omega
    ·have e1:(en1 == kd)=false:=by simpa using h1
     have KR2:Hid (∀ i,b0≤i→i < k + 1→toldB p (edW w M0) (stN p (seqR d) i)=false):=Zh (fun i h3 h4 => by
      by_cases e:i=k
      ·rw [e,← HSK.out,HE.out,e1]; rfl
      ·exact KR.out i h3 (by omega))
     clear h1
     go_wp2_with fail
     go_round
     case rel => exact ⟨k + 1,by simp,by have:=HK.out; omega,by have:=HK.out; omega,U9,KR2⟩
     case measure => have:=HK.out; simp [intOf]; omega
  ·have hki:¬ (k:Int) < n + 1:=by omega
   have HSE:Hid (seenR p d (edW w M0)=false):=Zh (seen_no (fun i h1 h2 => by
    have h3:=KR.out i (by rw [HB0.out]; rw [HM0.out.2.2.2.2.2.2] at h1; exact h1) (by have:=HN.out.2.2.1; omega)
    exact h3))
   go_wp2_with fail
   go_ret
   rw [← HRR.out,HSE.out]
   exact ⟨rfl,U1.out.trans UR.out⟩
end Go.Proofs.YtmjnmpifibemjaaGreatDoor.Rt
namespace Go.Proofs.YtmjnmpifibemjaaGreatDoor.Rt
open Go.RowKit St Jd Ev Rv
attribute [local go_sem] litStep_value
theorem en_at {w:World} {A:Option Addr} {n c i:Nat} {M:List En} {m:En} (h:Rd encE w (.slice A n c) M) (hm:M[i]?=some m) :
 ∃ ad,A=some ad∧∀ W,Upd [] w W→(ad.add (i * 9)).block < W.heap.size∧∀ j u,(encE.c m)[j]?=some u→W.cell? (ad.add (i * 9 + j))=some u:=by
 obtain ⟨ad,hA,hl,hc⟩:=h.at_ hm
 refine ⟨ad,hA,fun W hW => ⟨by rw [block_add]; exact Nat.lt_of_lt_of_le hl hW.size,fun j u hu => ?_⟩⟩
 exact ((hW.below (Nat.le_refl _) (by simp)).cell (by rw [block_add]; exact hl)).trans (hc j u hu)
theorem split_at {α:Type} {M:List α} {i:Nat} {m:α} (h:M[i]?=some m):M=M.take i ++ m :: M.drop (i + 1):=by
 have hk:=(List.getElem?_eq_some_iff.1 h).1
 have hx:=(List.getElem?_eq_some_iff.1 h).2
 rw [← hx,← List.drop_eq_getElem_cons hk,List.take_append_drop]
theorem jr_lost {p:Pn} {w:World} {M:List En} {i:Nat} {m:En} (h:∀ j,j < (edsW w M).length→(txnR p ((edsW w M).getD j default).a).isNone=false) (hc:(chkR (attsR (doneR (edsW w M)))).1=0) (hr:repR p (doneR (edsW w M))=none) (hm:M[i]?=some m) (hn:dnE m=false)
 (hb:∀ x ∈ (M.take i).filter (fun m => !dnE m),lostR p (doneR (edsW w M)) (edW w x)=false) (hl:lostR p (doneR (edsW w M)) (edW w m)=true):judgeR p (edsW w M)=(5,(((M.take i).filter (fun m => !dnE m)).length:Int) + 1):=by
 have e1:M.filter (fun m => !dnE m)=(M.take i).filter (fun m => !dnE m) ++ m :: (M.drop (i + 1)).filter (fun m => !dnE m):=by
  conv => lhs; rw [split_at hm]
  rw [List.filter_append,List.filter_cons,if_pos (by rw [hn]; rfl)]
 rw [jr_end h hc hr]
 have e2:(List.range (otherR (edsW w M)).length).find? (fun i => lostR p (doneR (edsW w M)) ((otherR (edsW w M)).getD i default))=some ((M.take i).filter (fun m => !dnE m)).length:=by
  rw [List.find?_range_eq_some,other_eds]
  refine ⟨?_,?_,fun j hj => ?_⟩
  ·rw [eds_getD (m:=m) (by rw [e1,List.getElem?_append_right (Nat.le_refl _),Nat.sub_self]; rfl)]
   exact hl
  ·simp only [List.mem_range,edsW,List.length_map,e1,List.length_append,List.length_cons]; omega
  ·have hx:((M.take i).filter (fun m => !dnE m))[j]?=some (((M.take i).filter (fun m => !dnE m))[j]):=List.getElem?_eq_getElem hj
   rw [eds_getD (m:=((M.take i).filter (fun m => !dnE m))[j]) (by rw [e1,List.getElem?_append_left hj]; exact hx)]
   rw [hb _ (List.getElem_mem hj)]
   rfl
 rw [e2]
theorem jr_fine {p:Pn} {w:World} {M:List En} (h:∀ j,j < (edsW w M).length→(txnR p ((edsW w M).getD j default).a).isNone=false) (hc:(chkR (attsR (doneR (edsW w M)))).1=0) (hr:repR p (doneR (edsW w M))=none) (hb:∀ x ∈ M.filter (fun m => !dnE m),lostR p (doneR (edsW w M)) (edW w x)=false):judgeR p (edsW w M)=(0,0):=by
 rw [jr_end h hc hr]
 have e2:(List.range (otherR (edsW w M)).length).find? (fun i => lostR p (doneR (edsW w M)) ((otherR (edsW w M)).getD i default))=none:=by
  rw [Jd.find_none,other_eds]
  intro j hj
  have hj':j < (M.filter (fun m => !dnE m)).length:=by simpa [edsW] using hj
  rw [eds_getD (List.getElem?_eq_getElem hj')]
  exact hb _ (List.getElem_mem hj')
 rw [e2]
theorem judge_r (p:Pn) (kv tv:Value) (A:Option Addr) (n c:Nat) (M:List En) (w:World) (hb:Base w p kv tv M) (hr:Rd encE w (.slice A n c) M) (hn:M.length=n) (h40:n≤40) (hf:FitP p) (hz:SzP p) (htn:∀ m ∈ M,m.tn≤300000) :
 Calls Tryz.prog 13 #[planC p kv tv,.slice A n c] w fun e w' => e=.returned (.tuple #[.int .i64 (judgeR p (edsW w M)).1,.int .i64 (judgeR p (edsW w M)).2])∧Upd [] w w':=by
 obtain ⟨Ak,ck,hkv⟩:∃ A c,kv=.slice A p.ks.length c:=by obtain ⟨_,A,c,e,_⟩:=hb.plan.ks; exact ⟨A,c,e⟩
 obtain ⟨At,ct,htv⟩:∃ A c,tv=.slice A p.ths.length c:=by obtain ⟨vs,⟨_,A,c,e,_⟩,_⟩:=hb.plan.ths; exact ⟨A,c,e⟩
 obtain ⟨nk,hnk⟩:∃ k,k=p.ks.length:=⟨_,rfl⟩
 obtain ⟨nt,hnt⟩:∃ k,k=p.ths.length:=⟨_,rfl⟩
 rw [← hnk] at hkv
 rw [← hnt] at htv
 subst hkv htv
 have HB:=Zh hb
 have HR:=Zh hr
 have HF:=Zh (And.intro hf hz)
 have HTN:=Zh htn
 have HN:Hid (M.length=n∧n≤40):=Zh ⟨hn,h40⟩
 have hn40:(n:Int)≤40:=by omega
 have H100:Hid (p.ths.length≤100∧∀ t ∈ p.ths,t.length≤100):=Zh ⟨by have:=hf.th6; omega,fun t ht => by have:=hf.tx20 t ht; omega⟩
 obtain ⟨L,hL⟩:∃ L,L=edsW w M:=⟨_,rfl⟩
 have HL:Hid (L=edsW w M∧L.length=n):=Zh ⟨hL,by rw [hL]; simp [edsW]; exact hn⟩
 rw [← hL]
 obtain ⟨w1,hw1⟩:∃ w1,w1=w.alloc (.cells #[.int .i64 p.words,.int .i64 p.pat,.slice Ak nk ck,.slice At nt ct] 25):=⟨_,rfl⟩
 have U1:Hid (Upd [] w w1):=Zh (by rw [hw1]; exact (Upd.refl _ _).alloc _)
 have X1:Hid (Blk w1 w.heap.size 25 #[.int .i64 p.words,.int .i64 p.pat,.slice Ak nk ck,.slice At nt ct]):=Zh (by rw [hw1]; exact Blk.new _ _ _)
 obtain ⟨pb,hpb⟩:∃ x,x=w.heap.size:=⟨_,rfl⟩
 rw [← hpb] at X1
 clear hb hr hf hz htn hn h40 hnk hnt hL
 go_enter Tryz.func13,Tryz.ntmps13
 go_wp2_with fail
 rw [← hw1,← hpb]
 clear hw1 hpb
 go_loopw [6] (fun u6 wr => ∃ i:Nat,u6=.int .i64 i∧i≤n∧Hid (Upd [] w1 wr∧∀ j,j < i→(txnR p (L.getD j default).a).isNone=false)) (fun u _ => n - (intOf u).toNat)
 case atStart => exact ⟨0,rfl,by omega,Zh ⟨.refl _ _,fun j hj => by omega⟩⟩
 case round =>
  obtain ⟨i,rfl,hi,KX⟩:=hrel
  rename World => wr
  by_cases hlt:i < n
  ·have hii:(i:Int) < n:=by omega
   obtain ⟨m,hmm⟩:∃ m,M[i]?=some m:=⟨_,List.getElem?_eq_getElem (by rw [HN.out.1]; exact hlt)⟩
   obtain ⟨ad,hA,hat⟩:=en_at (HR.out.upd0 (U1.out.trans KX.out.1)) hmm
   have HMM:Hid (M[i]?=some m∧i < n):=Zh ⟨hmm,hlt⟩
   have AT:=Zh hat
   have CS:Hid (∀ W,Upd [] wr.drew W→(∀ j,W.cell? ⟨pb,j,none⟩=#[.int .i64 p.words,.int .i64 p.pat,.slice Ak nk ck,.slice At nt ct][j]?)∧(W.cell? (ad.add (i * 9))=some (.int .i64 m.th)∧W.cell? ⟨(ad.add (i * 9)).block,(ad.add (i * 9)).off + 1,none⟩=some (.int .i64 m.ix)∧W.cell? ⟨(ad.add (i * 9)).block,(ad.add (i * 9)).off + 2,none⟩=some (.int .i64 m.st) ∧
   W.cell? ⟨(ad.add (i * 9)).block,(ad.add (i * 9)).off + 3,none⟩=some (.bool m.wr)∧W.cell? ⟨(ad.add (i * 9)).block,(ad.add (i * 9)).off + 4,none⟩=some (.int .i64 m.be)∧W.cell? ⟨(ad.add (i * 9)).block,(ad.add (i * 9)).off + 5,none⟩=some (.int .i64 m.en) ∧
   W.cell? ⟨(ad.add (i * 9)).block,(ad.add (i * 9)).off + 6,none⟩=some (.int .i64 m.kd)∧W.cell? ⟨(ad.add (i * 9)).block,(ad.add (i * 9)).off + 7,none⟩=some (.slice m.ta m.tn m.tc)∧W.cell? ⟨(ad.add (i * 9)).block,(ad.add (i * 9)).off + 8,none⟩=some (.int .i64 m.er))):=Zh (fun W hW => by
    have hu:Upd [] wr W:=(Upd.refl [] wr).drew.trans hW
    exact ⟨(X1.out.upd (KX.out.1.trans hu) (by simp)).cell,en_cells (AT.out W hu).2⟩)
   have EI:Hid ((L.getD i default).a=attE m):=Zh (by rw [HL.out.1,eds_getD HMM.out.1]; rfl)
   clear hmm hat hi hlt
   subst hA
   cases hx:(txnR p (attE m)).isSome with
   | true =>
     go_wp2_with fail
     refine wp_invN [(5,.det (.bool true))] [] (by kernel_rfl) (by kernel_rfl) (by kernel_rfl) ⟨lasts_det _,trivial⟩ ?_
     iterate 5 (
      with_reducible apply wpV_light
      ·simp only [lightOp]
      ·intro W hU hF
       have f0:=CS.out W hU
       clear hU hF
       go_simp
       exact rfl
      simp only [aP])
     refine wpV_heavy (by simp only [lightOp]) (by rfl) (fun W hU hk hF K hK => ?_) ?_
     ·go_wp2_with fail
      have hu:Upd [] w W:=(U1.out.trans KX.out.1).trans ((Upd.refl [] wr).drew.trans hU)
      refine (there_ok p (.slice Ak nk ck) (.slice At nt ct) m W (HB.out.plan.upd0 hu) H100.out).mono ?_
      rintro e wx ⟨rfl,ux⟩
      rw [hx]
      go_wp2_with fail
      exact hK.out _ _ (outV_new rfl rfl (by intro b hb; cases hb) ux)
     rintro _ rfl
     simp only [aP]
     with_reducible apply wpV_light
     ·simp only [lightOp]
     ·intro W hU hF
      have f0:=CS.out W hU
      clear hU hF
      go_simp
      exact rfl
     simp only [aP]
     refine wpV_end (fun W hU _ _ => ?_)
     have UW:Hid (Upd [] w1 W):=Zh (KX.out.1.trans ((Upd.refl [] wr).drew.trans hU))
     clear hU
     refine wpT_end ?_
     have X2:Hid (Upd [] w1 W∧∀ j,j < i + 1→(txnR p (L.getD j default).a).isNone=false):=Zh ⟨UW.out,fun j hj => by
      by_cases e:j=i
      ·rw [e,EI.out,← Option.not_isSome,hx]; rfl
      ·exact KX.out.2 j (by omega)⟩
     clear hx
     go_wp2_with fail
     go_round
     case rel => exact ⟨i + 1,by simp,by have:=HMM.out.2; omega,X2⟩
     case measure => have:=HMM.out.2; simp [intOf]; omega
   | false =>
     go_wp2_with fail
     refine wp_invN [(5,.det (.bool false))] [] (by kernel_rfl) (by kernel_rfl) (by kernel_rfl) ⟨lasts_det _,trivial⟩ ?_
     iterate 5 (
      with_reducible apply wpV_light
      ·simp only [lightOp]
      ·intro W hU hF
       have f0:=CS.out W hU
       clear hU hF
       go_simp
       exact rfl
      simp only [aP])
     refine wpV_heavy (by simp only [lightOp]) (by rfl) (fun W hU hk hF K hK => ?_) ?_
     ·go_wp2_with fail
      have hu:Upd [] w W:=(U1.out.trans KX.out.1).trans ((Upd.refl [] wr).drew.trans hU)
      refine (there_ok p (.slice Ak nk ck) (.slice At nt ct) m W (HB.out.plan.upd0 hu) H100.out).mono ?_
      rintro e wx ⟨rfl,ux⟩
      rw [hx]
      go_wp2_with fail
      exact hK.out _ _ (outV_new rfl rfl (by intro b hb; cases hb) ux)
     rintro _ rfl
     simp only [aP]
     with_reducible apply wpV_light
     ·simp only [lightOp]
     ·intro W hU hF
      have f0:=CS.out W hU
      clear hU hF
      go_simp
      exact rfl
     simp only [aP]
     refine wpV_end (fun W hU _ _ => ?_)
     have UW:Hid (Upd [] w1 W):=Zh (KX.out.1.trans ((Upd.refl [] wr).drew.trans hU))
     clear hU
     refine wpT_end ?_
     have HJR:Hid (judgeR p L=(3,(i:Int) + 1)):=Zh (jr_bad (by rw [HL.out.2]; exact HMM.out.2) KX.out.2 (by rw [EI.out,← Option.not_isSome,hx]; rfl))
     clear hx
     go_wp2_with fail
     go_ret2
     rw [HJR.out]
     exact ⟨rfl,U1.out.trans UW.out⟩
  ·have hii:¬ ((i:Int) < n):=by omega
   have UX:Hid (Upd [] w1 wr):=Zh KX.out.1
   have HALL:Hid (∀ j,j < L.length→(txnR p (L.getD j default).a).isNone=false):=Zh (fun j hj => KX.out.2 j (by rw [HL.out.2] at hj; omega))
   clear hi hlt KX
   go_wp2_with fail
   refine (done_r A n c M wr (HR.out.upd0 (U1.out.trans UX.out)) HN.out.1 (by have:=HN.out; omega)).mono ?_
   rintro e w2 ⟨v2,rfl,o2,u2⟩
   obtain ⟨D,hD⟩:∃ D,D=M.filter dnE:=⟨_,rfl⟩
   rw [← hD] at o2
   obtain ⟨nd,hnd⟩:∃ k,k=D.length:=⟨_,rfl⟩
   have HDO:Hid (D=M.filter dnE∧D.length=nd∧nd≤n):=Zh ⟨hD,hnd.symm,by rw [hnd,hD,← HN.out.1]; exact List.length_filter_le _ _⟩
   have o2':w2.ownsRow wr.heap.size 42 9 v2 nd (flat encE D):=by rw [hnd]; exact o2
   obtain ⟨Ad,cd,rfl,_,_⟩:=own_slice o2'
   have U2:Hid (Upd [] w1 w2):=Zh (UX.out.trans u2)
   have RD:Hid (∀ W,Upd [] w2 W→Rd encE W (.slice Ad nd cd) D):=Zh (fun W hW => by
    have:=Src.of_own (own_upd0 o2' hW)
    unfold Rd
    rw [← hnd]
    exact this)
   have BD:Hid (∀ W,Upd [] w W→Base W p (.slice Ak nk ck) (.slice At nt ct) D∧edsW W D=edsW w D):=Zh (fun W hW => by
    have h0:Base w p (.slice Ak nk ck) (.slice At nt ct) D:=⟨HB.out.plan,fun m hm => HB.out.en m (by rw [hD] at hm; exact (List.mem_filter.1 hm).1),HB.out.ty⟩
    exact h0.at_ (hW.below (Nat.le_refl _) (by simp)))
   obtain ⟨dd,hdd⟩:∃ dd,dd=edsW w D:=⟨_,rfl⟩
   have HDD:Hid (dd=edsW w D∧doneR L=dd):=Zh ⟨hdd,by rw [hdd,HL.out.1,done_eds,HDO.out.1]⟩
   have TXD:Hid (∀ m ∈ D,(txnR p (attE m)).isSome=true):=Zh (fun m hm => by
    rw [hD] at hm
    obtain ⟨i',hi'⟩:=List.getElem?_of_mem (List.mem_filter.1 hm).1
    have hil:=(List.getElem?_eq_some_iff.1 hi').1
    have:=HALL.out i' (by rw [HL.out.2,← HN.out.1]; exact hil)
    rw [HL.out.1,eds_getD hi'] at this
    rw [← Option.not_isNone]
    show (!(txnR p (edW w m).a).isNone)=true
    rw [this]; rfl)
   have x2:=(X1.out.upd U2.out (by simp)).facts
   clear o2 o2' u2 hD hnd hdd
   go_wp2_with fail
   have hrp:=replay_r p (.slice Ak nk ck) (.slice At nt ct) Ad nd cd D w2 (BD.out w2 (U1.out.trans U2.out)).1 (RD.out _ (.refl _ _)) HDO.out.2.1 (by have:=HDO.out; have:=HN.out; omega) HF.out.1 HF.out.2 (fun m hm => HTN.out m (by rw [HDO.out.1] at hm; exact (List.mem_filter.1 hm).1)) TXD.out dd (by rw [HDD.out.1]; exact (BD.out w2 (U1.out.trans U2.out)).2.symm)
   refine hrp.mono ?_
   rintro e w3 ⟨u3,hc⟩
   have U23:=Zh u3
   have U3:=Zh (U2.out.trans u3)
   clear hrp u3 x2
   rcases hc with ⟨h0,rfl⟩ | ⟨h0,k,hk,rfl⟩ | ⟨h0,hk,v,fp,rfl,hs⟩
   ·have HJR:Hid (judgeR p L=chkR (attsR dd)):=Zh (by rw [jr_chk HALL.out (by rw [HDD.out.2]; exact h0),HDD.out.2])
    obtain ⟨x,hx⟩:∃ x,(chkR (attsR dd)).1=x:=⟨_,rfl⟩
    obtain ⟨y,hy⟩:∃ y,(chkR (attsR dd)).2=y:=⟨_,rfl⟩
    rw [hx] at h0
    have HXY:=Zh (And.intro hx hy)
    rw [hx,hy]
    have d0:(x != 0)=true:=by simpa using h0
    clear h0 hx hy
    go_wp2_with fail
    go_ret2
    rw [HJR.out,HXY.out.1,HXY.out.2]
    exact ⟨rfl,U1.out.trans U3.out⟩
   ·have HJR:Hid (judgeR p L=(12,(k:Int) + 1)):=Zh (jr_rep HALL.out (by rw [HDD.out.2]; exact h0) (by rw [HDD.out.2]; exact hk))
    clear h0 hk
    go_wp2_with fail
    go_ret2
    rw [HJR.out]
    exact ⟨rfl,U1.out.trans U3.out⟩
   ·have H0:Hid ((chkR (attsR dd)).1=0∧repR p dd=none):=Zh ⟨h0,hk⟩
    have HS:=Zh hs
    obtain ⟨Av,cv,rfl,_,_⟩:=own_slice hs.own
    obtain ⟨sn,hsn⟩:∃ k,k=(stsN p dd dd.length).length:=⟨_,rfl⟩
    have HSN:=Zh hsn
    rw [← hsn]
    clear h0 hk hs hsn
    go_wp2_with fail
    go_loopw [11,12] (fun u11 u12 wr => ∃ i:Nat,u12=.int .i64 i∧i≤n∧u11=.int .i64 ((M.take i).filter (fun m => !dnE m)).length∧Hid (Upd [] w3 wr∧∀ x ∈ (M.take i).filter (fun m => !dnE m),lostR p dd (edW w x)=false)) (fun _ u _ => n - (intOf u).toNat)
    case atStart => exact ⟨0,rfl,by omega,rfl,Zh ⟨.refl _ _,fun x hx => by simp at hx⟩⟩
    case round =>
     obtain ⟨i,rfl,hi,rfl,KX⟩:=hrel
     rename World => wr5
     by_cases hlt:i < n
     ·have hii:(i:Int) < n:=by omega
      obtain ⟨m,hmm⟩:∃ m,M[i]?=some m:=⟨_,List.getElem?_eq_getElem (by rw [HN.out.1]; exact hlt)⟩
      obtain ⟨ad,hA,hat⟩:=en_at (HR.out.upd0 ((U1.out.trans U3.out).trans KX.out.1)) hmm
      have HMM:Hid (M[i]?=some m∧i < n):=Zh ⟨hmm,hlt⟩
      have AT:=Zh hat
      obtain ⟨c0,c1,c2,c3,c4,c5,c6,c7,c8⟩:=en_cells (hat wr5 (.refl _ _)).2
      obtain ⟨q,hq⟩:∃ q,q=((M.take i).filter (fun m => !dnE m)).length:=⟨_,rfl⟩
      have HQ:Hid (q=((M.take i).filter (fun m => !dnE m)).length∧q≤i):=Zh ⟨hq,by rw [hq]; have h1:=List.length_filter_le (fun m => !dnE m) (M.take i); simp only [List.length_take] at h1; omega⟩
      rw [← hq]
      have ET:Hid ((M.take (i + 1)).filter (fun m => !dnE m)=(M.take i).filter (fun m => !dnE m) ++ if !dnE m then [m] else []):=Zh (by
       rw [List.take_add_one,hmm,Option.toList_some,List.filter_append]
       congr 1
       by_cases hd:dnE m=true <;> simp [hd])
      have hq40:(q:Int)≤40:=by have:=HQ.out.2; omega
      clear hmm hat hi hlt hq
      subst hA
      by_cases hd:m.kd=1
      ·have HD:Hid (dnE m=true):=Zh (by simp [dnE,hd])
       have hd2:(m.kd == 1)=true:=by simp [hd]
       clear hd
       have NX:Hid (((M.take (i + 1)).filter (fun m => !dnE m)).length=q∧∀ x ∈ (M.take (i + 1)).filter (fun m => !dnE m),lostR p dd (edW w x)=false):=Zh (by
        rw [ET.out,HD.out]
        simp only [Bool.not_true,Bool.false_eq_true,if_false,List.append_nil]
        exact ⟨HQ.out.1.symm,KX.out.2⟩)
       go_wp2_with fail
       go_round
       case rel => exact ⟨i + 1,by simp,by have:=HMM.out.2; omega,by rw [NX.out.1],Zh ⟨KX.out.1,NX.out.2⟩⟩
       case measure => have:=HMM.out.2; simp [intOf]; omega
      ·have HD:Hid (dnE m=false):=Zh (by simp [dnE,hd])
       have hd2:(m.kd == 1)=false:=by simp [hd]
       clear hd
       have hxs:(txnR p (attE m)).isSome=true:=by
        have:=HALL.out i (by rw [HL.out.2]; exact HMM.out.2)
        rw [HL.out.1,eds_getD HMM.out.1] at this
        rw [← Option.not_isNone]
        show (!(txnR p (edW w m).a).isNone)=true
        rw [this]; rfl
       obtain ⟨l,hl⟩:=Option.isSome_iff_exists.1 hxs
       have HTL:=Zh hl
       clear hxs hl
       have x5:=(X1.out.upd (U3.out.trans KX.out.1) (by simp)).facts
       have HLR:Hid (lostR p dd (edW w m)=(m.er == 0 && m.kd != 0 && !seenR p dd (edW w m))):=Zh rfl
       have NX:Hid (lostR p dd (edW w m)=false→((M.take (i + 1)).filter (fun m => !dnE m)).length=q + 1∧∀ x ∈ (M.take (i + 1)).filter (fun m => !dnE m),lostR p dd (edW w x)=false):=Zh (fun hlo => by
        rw [ET.out,HD.out]
        simp only [Bool.not_false,if_true,List.length_append,List.length_cons,List.length_nil]
        refine ⟨by rw [← HQ.out.1],fun x hx => ?_⟩
        rcases List.mem_append.1 hx with hx | hx
        ·exact KX.out.2 x hx
        ·simp at hx; subst hx; exact hlo)
       by_cases h1:m.er=0
       ·have e1:(m.er == 0)=true:=by simpa using h1
        clear h1
        by_cases h2:m.kd=0
        ·have e2:(m.kd != 0)=false:=by simpa using h2
         have HLO:Hid (lostR p dd (edW w m)=false):=Zh (by rw [HLR.out,e2]; simp)
         clear h2
         go_wp2_with fail
         refine wp_forced (by kernel_rfl) (by kernel_rfl) ?_
         simp only [ordered,List.filter_cons,List.filter_nil,isFloat,Option.isNone_none,Option.isNone_some,Bool.true_and,Bool.and_true,Bool.false_and,Bool.and_false,List.all_toArray,List.all_cons,List.all_nil,Region.binds,Bool.not_true,Bool.not_false,if_true,if_false,Bool.false_eq_true,List.cons_append,List.nil_append,ite_true,ite_false]
         repeat (first | ((with_reducible refine wpF_no ?_ ?_); (· rfl); simp only [aP]) | ((with_reducible refine wpF_light ?_ (fun K hK => ?_)); (· simp only [lightOp]; done); go_simp; refine hK _ ?_; clear hK K; simp only [aP]))
         refine wpF_end ?_
         have UN:Hid (Upd [] wr5 wr5.drew):=Zh (Upd.refl _ _).drew
         go_wp2_with fail
         go_round
         case rel => exact ⟨i + 1,by simp,by have:=HMM.out.2; omega,by rw [(NX.out HLO.out).1]; simp,Zh ⟨KX.out.1.trans UN.out,(NX.out HLO.out).2⟩⟩
         case measure => have:=HMM.out.2; simp [intOf]; omega
        ·have e2:(m.kd != 0)=true:=by simpa using h2
         have E12:Hid ((m.er == 0)=true∧(m.kd != 0)=true):=Zh ⟨e1,e2⟩
         clear h2
         go_wp2_with fail
         refine wp_forced (by kernel_rfl) (by kernel_rfl) ?_
         simp only [ordered,List.filter_cons,List.filter_nil,isFloat,Option.isNone_none,Option.isNone_some,Bool.true_and,Bool.and_true,Bool.false_and,Bool.and_false,List.all_toArray,List.all_cons,List.all_nil,Region.binds,Bool.not_true,Bool.not_false,if_true,if_false,Bool.false_eq_true,List.cons_append,List.nil_append,ite_true,ite_false]
         repeat (first | ((with_reducible refine wpF_no ?_ ?_); (· rfl); simp only [aP]) | ((with_reducible refine wpF_light ?_ (fun K hK => ?_)); (· simp only [lightOp]; done); go_simp; refine hK _ ?_; clear hK K; simp only [aP]))
         refine wpF_call (by simp only [lightOp]) (by rfl) (fun K hK => ?_)
         go_wp2_with fail
         have hu:Upd [] w wr5.drew:=((U1.out.trans U3.out).trans KX.out.1).drew
         have hu2:Upd [] w2 wr5.drew:=(U23.out.trans KX.out.1).drew
         have em:=(HB.out.en m (List.mem_of_getElem? HMM.out.1)).upd0 hu
         have hsn:=seen_r p (.slice Ak nk ck) (.slice At nt ct) Ad nd cd D (.slice Av sn cv) fp w2.heap.size m l wr5.drew (BD.out _ hu).1 (RD.out _ hu2) HDO.out.2.1 (by have:=HDO.out; have:=HN.out; omega) HF.out.1 HF.out.2 dd (by rw [(BD.out _ hu).2]; exact HDD.out.1) (by rw [HSN.out]; exact HS.out.upd0 KX.out.1.drew) em.1 (HTN.out m (List.mem_of_getElem? HMM.out.1)) HTL.out
         have ED:edW wr5.drew m=edW w m:=by unfold edW; rw [em.2]
         rw [ED] at hsn
         refine hsn.mono ?_
         rintro e wx ⟨rfl,ux⟩
         have UN:Hid (Upd [] wr5 wx):=Zh ((Upd.refl [] wr5).drew.trans ux)
         clear hsn em hu hu2 ED ux
         cases hsb:seenR p dd (edW w m) with
         | true =>
           have HLO:Hid (lostR p dd (edW w m)=false):=Zh (by rw [HLR.out,hsb]; simp)
           clear hsb
           go_wp2_with fail
           refine hK.out _ _ ?_
           clear hK K
           try simp only [aP]
           repeat (first | ((with_reducible refine wpF_no ?_ ?_); (· rfl); simp only [aP]) | ((with_reducible refine wpF_light ?_ (fun K hK => ?_)); (· simp only [lightOp]; done); go_simp; refine hK _ ?_; clear hK K; simp only [aP]))
           refine wpF_end ?_
           go_wp2_with fail
           go_round
           case rel => exact ⟨i + 1,by simp,by have:=HMM.out.2; omega,by rw [(NX.out HLO.out).1]; simp,Zh ⟨KX.out.1.trans UN.out,(NX.out HLO.out).2⟩⟩
           case measure => have:=HMM.out.2; simp [intOf]; omega
         | false =>
           have HJR:Hid (judgeR p L=(5,(q:Int) + 1)):=Zh (by
            rw [HL.out.1,HQ.out.1]
            refine jr_lost (by rw [← HL.out.1]; exact HALL.out) (by rw [← HL.out.1,HDD.out.2]; exact H0.out.1) (by rw [← HL.out.1,HDD.out.2]; exact H0.out.2) HMM.out.1 HD.out (fun x hx => ?_) ?_
            ·rw [← HL.out.1,HDD.out.2]; exact KX.out.2 x hx
            ·rw [← HL.out.1,HDD.out.2,HLR.out,hsb,E12.out.1,E12.out.2]; rfl)
           clear hsb
           go_wp2_with fail
           refine hK.out _ _ ?_
           clear hK K
           try simp only [aP]
           repeat (first | ((with_reducible refine wpF_no ?_ ?_); (· rfl); simp only [aP]) | ((with_reducible refine wpF_light ?_ (fun K hK => ?_)); (· simp only [lightOp]; done); go_simp; refine hK _ ?_; clear hK K; simp only [aP]))
           refine wpF_end ?_
           go_wp2_with fail
           go_ret2
           rw [HJR.out]
           exact ⟨rfl,((U1.out.trans U3.out).trans KX.out.1).trans UN.out⟩
       ·have e1:(m.er == 0)=false:=by simpa using h1
        have HLO:Hid (lostR p dd (edW w m)=false):=Zh (by rw [HLR.out,e1]; simp)
        clear h1
        go_wp2_with fail
        refine wp_forced (by kernel_rfl) (by kernel_rfl) ?_
        simp only [ordered,List.filter_cons,List.filter_nil,isFloat,Option.isNone_none,Option.isNone_some,Bool.true_and,Bool.and_true,Bool.false_and,Bool.and_false,List.all_toArray,List.all_cons,List.all_nil,Region.binds,Bool.not_true,Bool.not_false,if_true,if_false,Bool.false_eq_true,List.cons_append,List.nil_append,ite_true,ite_false]
        repeat (first | ((with_reducible refine wpF_no ?_ ?_); (· rfl); simp only [aP]) | ((with_reducible refine wpF_light ?_ (fun K hK => ?_)); (· simp only [lightOp]; done); go_simp; refine hK _ ?_; clear hK K; simp only [aP]))
        refine wpF_end ?_
        have UN:Hid (Upd [] wr5 wr5.drew):=Zh (Upd.refl _ _).drew
        go_wp2_with fail
        go_round
        case rel => exact ⟨i + 1,by simp,by have:=HMM.out.2; omega,by rw [(NX.out HLO.out).1]; simp,Zh ⟨KX.out.1.trans UN.out,(NX.out HLO.out).2⟩⟩
        case measure => have:=HMM.out.2; simp [intOf]; omega
     ·have hii:¬ ((i:Int) < n):=by omega
      have HJR:Hid (judgeR p L=(0,0)):=Zh (by
       rw [HL.out.1]
       refine jr_fine (by rw [← HL.out.1]; exact HALL.out) (by rw [← HL.out.1,HDD.out.2]; exact H0.out.1) (by rw [← HL.out.1,HDD.out.2]; exact H0.out.2) (fun x hx => ?_)
       have:=KX.out.2 x (by rw [List.take_of_length_le (by rw [HN.out.1]; omega)]; exact hx)
       rw [← HL.out.1,HDD.out.2]
       exact this)
      go_wp2_with fail
      go_ret2
      rw [HJR.out]
      exact ⟨rfl,(U1.out.trans U3.out).trans KX.out.1⟩
end Go.Proofs.YtmjnmpifibemjaaGreatDoor.Rt
namespace Go.Proofs.YtmjnmpifibemjaaGreatDoor
open Go.RowKit St Jd Ev
attribute [local go_sem] litStep_value
def finR (p:Pn) (l:List Ed):MP.MS:=stN p (seqR (doneR l)) (doneR l).length
def FinalPost (p:Pn) (l:List Ed) (w:World) (e:Ending) (w':World):Prop:=Upd [] w w'∧∃ v s,e=.returned (.tuple #[s,v])∧ErrV w' v (judgeR p l).1 (judgeR p l).2 ∧
 ((judgeR p l).1≠0→s=.pointer none)∧((judgeR p l).1=0→∃ sb F,s=.pointer (some ⟨sb,0,none⟩)∧Mdl w.heap.size sb F w' (finR p l))
theorem fine_rep {p:Pn} {l:List Ed} (h:(judgeR p l).1=0):repR p (doneR l)=none:=rep_none ((judge_zero p l).1 h).2.2.1
theorem final_ok (A:Option Addr) (n c:Nat) (M:List En) (p:Pn) (kv tv:Value) (w:World) (hb:Base w p kv tv M) (hr:Rd encE w (.slice A n c) M) (hn:M.length=n) (hM:n≤40) (hf:FitP p) (hz:SzP p) (htn:∀ m ∈ M,m.tn≤300000) :
 Calls Tryz.prog 14 #[planC p kv tv,.slice A n c] w (FinalPost p (edsW w M) w):=by
 have HB:=Zh hb
 have HR:=Zh hr
 have HN:Hid (M.length=n∧n≤40):=Zh ⟨hn,hM⟩
 have HF:=Zh (And.intro hf hz)
 have HTN:=Zh htn
 have hn40:(n:Int)≤40:=by omega
 obtain ⟨As,cs,hs1⟩:∃ A c,kv=.slice A p.ks.length c:=by obtain ⟨_,A,c,e,_⟩:=hb.plan.ks; exact ⟨A,c,e⟩
 obtain ⟨At,ct,hs2⟩:∃ A c,tv=.slice A p.ths.length c:=by obtain ⟨vs,⟨_,A,c,e,_⟩,_⟩:=hb.plan.ths; exact ⟨A,c,e⟩
 obtain ⟨nk,hnk⟩:∃ k,k=p.ks.length:=⟨_,rfl⟩
 obtain ⟨nt,hnt⟩:∃ k,k=p.ths.length:=⟨_,rfl⟩
 rw [← hnk] at hs1
 rw [← hnt] at hs2
 subst hs1 hs2
 obtain ⟨L,hL⟩:∃ L,L=edsW w M:=⟨_,rfl⟩
 have HL:=Zh hL
 rw [← hL]
 clear hb hr hn hM hf hz htn hnk hnt hL
 obtain ⟨w1,hw1⟩:∃ w1,w1=w.alloc (.cells #[.int .i64 p.words,.int .i64 p.pat,.slice As nk cs,.slice At nt ct] 25):=⟨_,rfl⟩
 have U1:Hid (Upd [] w w1):=Zh (by rw [hw1]; exact (Upd.refl _ _).alloc _)
 have X1:Hid (Blk w1 w.heap.size 25 #[.int .i64 p.words,.int .i64 p.pat,.slice As nk cs,.slice At nt ct]):=Zh (by rw [hw1]; exact Blk.new _ _ _)
 obtain ⟨pb,hpb⟩:∃ x,x=w.heap.size:=⟨_,rfl⟩
 rw [← hpb] at X1
 have HPB:=Zh hpb
 go_enter Tryz.func14,Tryz.ntmps14
 go_wp2_with fail
 rw [← hw1,← hpb]
 clear hw1 hpb
 have hb1:=HB.out.at_ (U1.out.below (Nat.le_refl _) (by simp))
 have hj:=judge_ok A n c M p (.slice As nk cs) (.slice At nt ct) w1 hb1.1 (HR.out.upd0 U1.out) HN.out.1 HN.out.2 HF.out.1 HF.out.2 HTN.out
 rw [hb1.2,← HL.out] at hj
 refine hj.mono ?_
 rintro e w2 ⟨v,rfl,ev,u2⟩
 obtain ⟨j0,hj0⟩:∃ j,j=judgeR p L:=⟨_,rfl⟩
 have HJ:=Zh hj0
 rw [← hj0] at ev
 have U2:=Zh (U1.out.trans u2)
 have X2:=Zh (X1.out.upd u2 (by simp))
 obtain ⟨j,a⟩:=j0
 simp only at ev
 have EV:=Zh ev
 clear hj hj0 hb1 u2
 by_cases h0:j=0
 ·subst h0
  obtain ⟨rfl,rfl⟩:=errv_nil ev
  have HJZ:Hid ((judgeR p L).1=0):=Zh (by rw [← HJ.out])
  have xf:=X2.out.facts
  clear ev
  go_wp2_with fail
  obtain ⟨w3,hw3⟩:∃ w3,w3=w2.alloc (.cells #[.int .i64 p.words,.int .i64 p.pat,.slice As nk cs,.slice At nt ct,.slice none 0 0,.slice none 0 0,.slice none 0 0] 77):=⟨_,rfl⟩
  have U23:Hid (Upd [] w2 w3):=Zh (by rw [hw3]; exact (Upd.refl _ _).alloc _)
  have J3:Hid (Blk w3 w2.heap.size 77 #[.int .i64 p.words,.int .i64 p.pat,.slice As nk cs,.slice At nt ct,.slice none 0 0,.slice none 0 0,.slice none 0 0]):=Zh (by rw [hw3]; exact Blk.new _ _ _)
  obtain ⟨jb,hjb⟩:∃ x,x=w2.heap.size:=⟨_,rfl⟩
  have HJB:Hid (w.heap.size≤jb):=Zh (by rw [hjb]; exact U2.out.size)
  rw [← hjb] at J3
  rw [← hw3,← hjb]
  clear hw3 hjb xf
  have U3:=Zh (U2.out.trans U23.out)
  refine (split_ok A n c M w3 (HR.out.upd0 U3.out) HN.out.1 (by have:=HN.out; omega)).mono ?_
  rintro e w4 ⟨v1,v2,rfl,s1,s2,s3,_⟩
  obtain ⟨D,hD⟩:∃ D,D=M.filter dnE:=⟨_,rfl⟩
  rw [← hD] at s2
  obtain ⟨nd,hnd⟩:∃ k,k=D.length:=⟨_,rfl⟩
  obtain ⟨no,hno⟩:∃ k,k=(M.filter fun m => !dnE m).length:=⟨_,rfl⟩
  have HDO:Hid (D=M.filter dnE∧nd=D.length∧nd≤n):=Zh ⟨hD,hnd,by rw [hnd,hD,← HN.out.1]; exact List.length_filter_le _ _⟩
  have o2:w4.ownsRow w3.heap.size 42 9 v1 nd (flat encE D):=by rw [hnd]; exact s2
  have o3:w4.ownsRow w3.heap.size 42 9 v2 no (flat encE (M.filter fun m => !dnE m)):=by rw [hno]; exact s3
  obtain ⟨Ad,cd,rfl,_,_⟩:=own_slice o2
  obtain ⟨Ao,co,rfl,_,_⟩:=own_slice o3
  have O2:=Zh o2
  have U4:=Zh (U3.out.trans s1)
  have hnd40:(nd:Int)≤40:=by have:=HDO.out; have:=HN.out; omega
  have j4:Blk w4 jb 77 #[.int .i64 p.words,.int .i64 p.pat,.slice As nk cs,.slice At nt ct,.slice none 0 0,.slice none 0 0,.slice none 0 0]:=J3.out.upd s1 (by simp)
  have jf:=j4.facts
  have J4:=Zh j4
  clear s1 s2 s3 hD hnd hno o2 o3 j4
  go_wp2_with fail
  obtain ⟨w5,hw5⟩:∃ w5,w5=w4.setCell ⟨jb,4,none⟩ (.slice Ad nd cd):=⟨_,rfl⟩
  have u45:Upd [jb] w4 w5:=by rw [hw5]; exact (Upd.refl _ _).setCell (by simp) _
  have J5:Hid (Blk w5 jb 77 #[.int .i64 p.words,.int .i64 p.pat,.slice As nk cs,.slice At nt ct,.slice Ad nd cd,.slice none 0 0,.slice none 0 0]):=Zh (by rw [hw5]; exact J4.out.set_ 4 _)
  have D5:Hid (w5.ownsRow w3.heap.size 42 9 (.slice Ad nd cd) nd (flat encE D)):=Zh (own_upd O2.out u45 (fun b hb hm => by have:=own_type O2.out J4.out (by decide); simp at hm; exact this (hm ▸ hb)))
  have U5:Hid (Upd [] w w5):=Zh (U4.out.trans' u45 (fun x hx => .inr (by simp at hx; subst hx; exact HJB.out)))
  rw [← hw5]
  clear hw5 u45 jf J4 O2
  have RD:Hid (∀ W,Upd [] w5 W→Rd encE W (.slice Ad nd cd) D):=Zh (fun W hW => by
   have:=Src.of_own (own_upd0 D5.out hW)
   unfold Rd
   rw [← HDO.out.2.1]
   exact this)
  refine (attempts_ok Ad nd cd D w5 (RD.out _ (.refl _ _)) HDO.out.2.1.symm (by have:=HDO.out; have:=HN.out; omega)).mono ?_
  rintro e w6 ⟨v6,rfl,o6,u6⟩
  have L6:(D.map attE).length=nd:=by rw [List.length_map]; exact HDO.out.2.1.symm
  have o6':w6.ownsRow w5.heap.size 39 6 v6 nd (flat encA (D.map attE)):=by have h:=o6; unfold Ow at h; rwa [L6] at h
  obtain ⟨A6,c6,rfl,hc6,hc6'⟩:=own_slice o6'
  obtain ⟨dd,hdd⟩:∃ dd,dd=edsW w D:=⟨_,rfl⟩
  have HDD:Hid (dd=edsW w D∧attsR dd=D.map attE∧doneR L=dd∧(attsR dd).length=nd):=Zh ⟨hdd,by rw [hdd]; exact attsR_edsW _ _,by rw [hdd,HL.out,done_eds,HDO.out.1],by rw [hdd,attsR_edsW]; exact L6⟩
  have HA6:Hid (Rd encA w6 (.slice A6 nd c6) (attsR dd)):=Zh (by rw [HDD.out.2.1]; exact o6.rd)
  have U6:=Zh u6
  clear o6 u6 o6' hc6 hc6' L6 hdd
  go_wp2_with fail
  refine (sort_ok A6 nd c6 (attsR dd) w6 (atts_rd HA6.out) HDD.out.2.2.2 (by have:=HDO.out; have:=HN.out; omega)).mono ?_
  rintro e w7 ⟨v7,rfl,o7,u7⟩
  have o7':w7.ownsRow w6.heap.size 3 1 v7 nd ((ordR dd).map fun (x:Nat) => Value.int .i64 x):=by unfold ordR; rw [HDD.out.2.2.2]; exact o7
  obtain ⟨A7,c7,rfl,_,_⟩:=own_slice o7'
  have O7:=Zh o7'
  have U57:Hid (Upd [] w5 w7):=Zh (U6.out.trans u7)
  have j7:=J5.out.upd U57.out (by simp)
  have jf:=j7.facts
  have J7:=Zh j7
  clear o7 o7' u7 j7
  go_wp2_with fail
  obtain ⟨w8,hw8⟩:∃ w8,w8=w7.setCell ⟨jb,5,none⟩ (.slice A7 nd c7):=⟨_,rfl⟩
  have u78:Upd [jb] w7 w8:=by rw [hw8]; exact (Upd.refl _ _).setCell (by simp) _
  have U8:Hid (Upd [] w w8):=Zh ((U5.out.trans U57.out).trans' u78 (fun x hx => .inr (by simp at hx; subst hx; exact HJB.out)))
  have njW:∀ {B':Nat} {e:TypeId} {s n:Nat} {v:Value} {xs:List Value},w7.ownsRow B' e s v n xs→77≠e→∀ b,v.ownBlock=some b→b ∉ [jb]:=fun ho hne b hb hm => by
   simp only [List.mem_singleton] at hm
   exact own_type ho J7.out hne (hm ▸ hb)
  have hol:(ordR dd).length=nd:=by rw [(ord_perm dd).length_eq,HDD.out.1]; simp [edsW]; exact HDO.out.2.1.symm
  have HOL:=Zh hol
  have hdW:=own_upd0 D5.out U57.out
  have BD:Hid (Base w p (.slice As nk cs) (.slice At nt ct) D):=Zh ⟨HB.out.plan,fun m hm => HB.out.en m (by rw [HDO.out.1] at hm; exact (List.mem_filter.1 hm).1),HB.out.ty⟩
  have bel8:Below w.heap.size w w8:=U8.out.below (Nat.le_refl _) (by simp)
  have B8:=(BD.out.at_ bel8).1
  have J8:Hid (JSt w.heap.size jb p (.slice As nk cs) (.slice At nt ct) (.slice Ad nd cd) (.slice A7 nd c7) (.slice none 0 0) D (ordR dd) [] [] w8):=Zh ⟨by rw [hw8]; exact J7.out.set_ 5 _,HJB.out,B8.plan,by
   unfold Ow
   rw [← HDO.out.2.1]
   exact own_base (own_upd hdW u78 (njW hdW (by decide))) U3.out.size,by
   rw [hol]
   exact own_base (own_upd O7.out u78 (njW O7.out (by decide))) (Nat.le_trans U5.out.size U6.out.size),⟨rfl,own_nil _ _ _ _,fun i q s hq => by simp at hq⟩,B8.ty,B8.en,fun q hq => by simp at hq⟩
  rw [← hw8]
  clear hw8 u78 njW hol hdW bel8 B8 jf
  have HREP:=Zh (replay_ok w w8 J8.out BD.out (U8.out.below (Nat.le_refl _) (by simp)) ⟨rfl,U8.out.size⟩ HF.out.1 HF.out.2 (by have:=HDO.out; have:=HN.out; omega) (fun m hm => HTN.out m (by rw [HDO.out.1] at hm; exact (List.mem_filter.1 hm).1)) dd HDD.out.1 rfl (fun m hm => by
   rw [HDO.out.1] at hm
   have:=((judge_zero p L).1 HJZ.out).1 (edW w m) (by rw [HL.out]; exact List.mem_map.2 ⟨m,(List.mem_filter.1 hm).1,rfl⟩)
   rw [← Option.not_isNone]
   show (!(txnR p (edW w m).a).isNone)=true
   rw [this]; rfl))
  go_wp2_with fail
  refine HREP.out.mono ?_
  rintro e w9 ⟨v9,rfl,u9,hc⟩
  have U9:Hid (Upd [] w w9):=Zh (U8.out.trans' u9 (fun x hx => .inr (by simp at hx; subst hx; exact HJB.out)))
  clear u9
  rcases hc with ⟨k,hk,_⟩ | ⟨_,rfl,av,fp,j9⟩
  ·have:=fine_rep HJZ.out
   rw [HDD.out.2.2.1,hk] at this
   cases this
  ·obtain ⟨sn,hsn⟩:∃ k,k=(stsN p dd dd.length).length:=⟨_,rfl⟩
   have hddl:dd.length=nd:=by have:=HDD.out.2.2.2; simpa [attsR] using this
   have hsn2:sn=nd + 1:=by rw [hsn,stsN_len,hddl]
   obtain ⟨ga,ca,cur,rfl,_⟩:=own_form j9.sts.own (by rw [stsN_len]; omega)
   obtain ⟨q,hq⟩:∃ q,fp[nd]?=some q:=⟨_,List.getElem?_eq_getElem (by rw [j9.sts.len,← hsn]; omega)⟩
   have hst:=(j9.sts.st nd q (stN p (seqR dd) nd) hq (by unfold stsN; rw [List.getElem?_map,List.getElem?_range (by omega)]; rfl)).1
   have FIN:Hid (Mdl w.heap.size q.1 q.2 w9 (finR p L)):=Zh (by
    unfold finR
    rw [HDD.out.2.2.1,hddl]
    exact hst)
   have bx:=j9.box.facts
   rw [← hsn] at bx
   have ac:w9.cell? ⟨ga,nd,none⟩=some (.pointer (some ⟨q.1,0,none⟩)):=own_cell j9.sts.own nd _ (by rw [List.getElem?_map,hq]; rfl)
   have al:ga < w9.heap.size:=(own_lt j9.sts.own rfl).2
   have wr1:IntKind.i64.wrap ((sn:Int) - 1)=(nd:Int):=by rw [IntKind.wrap_i64] <;> omega
   have q1:(0:Int)≤(nd:Int):=by omega
   have q2:(nd:Int) < sn:=by omega
   clear hsn hsn2 hddl hq hst j9
   go_wp2_with fail
   go_quiet (fail)
   go_wp2_with fail
   go_ret2
   exact ⟨U9.out.drewN _,_,_,rfl,by rw [← HJ.out]; exact .inl ⟨rfl,rfl,rfl⟩,fun h => absurd HJZ.out h,fun _ => ⟨_,_,rfl,FIN.out.upd0 ((Upd.refl _ _).drewN _)⟩⟩
 ·have HJZ:Hid ((judgeR p L).1≠0):=Zh (by rw [← HJ.out]; exact h0)
  have H0:=Zh h0
  rcases ev with ⟨_,h,_⟩ | ⟨rfl,_,_⟩ | ⟨g,rfl,_,_⟩
  ·exact absurd h h0
  all_goals
   go_wp2_with fail
   go_ret2
   exact ⟨U2.out,_,_,rfl,by rw [← HJ.out]; exact EV.out,fun _ => rfl,fun h => absurd h HJZ.out⟩
end Go.Proofs.YtmjnmpifibemjaaGreatDoor
namespace Go.Proofs.YtmjnmpifibemjaaGreatDoor.Rt
open Go.RowKit St Jd Ev Rv
attribute [local go_sem] litStep_value
def stsT (B sn:Nat) (sts:List MP.MS):Spec:=⟨fun _ => [],fun v w => ∃ (A:Option Addr) (c:Nat) (fp:List Nat),v=.tuple #[.slice A sn c,.int .i64 0,.int .i64 0]∧StsR B w (.slice A sn c) sts fp,
 fun v => ∃ (A:Option Addr) (c:Nat),v=.tuple #[.slice A sn c,.int .i64 0,.int .i64 0]⟩
theorem lasts_stsT (w0:World) (B sn:Nat) (sts:List MP.MS):Lasts0 w0 (stsT B sn sts) :=
 ⟨fun v w w' _ ⟨A,c,fp,h1,h2⟩ hu => ⟨A,c,fp,h1,h2.upd0 hu⟩,⟨_,none,0,rfl⟩,fun _ _ ⟨A,c,fp,h,_⟩ => ⟨A,c,h⟩⟩
theorem StsR.base {B B':Nat} {w:World} {v:Value} {sts:List MP.MS} {fp:List Nat} (h:StsR B w v sts fp) (hb:B'≤B):StsR B' w v sts fp:=⟨h.len,own_base h.own hb,h.st⟩
def FinalPR (p:Pn) (l:List Ed) (w:World) (e:Ending) (w':World):Prop:=Upd [] w w'∧∃ s,e=.returned s∧((judgeR p l).1≠0→s=.pointer none)∧((judgeR p l).1=0→∃ q,s=.pointer (some ⟨q,0,none⟩)∧RSt q w' (finR p l))
theorem final_r (p:Pn) (kv tv:Value) (A:Option Addr) (n c:Nat) (M:List En) (w:World) (hb:Base w p kv tv M) (hr:Rd encE w (.slice A n c) M) (hn:M.length=n) (h40:n≤40) (hf:FitP p) (hz:SzP p) (htn:∀ m ∈ M,m.tn≤300000) :
 Calls Tryz.prog 15 #[planC p kv tv,.slice A n c] w (FinalPR p (edsW w M) w):=by
 obtain ⟨Ak,ck,hkv⟩:∃ A c,kv=.slice A p.ks.length c:=by obtain ⟨_,A,c,e,_⟩:=hb.plan.ks; exact ⟨A,c,e⟩
 obtain ⟨At,ct,htv⟩:∃ A c,tv=.slice A p.ths.length c:=by obtain ⟨vs,⟨_,A,c,e,_⟩,_⟩:=hb.plan.ths; exact ⟨A,c,e⟩
 obtain ⟨nk,hnk⟩:∃ k,k=p.ks.length:=⟨_,rfl⟩
 obtain ⟨nt,hnt⟩:∃ k,k=p.ths.length:=⟨_,rfl⟩
 rw [← hnk] at hkv
 rw [← hnt] at htv
 subst hkv htv
 have HB:=Zh hb
 have HR:=Zh hr
 have HF:=Zh (And.intro hf hz)
 have HTN:=Zh htn
 have HN:Hid (M.length=n∧n≤40):=Zh ⟨hn,h40⟩
 have hn40:(n:Int)≤40:=by omega
 obtain ⟨L,hL⟩:∃ L,L=edsW w M:=⟨_,rfl⟩
 have HL:Hid (L=edsW w M∧L.length=n):=Zh ⟨hL,by rw [hL]; simp [edsW]; exact hn⟩
 rw [← hL]
 obtain ⟨w1,hw1⟩:∃ w1,w1=w.alloc (.cells #[.int .i64 p.words,.int .i64 p.pat,.slice Ak nk ck,.slice At nt ct] 25):=⟨_,rfl⟩
 have U1:Hid (Upd [] w w1):=Zh (by rw [hw1]; exact (Upd.refl _ _).alloc _)
 have X1:Hid (Blk w1 w.heap.size 25 #[.int .i64 p.words,.int .i64 p.pat,.slice Ak nk ck,.slice At nt ct]):=Zh (by rw [hw1]; exact Blk.new _ _ _)
 obtain ⟨pb,hpb⟩:∃ x,x=w.heap.size:=⟨_,rfl⟩
 rw [← hpb] at X1
 clear hb hr hf hz htn hn h40 hnk hnt hL
 go_enter Tryz.func15,Tryz.ntmps15
 go_wp2_with fail
 rw [← hw1,← hpb]
 clear hw1 hpb
 have hj:=judge_r p (.slice Ak nk ck) (.slice At nt ct) A n c M w1 (HB.out.at_ (U1.out.below (Nat.le_refl _) (by simp))).1 (HR.out.upd0 U1.out) HN.out.1 HN.out.2 HF.out.1 HF.out.2 HTN.out
 rw [(HB.out.at_ (U1.out.below (Nat.le_refl _) (by simp))).2,← HL.out.1] at hj
 refine hj.mono ?_
 rintro e w2 ⟨rfl,u2⟩
 obtain ⟨j0,hj0⟩:∃ j,j=judgeR p L:=⟨_,rfl⟩
 have HJ:=Zh hj0
 rw [← hj0]
 have U2:=Zh (U1.out.trans u2)
 have X2:=Zh (X1.out.upd u2 (by simp))
 obtain ⟨j,a⟩:=j0
 simp only
 clear hj hj0 u2
 by_cases h0:j=0
 ·subst h0
  have HJZ:Hid ((judgeR p L).1=0):=Zh (by rw [← HJ.out])
  obtain ⟨D,hD⟩:∃ D,D=M.filter dnE:=⟨_,rfl⟩
  obtain ⟨nd,hnd⟩:∃ k,k=D.length:=⟨_,rfl⟩
  have HDO:Hid (D=M.filter dnE∧D.length=nd∧nd≤n):=Zh ⟨hD,hnd.symm,by rw [hnd,hD,← HN.out.1]; exact List.length_filter_le _ _⟩
  have BD:Hid (∀ W,Upd [] w W→Base W p (.slice Ak nk ck) (.slice At nt ct) D∧edsW W D=edsW w D):=Zh (fun W hW => by
   have h0:Base w p (.slice Ak nk ck) (.slice At nt ct) D:=⟨HB.out.plan,fun m hm => HB.out.en m (by rw [hD] at hm; exact (List.mem_filter.1 hm).1),HB.out.ty⟩
   exact h0.at_ (hW.below (Nat.le_refl _) (by simp)))
  obtain ⟨dd,hdd⟩:∃ dd,dd=edsW w D:=⟨_,rfl⟩
  have HDD:Hid (dd=edsW w D∧doneR L=dd∧dd.length=nd):=Zh ⟨hdd,by rw [hdd,HL.out.1,done_eds,HDO.out.1],by rw [hdd,hnd]; simp [edsW]⟩
  have TXD:Hid (∀ m ∈ D,(txnR p (attE m)).isSome=true):=Zh (fun m hm => by
   rw [hD] at hm
   have:=((judge_zero p L).1 HJZ.out).1 (edW w m) (by rw [HL.out.1]; exact List.mem_map.2 ⟨m,(List.mem_filter.1 hm).1,rfl⟩)
   rw [← Option.not_isNone]
   show (!(txnR p (edW w m).a).isNone)=true
   rw [this]; rfl)
  have hnd40:(nd:Int)≤40:=by have:=HDO.out; have:=HN.out; omega
  obtain ⟨sn,hsn⟩:∃ k,k=nd + 1:=⟨_,rfl⟩
  have HSN:Hid ((stsN p dd dd.length).length=sn∧sn=nd + 1):=Zh ⟨by rw [stsN_len,HDD.out.2.2,hsn],hsn⟩
  have hsn41:(sn:Int)≤41:=by omega
  have x2:=X2.out.facts
  have CS:Hid (∀ W,Upd [] w2.drew W→(∀ j,W.cell? ⟨pb,j,none⟩=#[.int .i64 p.words,.int .i64 p.pat,.slice Ak nk ck,.slice At nt ct][j]?)):=Zh (fun W hW => (X2.out.upd ((Upd.refl [] w2).drew.trans hW) (by simp)).cell)
  clear hD hnd hdd hsn
  go_wp2_with fail
  refine wp_invNT0 11 [(2,.own w2.heap.size 42 9 nd (flat encE D)),(3,stsT w2.heap.size sn (stsN p dd dd.length))] (by kernel_rfl) (by simp) (by kernel_rfl) (by kernel_rfl) ⟨lasts0_of (lasts_own _ _ _ _ _ (by unfold maxLen; omega)),lasts_stsT _ _ _ _,trivial⟩ ?_
  simp only [List.take_succ_cons,List.take_zero,List.drop_succ_cons,List.drop_zero]
  iterate 2 (
   with_reducible apply wpV_light
   ·simp only [lightOp]
   ·intro W hU hF
    have f0:=CS.out W hU
    clear hU hF
    go_simp
    exact rfl
   simp only [aP])
  refine wpV_heavy (by simp only [lightOp]) (by rfl) (fun W hU hk hF K hK => ?_) ?_
  ·go_wp2_with fail
   have hu:Upd [] w2 W:=(Upd.refl [] w2).drew.trans hU
   refine (done_r A n c M W (HR.out.upd0 (U2.out.trans hu)) HN.out.1 (by have:=HN.out; omega)).mono ?_
   rintro e wx ⟨v2,rfl,o2,ux⟩
   go_wp2_with fail
   refine hK.out _ _ (outV_new rfl ?_ ?_ ux)
   ·have o3:wx.ownsRow w2.heap.size 42 9 v2 nd (flat encE D):=own_base (by have:=o2; rw [← HDO.out.1] at this; unfold Ow at this; rw [HDO.out.2.1] at this; exact this) hu.size
    exact o3
   ·intro b hb
    have hb1:b ∈ v2.ownBlock.toList:=hb
    have hb2:v2.ownBlock=some b:=by simpa using hb1
    exact own_lt o2 hb2
  rintro _ ⟨Ad,cd,rfl,_,_⟩
  simp only [aP]
  refine wpV_heavy (by simp only [lightOp]) (by rfl) (fun W hU hk hF K hK => ?_) ?_
  ·go_wp2_with fail
   have o2:W.ownsRow w2.heap.size 42 9 (.slice Ad nd cd) nd (flat encE D):=hF.out.1 (by kernel_rfl)
   have hu:Upd [] w W:=U2.out.trans ((Upd.refl [] w2).drew.trans hU)
   have hsz:w2.heap.size≤W.heap.size:=((Upd.refl [] w2).drew.trans hU).size
   refine (replay_r p (.slice Ak nk ck) (.slice At nt ct) Ad nd cd D W (BD.out W hu).1 (by have:=Src.of_own o2; unfold Rd; rw [HDO.out.2.1]; exact this) HDO.out.2.1 (by have:=HDO.out; have:=HN.out; omega) HF.out.1 HF.out.2 (fun m hm => HTN.out m (by rw [HDO.out.1] at hm; exact (List.mem_filter.1 hm).1)) TXD.out dd (by rw [HDD.out.1]; exact (BD.out W hu).2.symm)).mono ?_
   rintro e wx ⟨ux,hc⟩
   have hrep:repR p dd=none:=by rw [← HDD.out.2.1]; exact fine_rep HJZ.out
   have hchk:(chkR (attsR dd)).1=0:=by rw [← HDD.out.2.1]; exact ((judge_zero p L).1 HJZ.out).2.1
   rcases hc with ⟨h0,_⟩ | ⟨_,k,hk,_⟩ | ⟨_,_,v,fp,rfl,hs⟩
   ·exact absurd hchk h0
   ·rw [hrep] at hk; cases hk
   ·obtain ⟨Av,cv,rfl,_,_⟩:=own_slice hs.own
    rw [HSN.out.1] at hs ⊢
    go_wp2_with fail
    exact hK.out _ _ (outV_new rfl ⟨_,_,_,rfl,hs.base hsz⟩ (by intro b hb; cases hb) ux)
  rintro _ ⟨Av,cv,rfl⟩
  simp only [aP]
  iterate 7 (
   with_reducible apply wpV_light
   ·simp only [lightOp]
   ·intro W hU hF
    have f0:=CS.out W hU
    clear hU hF
    go_simp
    exact rfl
   simp only [aP])
  refine wpV_end (fun W hU _ hF => ?_)
  obtain ⟨Av1,cv1,fp,e1,hs⟩:=hF.out.2.1 (by kernel_rfl)
  injection e1 with e1
  injection e1 with e1
  injection e1 with e1 _
  injection e1 with e1 _ e1'
  subst e1 e1'
  have UW:Hid (Upd [] w W):=Zh (U2.out.trans ((Upd.refl [] w2).drew.trans hU))
  clear hU hF
  refine wpT_end ?_
  obtain ⟨gv,cv2,cur,e2,_⟩:=own_form hs.own (by rw [stsN_len]; omega)
  injection e2 with e2 e3 e2'
  clear e3
  subst e2 e2'
  obtain ⟨q,hq⟩:∃ q,fp[nd]?=some q:=⟨_,List.getElem?_eq_getElem (by rw [hs.len,HSN.out.1,HSN.out.2]; omega)⟩
  have FIN:Hid (RSt q W (finR p L)):=Zh (by
   unfold finR
   rw [HDD.out.2.1]
   exact hs.st nd q _ hq (by unfold stsN; rw [List.getElem?_map,List.getElem?_range (by rw [HDD.out.2.2]; omega),HDD.out.2.2]; rfl))
  have ac:W.cell? ⟨gv,nd,none⟩=some (.pointer (some ⟨q,0,none⟩)):=own_cell (by have h:=hs.own; rw [HSN.out.1] at h; exact h) nd _ (by rw [List.getElem?_map,hq]; rfl)
  have wr1:IntKind.i64.wrap ((sn:Int) - 1)=(nd:Int):=by have:=HSN.out.2; rw [IntKind.wrap_i64] <;> omega
  have wr2:(sn:Int) - 1=(nd:Int):=by have:=HSN.out.2; omega
  have q1:(0:Int)≤(nd:Int):=by omega
  have q2:(nd:Int) < sn:=by have:=HSN.out.2; omega
  clear hq hs
  go_wp2_with fail
  go_ret
  exact ⟨UW.out,_,rfl,fun h => absurd HJZ.out h,fun _ => ⟨_,rfl,FIN.out⟩⟩
 ·have HJZ:Hid ((judgeR p L).1≠0):=Zh (by rw [← HJ.out]; exact h0)
  have d0:(j != 0)=true:=by simpa using h0
  clear h0
  go_wp2_with fail
  go_ret
  exact ⟨U2.out,_,rfl,fun _ => rfl,fun h => absurd h HJZ.out⟩
end Go.Proofs.YtmjnmpifibemjaaGreatDoor.Rt
namespace Go.Proofs.YtmjnmpifibemjaaGreatDoor
open Go.RowKit Assoc MP
attribute [local go_sem] litStep_value
def sameTo (L M:List (Int × Int)) (k:Nat):Prop:=∀ j,j < k→L.getD j default=M.getD j default
theorem same_all {L M:List (Int × Int)} {n:Nat} (hl:L.length=n) (hm:M.length=n) (h:sameTo L M n):L=M:=by
 apply List.ext_getElem (by rw [hl,hm])
 intro i h1 h2
 have:=h i (by omega)
 rwa [List.getD_eq_getElem?_getD,List.getD_eq_getElem?_getD,List.getElem?_eq_getElem h1,List.getElem?_eq_getElem h2] at this
theorem pairs_ok (B B':Nat) (L M:List (Int × Int)) (v u:Value) (w:World) (hv:Ow encPr 157 w B v L) (hu:Ow encPr 157 w B' u M) (hL:L.length≤1000) (hM:M.length≤1000) :
 Calls Tryz.prog 43 #[v,u] w fun e w' => e=.returned (.bool (decide (L=M)))∧Upd [] w w':=by
 obtain ⟨A,c,rfl,hnc,hcm⟩:=own_slice hv
 obtain ⟨A',c',rfl,hnc',hcm'⟩:=own_slice hu
 obtain ⟨n,hn⟩:∃ n,L.length=n:=⟨_,rfl⟩
 obtain ⟨m,hm⟩:∃ m,M.length=m:=⟨_,rfl⟩
 have HV:=Zh hv
 have HU:=Zh hu
 have HN:=Zh hn
 have HM:=Zh hm
 rw [hn] at hL hnc ⊢
 rw [hm] at hM hnc' ⊢
 clear hv hu hn hm
 go_enter Tryz.func43,Tryz.ntmps43
 by_cases hnm:n=m
 ·subst hnm
  obtain ⟨r,hr⟩:∃ r,decide (L=M)=r:=⟨_,rfl⟩
  rw [hr]
  have HR:=Zh hr
  clear hr
  go_wp2_with fail
  go_loopw [5] (fun v wr => ∃ k:Nat,v=.int .i64 k∧k≤n∧Hid (sameTo L M k)∧Hid (Upd [] w wr)) (fun v _ => n - (intOf v).toNat)
  case atStart => exact ⟨0,rfl,by omega,Zh (fun j hj => by omega),Zh (.refl _ _)⟩
  case round =>
   obtain ⟨k,rfl,hk,HS,U1⟩:=hrel
   by_cases hkn:k < n
   ·obtain ⟨x,hx⟩:∃ x,L[k]?=some x:=⟨_,List.getElem?_eq_getElem (by rw [HN.out]; omega)⟩
    obtain ⟨y,hy⟩:∃ y,M[k]?=some y:=⟨_,List.getElem?_eq_getElem (by rw [HM.out]; omega)⟩
    have HX:=Zh hx
    have HY:=Zh hy
    obtain ⟨g,cg,cur,e1,_⟩:=own_form HV.out (by rw [HN.out]; omega)
    obtain ⟨g',cg',cur',e2,_⟩:=own_form HU.out (by rw [HM.out]; omega)
    injection e1 with e1 _ e1'
    injection e2 with e2 _ e2'
    subst e1 e2 e1' e2'
    have CS:Hid (∀ W,Upd [] wr.drew W→W.cell? ⟨g,k * 2,none⟩=some (.int .i64 x.1)∧W.cell? ⟨g,k * 2 + 1,none⟩=some (.int .i64 x.2)∧W.cell? ⟨g',k * 2,none⟩=some (.int .i64 y.1)∧W.cell? ⟨g',k * 2 + 1,none⟩=some (.int .i64 y.2)):=Zh (fun W hW => by
     have hu:Upd [] w W:=U1.out.drew.trans hW
     have ho:=HV.out.upd0 hu
     have ho':=HU.out.upd0 hu
     exact ⟨ho.at_ hx 0 _ rfl,ho.at_ hx 1 _ rfl,ho'.at_ hy 0 _ rfl,ho'.at_ hy 1 _ rfl⟩)
    have q1:(0:Int)≤(k:Int):=by omega
    have q2:(k:Int) < (n:Int):=by omega
    clear hx hy
    by_cases hxy:x=y
    ·subst hxy
     have SN:Hid (sameTo L M (k + 1)):=Zh (fun j hj => by
      by_cases e:j=k
      ·rw [e,List.getD_eq_getElem?_getD,List.getD_eq_getElem?_getD,HX.out,HY.out]
      ·exact HS.out j (by omega))
     go_wp2_with fail
     refine wp_invN [] [] (by kernel_rfl) (by kernel_rfl) (by kernel_rfl) trivial ?_
     iterate 9 (
      with_reducible apply wpV_light
      ·simp only [lightOp]
      ·intro W hU hF
       have f0:=CS.out W hU
       clear hU hF
       go_simp
       exact rfl
      simp only [aP])
     refine wpV_end (fun W hU _ _ => ?_)
     have U2:Hid (Upd [] w W):=Zh (U1.out.drew.trans hU)
     clear hU
     refine wpT_end ?_
     go_wp2_with fail
     go_roundw
     case rel => exact ⟨k + 1,rfl,by omega,Zh SN.out,U2⟩
     case measure => simp [intOf]; omega
    ·have NE:Hid (¬ L=M):=Zh (fun e => by
      have h1:=HX.out
      rw [e,HY.out] at h1
      exact hxy (Option.some.inj h1).symm)
     by_cases hw:x.1=y.1
     ·have hi:¬ x.2=y.2:=fun e => hxy (Prod.ext hw e)
      clear hxy
      go_wp2_with fail
      refine wp_invN [] [] (by kernel_rfl) (by kernel_rfl) (by kernel_rfl) trivial ?_
      iterate 9 (
       with_reducible apply wpV_light
       ·simp only [lightOp]
       ·intro W hU hF
        have f0:=CS.out W hU
        clear hU hF
        go_simp
        exact rfl
       simp only [aP])
      refine wpV_end (fun W hU _ _ => ?_)
      have U2:Hid (Upd [] w W):=Zh (U1.out.drew.trans hU)
      clear hU
      refine wpT_end ?_
      go_wp2_with fail
      go_ret
      refine ⟨?_,U2.out⟩
      rw [← HR.out,decide_eq_false (NE.out)]
      rfl
     ·clear hxy
      go_wp2_with fail
      refine wp_invN [] [] (by kernel_rfl) (by kernel_rfl) (by kernel_rfl) trivial ?_
      iterate 9 (
       with_reducible apply wpV_light
       ·simp only [lightOp]
       ·intro W hU hF
        have f0:=CS.out W hU
        clear hU hF
        go_simp
        exact rfl
       simp only [aP])
      refine wpV_end (fun W hU _ _ => ?_)
      have U2:Hid (Upd [] w W):=Zh (U1.out.drew.trans hU)
      clear hU
      refine wpT_end ?_
      go_wp2_with fail
      go_ret
      refine ⟨?_,U2.out⟩
      rw [← HR.out,decide_eq_false (NE.out)]
      rfl
   ·go_wp2_with fail
    go_ret
    have:k=n:=by omega
    subst this
    refine ⟨?_,U1.out⟩
    rw [← HR.out,decide_eq_true (same_all HN.out HM.out HS.out)]
    rfl
 ·have hnm':¬ (n:Int)=m:=by omega
  obtain ⟨r,hr⟩:∃ r,decide (L=M)=r:=⟨_,rfl⟩
  have hr':r=false:=by
   rw [← hr,decide_eq_false_iff_not]
   intro e
   have:=HN.out
   rw [e,HM.out] at this
   omega
  rw [hr,hr']
  clear hr hr'
  go_wp2_with fail
  go_ret
  exact ⟨rfl,.refl _ _⟩
theorem ints_ok (B B':Nat) (L M:List Int) (v u:Value) (w:World) (hv:Ow encK 3 w B v L) (hu:Ow encK 3 w B' u M) (hL:L.length≤1000000) (hM:M.length≤1000000) :
 Calls Tryz.prog 39 #[v,u] w fun e w' => e=.returned (.bool (decide (L=M)))∧Upd [] w w':=by
 obtain ⟨A,c,rfl,hnc,hcm⟩:=own_slice hv
 obtain ⟨A',c',rfl,hnc',hcm'⟩:=own_slice hu
 obtain ⟨n,hn⟩:∃ n,L.length=n:=⟨_,rfl⟩
 obtain ⟨m,hm⟩:∃ m,M.length=m:=⟨_,rfl⟩
 have HV:Hid (w.ownsRow B 3 1 (.slice A n c) n (flat encK L)):=Zh (by have:=hv; unfold Ow at this; rw [hn] at this; exact this)
 have HU:Hid (w.ownsRow B' 3 1 (.slice A' m c') m (flat encK M)):=Zh (by have:=hu; unfold Ow at this; rw [hm] at this; exact this)
 have HN:=Zh hn
 have HM:=Zh hm
 rw [hn] at hL hnc ⊢
 rw [hm] at hM hnc' ⊢
 clear hv hu hn hm
 obtain ⟨r,hr⟩:∃ r,decide (L=M)=r:=⟨_,rfl⟩
 have HR:=Zh hr
 rw [hr]
 clear hr
 go_enter Tryz.func39,Tryz.ntmps39
 by_cases hnm:n=m
 ·subst hnm
  have d:((n:Int) != (n:Int))=false:=by simp
  go_wp2_with fail
  go_loopw [5] (fun v wr => ∃ k:Nat,v=.int .i64 k∧k≤n∧Hid (sameToK L M k)∧Hid (Upd [] w wr)) (fun v _ => n - (intOf v).toNat)
  case atStart => exact ⟨0,rfl,by omega,Zh (fun j hj => by omega),Zh (.refl _ _)⟩
  case round =>
   obtain ⟨k,rfl,hk,HS,U1⟩:=hrel
   by_cases hkn:k < n
   ·obtain ⟨x,hx⟩:∃ x,L[k]?=some x:=⟨_,List.getElem?_eq_getElem (by rw [HN.out]; omega)⟩
    obtain ⟨y,hy⟩:∃ y,M[k]?=some y:=⟨_,List.getElem?_eq_getElem (by rw [HM.out]; omega)⟩
    have HX:=Zh hx
    have HY:=Zh hy
    obtain ⟨g,cg,cur,e1,_⟩:=own_form HV.out (by omega)
    obtain ⟨g',cg',cur',e2,_⟩:=own_form HU.out (by omega)
    injection e1 with e1 _ e1'
    injection e2 with e2 _ e2'
    subst e1 e2 e1' e2'
    have CS:Hid (∀ W,Upd [] wr.drew W→W.cell? ⟨g,k,none⟩=some (.int .i64 x)∧W.cell? ⟨g',k,none⟩=some (.int .i64 y)):=Zh (fun W hW => by
     have hu:Upd [] w W:=U1.out.drew.trans hW
     have h1:=own_cell (own_upd0 HV.out hu) _ _ ((flat_get (E:=encK) hx (j:=0) (by decide)).trans rfl)
     have h2:=own_cell (own_upd0 HU.out hu) _ _ ((flat_get (E:=encK) hy (j:=0) (by decide)).trans rfl)
     rw [show k * encK.s + 0=k by simp [encI]] at h1 h2
     exact ⟨h1,h2⟩)
    have q1:(0:Int)≤(k:Int):=by omega
    have q2:(k:Int) < (n:Int):=by omega
    clear hx hy
    go_wp2_with fail
    refine wp_invN [] [] (by kernel_rfl) (by kernel_rfl) (by kernel_rfl) trivial ?_
    iterate 9 (
     with_reducible apply wpV_light
     ·simp only [lightOp]
     ·intro W hU hF
      have f0:=CS.out W hU
      clear hU hF
      go_simp
      exact rfl
     simp only [aP])
    refine wpV_end (fun W hU _ _ => ?_)
    have U2:Hid (Upd [] w W):=Zh (U1.out.drew.trans hU)
    clear hU
    refine wpT_end ?_
    by_cases hxy:x=y
    ·have dd:(x != y)=false:=by simpa using hxy
     have HS2:Hid (sameToK L M (k + 1)):=Zh (fun j hj => by
      rcases Nat.lt_or_ge j k with h1 | h1
      ·exact HS.out j h1
      ·obtain rfl:j=k:=by omega
       rw [List.getD_eq_getElem?_getD,List.getD_eq_getElem?_getD,HX.out,HY.out,hxy])
     clear hxy
     go_wp2_with fail
     go_roundw
     case rel => exact ⟨k + 1,by go_num,by omega,HS2,U2⟩
     case measure => simp [intOf]; omega
    ·have dd:(x != y)=true:=by simpa using hxy
     have HZ:Hid (r=false):=Zh (by
      rw [← HR.out,decide_eq_false_iff_not]
      intro e
      have h1:=HX.out
      rw [e,HY.out] at h1
      injection h1 with h1
      exact hxy h1.symm)
     clear hxy
     go_wp2_with fail
     go_ret
     exact ⟨by rw [HZ.out]; rfl,U2.out⟩
   ·obtain rfl:k=n:=by omega
    have HZ:Hid (r=true):=Zh (by rw [← HR.out,decide_eq_true_iff]; exact sameK_all HN.out HM.out HS.out)
    go_wp2_with fail
    go_ret
    exact ⟨by rw [HZ.out]; rfl,U1.out⟩
 ·have d:((n:Int) != (m:Int))=true:=by simp; omega
  have HZ:Hid (r=false):=Zh (by rw [← HR.out,decide_eq_false_iff_not]; intro e; exact hnm (by rw [← HN.out,← HM.out,e]))
  go_wp2_with fail
  go_ret
  exact ⟨by rw [HZ.out]; rfl,.refl _ _⟩
end Go.Proofs.YtmjnmpifibemjaaGreatDoor
namespace Go.Proofs.YtmjnmpifibemjaaGreatDoor
open Go.RowKit Assoc MP
attribute [local go_sem] litStep_value
theorem mis_ok (B sb rb:Nat) (F G:List Nat) (s:MS) (w:World) (hs:Mdl B sb F w s) (hd:RMdl B rb G w s) :
 Calls Tryz.prog 17 #[.pointer (some ⟨sb,0,none⟩),.pointer (some ⟨rb,0,none⟩)] w fun e w' => e=.returned (.bool true)∧Upd [] w w':=by
 have HS0:=Zh hs
 have HD0:=Zh hd
 obtain ⟨hgd,vk,vl,ms,hF,hst⟩:=hd
 have HGD:=Zh hgd
 obtain ⟨Ak,ck,rfl,_,_⟩:=own_slice hst.k
 obtain ⟨NK,hNK⟩:∃ NK,s.K.length=NK:=⟨_,rfl⟩
 have HNK:=Zh hNK
 have HST:=Zh hst
 have hk8:NK≤8:=hNK ▸ hgd.k8
 rw [hNK] at HST
 have CK:Hid (∀ W,Upd [] w W→W.cell? ⟨rb,0,none⟩=some (.slice Ak NK ck)∧Ow encK 3 W B (.slice Ak NK ck) s.K):=Zh (fun W hW => ⟨by rw [← hNK]; exact (hst.box.upd hW (by simp)).cell 0,by rw [← hNK]; exact hst.k.upd0 hW⟩)
 clear hs hgd hst hF hNK
 go_enter Tryz.func17,Tryz.ntmps17
 have CS:Hid (∀ W,Upd [] w.drew W→W.cell? ⟨rb,0,none⟩=some (.slice Ak NK ck)):=Zh (fun W hW => (CK.out W ((Upd.refl [] w).drew.trans hW)).1)
 go_wp2_with fail
 refine wp_invN [(4,.own w.heap.size 3 1 NK (flat encK s.K)),(9,.det (.bool true))] [] (by kernel_rfl) (by kernel_rfl) (by kernel_rfl) ⟨lasts_own _ _ _ _ _ (by unfold maxLen; omega),lasts_det _,trivial⟩ ?_
 iterate 4 (
  with_reducible apply wpV_light
  ·simp only [lightOp]
  ·intro W hU hF
   have f0:=CS.out W hU
   clear hU hF
   go_simp
   exact rfl
  simp only [aP])
 refine wpV_heavy (by simp only [lightOp]) (by rfl) (fun W hU hk hF K hK => ?_) ?_
 ·go_wp2_with fail
  have hs1:=HS0.out.upd0 ((Upd.refl [] w).drew.trans hU)
  refine (m_kinds B sb F s W hs1).mono ?_
  rintro e w2 ⟨v2,rfl,o2,u2⟩
  go_wp2_with fail
  refine hK.out _ _ (outV_new rfl ?_ ?_ u2)
  ·have o3:w2.ownsRow w.heap.size 3 1 v2 NK (flat encK s.K):=own_base (by have:=o2; unfold Ow at this; rw [HNK.out] at this; exact this) hU.size
   exact o3
  ·intro b hb
   have hb1:b ∈ v2.ownBlock.toList:=hb
   have hb2:v2.ownBlock=some b:=by simpa using hb1
   exact own_lt o2 hb2
 rintro _ ⟨A2,c2,rfl,_,_⟩
 simp only [aP]
 iterate 4 (
  with_reducible apply wpV_light
  ·simp only [lightOp]
  ·intro W hU hF
   have f0:=CS.out W hU
   clear hU hF
   go_simp
   exact rfl
  simp only [aP])
 refine wpV_heavy (by simp only [lightOp]) (by rfl) (fun W hU hk hF K hK => ?_) ?_
 ·go_wp2_with fail
  have o2:W.ownsRow w.heap.size 3 1 (.slice A2 NK c2) NK (flat encK s.K):=hF.out.1 (by kernel_rfl)
  refine (ints_ok w.heap.size B s.K s.K (.slice A2 NK c2) (.slice Ak NK ck) W (by unfold Ow; rw [HNK.out]; exact o2) (CK.out W ((Upd.refl [] w).drew.trans hU)).2 (by rw [HNK.out]; omega) (by rw [HNK.out]; omega)).mono ?_
  rintro e w3 ⟨rfl,u3⟩
  rw [decide_eq_true rfl]
  go_wp2_with fail
  exact hK.out _ _ (outV_new rfl rfl (by intro b hb; cases hb) u3)
 rintro _ rfl
 simp only [aP]
 iterate 2 (
  with_reducible apply wpV_light
  ·simp only [lightOp]
  ·intro W hU hF
   have f0:=CS.out W hU
   clear hU hF
   go_simp
   exact rfl
  simp only [aP])
 refine wpV_end (fun W hU _ _ => ?_)
 have U1:Hid (Upd [] w W):=Zh ((Upd.refl [] w).drew.trans hU)
 clear hU
 refine wpT_end ?_
 have c0:W.cell? ⟨rb,0,none⟩=some (.slice Ak NK ck):=(CK.out W U1.out).1
 go_wp2_with fail
 go_loopw [27,5,6,7,8,9] (fun v v5 v6 v7 v8 v9 wr => ∃ k:Nat,v=.int .i64 k∧k≤NK∧Hid (Upd [] w wr)) (fun v _ _ _ _ _ _ => NK - (intOf v).toNat)
 case atStart => exact ⟨0,rfl,by omega,U1⟩
 case round =>
  obtain ⟨k,rfl,hk,UK⟩:=hrel
  clear c0 CS U1
  rename World => wr
  by_cases hkn:k < NK
  ·have hi:k < s.L.length:=by rw [← HGD.out.kl,HNK.out]; exact hkn
   have HI:=Zh hi
   have HIC:Hid (isC s k=true):=Zh (isC_nat hi)
   clear hi
   go_wp2_with fail
   refine (m_list B sb F s k wr (HS0.out.upd0 UK.out)).mono ?_
   rintro e w2 ⟨v2,e2,rfl,ev2,o2,u2⟩
   have EV2:Hid (ErrV w2 e2 0 0):=Zh (by rw [HIC.out] at ev2; exact ev2)
   have O2:Hid (Ow encPr 157 w2 wr.heap.size v2 (coll s k)):=Zh (by have:=o2; unfold listC at this; rw [HIC.out,Int.toNat_natCast] at this; exact this)
   have U2:=Zh (UK.out.trans u2)
   clear ev2 o2 u2
   go_wp2_with fail
   refine (m_size B sb F s k w2 (HS0.out.upd0 U2.out)).mono ?_
   rintro e w3 ⟨e3,rfl,ev3,u3⟩
   rw [HIC.out,if_pos rfl] at ev3 ⊢
   have EV3:Hid (ErrV w3 e3 0 0):=Zh ev3
   have EV2':Hid (ErrV w3 e2 0 0):=Zh (EV2.out.upd u3)
   have O3:Hid (Ow encPr 157 w3 wr.heap.size v2 (coll s k)):=Zh (O2.out.upd0 u3)
   have U3:=Zh (U2.out.trans u3)
   clear ev3 u3 O2 EV2
   obtain ⟨hgd,vk3,vl3,ms3,hF3,hst3⟩:=HD0.out.upd0 U3.out
   obtain ⟨gl,cl,Ai,ci,rfl,hcell,hoi,hmi⟩:=hst3.at_ HI.out
   obtain ⟨N,hN⟩:∃ N,s.L.length=N:=⟨_,rfl⟩
   obtain ⟨n,hn⟩:∃ n,(coll s k).length=n:=⟨_,rfl⟩
   have hn1:n≤100:=hn ▸ hgd.len _ (coll_mem HI.out)
   have hi2:k < N:=hN ▸ HI.out
   have c1:w3.cell? ⟨rb,1,none⟩=some (.slice (some ⟨gl,0,none⟩) N cl):=by rw [← hN]; exact hst3.box.cell 1
   have e0:w3.cell? ⟨gl,k,none⟩=some (.slice Ai n ci):=by rw [← hn]; exact hcell
   have HN:=Zh hn
   have HC1:Hid (∀ W,Upd [] w3 W→W.cell? ⟨rb,1,none⟩=some (.slice (some ⟨gl,0,none⟩) N cl)):=Zh (fun W hW => by rw [← hN]; exact (hst3.box.upd hW (by simp)).cell 1)
   have HE0:Hid (∀ W,Upd [] w3 W→W.cell? ⟨gl,k,none⟩=some (.slice Ai n ci)):=Zh (fun W hW => by rw [← hn]; exact own_cell (own_upd0 hst3.l hW) k _ hmi)
   have OI:Hid (Ow encPr 157 w3 B (.slice Ai n ci) (coll s k)):=Zh (by rw [← hn]; exact hoi)
   have q1:(0:Int)≤(k:Int):=by omega
   have q2:(k:Int) < (N:Int):=by omega
   rw [Int.toNat_natCast,hn]
   clear hcell hoi hN hn hst3 hgd hF3 hmi
   go_wp2_with fail
   refine (no_err EV2'.out).mono ?_; rintro e w4 ⟨rfl,rfl⟩
   go_wp2_with fail
   refine (no_err EV3.out).mono ?_; rintro e w4 ⟨rfl,rfl⟩
   go_wp2_with fail
   refine (pairs_ok wr.heap.size B (coll s k) (coll s k) v2 (.slice Ai n ci) w3 O3.out OI.out (by rw [HN.out]; omega) (by rw [HN.out]; omega)).mono ?_
   rintro e w5 ⟨rfl,u5⟩
   rw [decide_eq_true rfl]
   have U5:=Zh (U3.out.trans u5)
   have c1':w5.cell? ⟨rb,1,none⟩=some (.slice (some ⟨gl,0,none⟩) N cl):=HC1.out w5 u5
   have e0':w5.cell? ⟨gl,k,none⟩=some (.slice Ai n ci):=HE0.out w5 u5
   have d1:((n:Int) != (n:Int))=false:=by simp
   clear u5
   go_wp2_with fail
   go_roundw
   case rel => exact ⟨k + 1,by go_num,by omega,U5⟩
   case measure => simp [intOf]; omega
  ·obtain rfl:k=NK:=by omega
   go_wp2_with fail
   go_ret
   exact ⟨rfl,UK.out⟩
end Go.Proofs.YtmjnmpifibemjaaGreatDoor
namespace Go.Proofs.YtmjnmpifibemjaaGreatDoor
open Go.RowKit St Jd Ev Rt Rv
attribute [local go_sem] litStep_value
theorem law_jtells (p:Pn) (kv tv:Value) (A:Option Addr) (n c:Nat) (M:List En) (w:World) (hP:PlanV w p kv tv) (hz:SzP p) (hb:CntP p) (hr:Rd encE w (.slice A n c) M) (hn:M.length=n) (hc:n≤c) (hcm:c≤9223372036854775807) (hen:∀ m ∈ M,EnOk w m∧m.tn≤9223372036854775807) (hg:Typed w) :
 Calls Tryz.prog 5 #[planC p kv tv,.slice A n c] w fun e w' => e=.returned (.bool true)∧Upd [] w w':=by
 have HP:=Zh hP
 have HZ:=Zh hz
 have HB:=Zh hb
 have HR:=Zh hr
 have HN:=Zh hn
 have HEN:=Zh hen
 have HG:=Zh hg
 have hn63:(n:Int)≤9223372036854775807:=by omega
 have HNC:=Zh (And.intro hc hcm)
 obtain ⟨wo,hwo⟩:∃ x,x=p.words:=⟨_,rfl⟩
 obtain ⟨pa,hpa⟩:∃ x,x=p.pat:=⟨_,rfl⟩
 have HPC:Hid (planC p kv tv=.agg #[.int .i64 wo,.int .i64 pa,kv,tv]):=Zh (by rw [hwo,hpa])
 unfold planC
 rw [← hwo,← hpa]
 obtain ⟨Ak,ck,hkv⟩:∃ A c,kv=.slice A p.ks.length c:=by obtain ⟨_,A,c,e,_⟩:=hP.ks; exact ⟨A,c,e⟩
 obtain ⟨At,ct,htv⟩:∃ A c,tv=.slice A p.ths.length c:=by obtain ⟨vs,⟨_,A,c,e,_⟩,_⟩:=hP.ths; exact ⟨A,c,e⟩
 obtain ⟨nk,hnk⟩:∃ k,k=p.ks.length:=⟨_,rfl⟩
 obtain ⟨nt,hnt⟩:∃ k,k=p.ths.length:=⟨_,rfl⟩
 rw [← hnk] at hkv
 rw [← hnt] at htv
 subst hkv htv
 clear hP hz hb hr hn hc hcm hen hg hwo hpa hnk hnt
 go_enter Tryz.func5,Tryz.ntmps5
 obtain ⟨w1,hw1⟩:∃ w1,w1=w.alloc (.cells #[.int .i64 wo,.int .i64 pa,.slice Ak nk ck,.slice At nt ct] 25):=⟨_,rfl⟩
 have U1:Hid (Upd [] w w1):=Zh (by rw [hw1]; exact (Upd.refl _ _).alloc _)
 have X1:Hid (Blk w1 w.heap.size 25 #[.int .i64 wo,.int .i64 pa,.slice Ak nk ck,.slice At nt ct]):=Zh (by rw [hw1]; exact Blk.new _ _ _)
 obtain ⟨pb,hpb⟩:∃ x,x=w.heap.size:=⟨_,rfl⟩
 rw [← hpb] at X1
 go_wp2_with fail
 rw [← hw1,← hpb]
 clear hw1 hpb
 have hf:=few25_ok p (.slice Ak nk ck) (.slice At nt ct) A n c M w1 (HP.out.upd0 U1.out) HZ.out HB.out (HR.out.upd0 U1.out) HN.out (by have:=HNC.out; omega) (fun m hm => (HEN.out m hm).2)
 rw [HPC.out] at hf
 refine hf.mono ?_
 rintro e w2 ⟨b,rfl,hfew,u2⟩
 have U2:=Zh (U1.out.trans u2)
 have X2:=Zh (X1.out.upd u2 (by simp))
 have HFEW:=Zh hfew
 clear hf u2 hfew
 cases b with
 | false =>
   go_wp2_with fail
   refine (alive25_ok _ (HG.out.upd U2.out (by simp))).mono ?_
   rintro e w3 ⟨rfl,u3⟩
   have U3:=Zh (U2.out.trans u3)
   clear u3
   go_wp2_with fail
   go_ret
   exact ⟨rfl,U3.out⟩
 | true =>
   have HF:Hid (FewOk p M∧n≤40):=Zh ⟨HFEW.out rfl,by have:=(HFEW.out rfl).2.1; have:=HN.out; omega⟩
   have BW:Hid (∀ W,Upd [] w W→Base W p (.slice Ak nk ck) (.slice At nt ct) M∧Rd encE W (.slice A n c) M∧edsW W M=edsW w M):=Zh (fun W hu => ⟨⟨HP.out.upd0 hu,fun m hm => ((HEN.out m hm).1.upd0 hu).1,HG.out.upd hu (by simp)⟩,HR.out.upd0 hu,edsW_upd (fun m hm => (HEN.out m hm).1) hu⟩)
   have HT:Hid (∀ m ∈ M,m.tn≤300000):=Zh (fun m hm => Nat.le_trans (HF.out.1.2.2 m hm) (by omega))
   obtain ⟨L,hL⟩:∃ L,L=edsW w M:=⟨_,rfl⟩
   have HL:=Zh hL
   obtain ⟨j0,hj0⟩:∃ j,j=judgeR p L:=⟨_,rfl⟩
   obtain ⟨j,a⟩:=j0
   have HJ:Hid ((judgeR p L).1=j∧(judgeR p L).2=a):=Zh ⟨by rw [← hj0],by rw [← hj0]⟩
   have x2:=X2.out.facts
   clear hL hj0
   go_wp2_with fail
   have h3:=judge_ok A n c M p (.slice Ak nk ck) (.slice At nt ct) w2 (BW.out _ U2.out).1 (BW.out _ U2.out).2.1 HN.out HF.out.2 HF.out.1.1 HZ.out HT.out
   rw [HPC.out,(BW.out _ U2.out).2.2,← HL.out,HJ.out.1,HJ.out.2] at h3
   refine h3.mono ?_
   rintro e w3 ⟨v3,rfl,e3,u3⟩
   have U3:=Zh (U2.out.trans u3)
   have X3:=Zh (X2.out.upd u3 (by simp))
   have E3:=Zh e3
   have x3:=X3.out.facts
   clear h3 e3 u3 x2
   go_wp2_with fail
   have h4:=judge_r p (.slice Ak nk ck) (.slice At nt ct) A n c M w3 (BW.out _ U3.out).1 (BW.out _ U3.out).2.1 HN.out HF.out.2 HF.out.1.1 HZ.out HT.out
   rw [HPC.out,(BW.out _ U3.out).2.2,← HL.out,HJ.out.1,HJ.out.2] at h4
   refine h4.mono ?_
   rintro e w4 ⟨rfl,u4⟩
   have U4:=Zh (U3.out.trans u4)
   have X4:=Zh (X3.out.upd u4 (by simp))
   have E4:=Zh (E3.out.upd u4)
   have x4:=X4.out.facts
   clear h4 u4 x3
   go_wp2_with fail
   have h5:=final_ok A n c M p (.slice Ak nk ck) (.slice At nt ct) w4 (BW.out _ U4.out).1 (BW.out _ U4.out).2.1 HN.out HF.out.2 HF.out.1.1 HZ.out HT.out
   rw [HPC.out,(BW.out _ U4.out).2.2,← HL.out] at h5
   refine h5.mono ?_
   rintro e w5 ⟨u5,v5,s5,rfl,e5,n5,p5⟩
   rw [HJ.out.1,HJ.out.2] at e5
   rw [HJ.out.1] at n5 p5
   have U5:=Zh (U4.out.trans u5)
   have X5:=Zh (X4.out.upd u5 (by simp))
   have E5:=Zh (And.intro (E4.out.upd u5) e5)
   have S5:=Zh (And.intro n5 p5)
   have x5:=X5.out.facts
   clear h5 u5 x4 e5 n5 p5
   go_wp2_with fail
   have h6:=final_r p (.slice Ak nk ck) (.slice At nt ct) A n c M w5 (BW.out _ U5.out).1 (BW.out _ U5.out).2.1 HN.out HF.out.2 HF.out.1.1 HZ.out HT.out
   rw [HPC.out,(BW.out _ U5.out).2.2,← HL.out] at h6
   refine h6.mono ?_
   rintro e w6 ⟨u6,s6,rfl,n6,p6⟩
   rw [HJ.out.1] at n6 p6
   have U6:=Zh (U5.out.trans u6)
   have U56:=Zh u6
   have E6:Hid (ErrV w6 v3 j a∧ErrV w6 v5 j a):=Zh ⟨E5.out.1.upd u6,E5.out.2.upd u6⟩
   have TY6:Hid (Typed w6):=Zh (HG.out.upd U6.out (by simp))
   have d0:(j != j)=false:=by simp
   have d1:(a != a)=false:=by simp
   by_cases hj:j=0
   ·obtain ⟨sb,F,hs5,m5⟩:=S5.out.2 hj
    obtain ⟨q,hs6,r6⟩:=p6 hj
    subst hs5 hs6
    have MM:Hid (Mdl 0 sb F w6 (finR p L)∧RSt q w6 (finR p L)):=Zh ⟨mdl_base (m5.upd0 U56.out) (Nat.zero_le _),r6⟩
    clear h6 u6 x5 n6 p6 m5 r6 hj
    go_wp2_with fail
    refine (no_err E6.out.1).mono ?_
    rintro e w7 ⟨rfl,rfl⟩
    go_wp2_with fail
    refine (place_err E6.out.1 TY6.out).mono ?_
    rintro e w7 ⟨rfl,u7⟩
    have U7:=Zh u7
    have E7:=Zh (E6.out.2.upd u7)
    clear u7
    go_wp2_with fail
    refine (no_err E7.out).mono ?_
    rintro e w8 ⟨rfl,rfl⟩
    go_wp2_with fail
    obtain ⟨G,hG⟩:=MM.out.2.upd0 U7.out
    refine (mis_ok 0 sb q F G (finR p L) w7 (MM.out.1.upd0 U7.out) hG).mono ?_
    rintro e w9 ⟨rfl,u9⟩
    have U9:=Zh (U7.out.trans u9)
    clear u9 hG
    go_wp2_with fail
    refine (alive25_ok _ (TY6.out.upd U9.out (by simp))).mono ?_
    rintro e w10 ⟨rfl,u10⟩
    have U10:=Zh ((U6.out.trans U9.out).trans u10)
    clear u10
    go_wp2_with fail
    go_ret
    exact ⟨rfl,U10.out⟩
   ·have hs5:=S5.out.1 hj
    have hs6:=n6 hj
    subst hs5 hs6
    clear h6 u6 x5 n6 p6 hj
    go_wp2_with fail
    refine (no_err E6.out.1).mono ?_
    rintro e w7 ⟨rfl,rfl⟩
    go_wp2_with fail
    refine (place_err E6.out.1 TY6.out).mono ?_
    rintro e w7 ⟨rfl,u7⟩
    have U7:=Zh u7
    have E7:=Zh (E6.out.2.upd u7)
    clear u7
    go_wp2_with fail
    refine (no_err E7.out).mono ?_
    rintro e w8 ⟨rfl,rfl⟩
    go_wp2_with fail
    refine (alive25_ok _ (TY6.out.upd U7.out (by simp))).mono ?_
    rintro e w10 ⟨rfl,u10⟩
    have U10:=Zh ((U6.out.trans U7.out).trans u10)
    clear u10
    go_wp2_with fail
    go_ret
    exact ⟨rfl,U10.out⟩
end Go.Proofs.YtmjnmpifibemjaaGreatDoor
namespace Go.Proofs.YtmjnmpifibemjaaGreatDoor.DoorKit
open Go.ChangeShapes Go.WideShapes Go.ChangeAt Go.RowKit
theorem own:ownKnob Tryz.prog.godebug=none:=by kernel_rfl
theorem laidOut:laidOutB Tryz.prog=true:=by kernel_rfl
theorem et:Tryz.prog.globalNamed "errors.errorType"=some 0:=by kernel_rfl
theorem rt:(Tryz.prog.cutTypes.find? (·.1 == "internal/reflectlite.rtype")).map (·.2)=some 164:=by kernel_rfl
theorem oneRow:((List.range 277).filter fun t => Tryz.prog.rowNamed t [101,114,114,111,114])=[45]:=by kernel_rfl
theorem size:Tryz.prog.types.size=277:=by kernel_rfl
theorem of_laid {W:World} (h:laidMetH Tryz.prog [("errors.errorType",Rows.laid_errors_errorType)] W):Typed W:=by
 have h':laidMet Tryz.prog [] W∧handlesMet Tryz.prog [("errors.errorType",Rows.laid_errors_errorType)] W:=h
 obtain ⟨name,u,ty,e1,e2,e3,e4,e5⟩:=h'.2 _ (List.mem_singleton.2 rfl)
 have en:name=[101,114,114,111,114]:=(Option.some.inj e1).symm
 subst en
 obtain rfl:=Option.some.inj (rt.symm.trans e2)
 have hm:ty ∈ (List.range 277).filter fun t => Tryz.prog.rowNamed t [101,114,114,111,114]:=List.mem_filter.2 ⟨List.mem_range.2 (by rw [← size]; exact e3),e4⟩
 rw [oneRow] at hm
 obtain rfl:=List.mem_singleton.1 hm
 have hh:typeHandle Tryz.prog 45=.pointer (some ⟨1,45,none⟩):=by kernel_rfl
 rw [hh] at e5
 have hc:W.cell? ⟨0,0,none⟩=some (.iface 164 (.agg #[.pointer (some ⟨1,45,none⟩)])):=by simpa using World.var?_cell et e5 0
 exact ⟨hc,World.block_lt_of_cell? _ _ hc⟩
theorem door_met (os:Os) (args:Array Value):laidMetH Tryz.prog [("errors.errorType",Rows.laid_errors_errorType)] ((World.doorLaid Tryz.prog 400 os).forCall (fun _ _ => 0) ⟨#[],args,[]⟩).memory :=
 laidMetH_of_parts3 (fuel:=8) (laidMet_nil _ _) (by kernel_rfl) (by kernel_rfl)
end Go.Proofs.YtmjnmpifibemjaaGreatDoor.DoorKit

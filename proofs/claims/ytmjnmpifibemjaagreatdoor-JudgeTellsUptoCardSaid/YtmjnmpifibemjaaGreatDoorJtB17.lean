/-
 judge.Judge.
-/
import Derived.Test.YtmjnmpifibemjaaGreatDoorJtB16
import Derived.Test.YtmjnmpifibemjaaGreatDoorJtB6
import Derived.Test.YtmjnmpifibemjaaGreatDoorJtB15
import Derived.Test.YtmjnmpifibemjaaGreatDoorJtB7
set_option linter.unusedVariables false
set_option linter.unusedSimpArgs false
set_option maxRecDepth 100000
set_option maxHeartbeats 16000000
namespace Go.Proofs.YtmjnmpifibemjaaGreatDoor
open Go.RowKit St Jd Ev
attribute [local go_sem] litStep_value
theorem done_eds (w:World) (M:List En):doneR (edsW w M)=edsW w (M.filter dnE):=by
 unfold doneR edsW
 rw [List.filter_map]
 rfl
theorem other_eds (w:World) (M:List En):otherR (edsW w M)=edsW w (M.filter fun m => !dnE m):=by
 unfold otherR edsW
 rw [List.filter_map]
 rfl
theorem eds_getD {w:World} {M:List En} {i:Nat} {m:En} (h:M[i]?=some m):(edsW w M).getD i default=edW w m:=by
 unfold edsW
 rw [List.getD_eq_getElem?_getD,List.getElem?_map,h]
 rfl
section
variable {p:Pn} {l:List Ed}
theorem jr_bad {i:Nat} (hi:i < l.length) (h:∀ j,j < i→(txnR p (l.getD j default).a).isNone=false) (hn:(txnR p (l.getD i default).a).isNone=true):judgeR p l=(3,(i:Int) + 1):=by
 unfold judgeR
 rw [show (List.range l.length).find? (fun i => (txnR p (l.getD i default).a).isNone)=some i by
  rw [List.find?_range_eq_some]
  exact ⟨hn,by simpa using hi,fun j hj => by rw [h j hj]; rfl⟩]
theorem jr_none (h:∀ j,j < l.length→(txnR p (l.getD j default).a).isNone=false):(List.range l.length).find? (fun i => (txnR p (l.getD i default).a).isNone)=none:=Jd.find_none.2 h
theorem jr_chk (h:∀ j,j < l.length→(txnR p (l.getD j default).a).isNone=false) (hc:(chkR (attsR (doneR l))).1≠0):judgeR p l=chkR (attsR (doneR l)):=by
 unfold judgeR
 rw [jr_none h]
 simp only
 rw [if_pos hc]
theorem jr_rep (h:∀ j,j < l.length→(txnR p (l.getD j default).a).isNone=false) (hc:(chkR (attsR (doneR l))).1=0) {k:Nat} (hr:repR p (doneR l)=some k):judgeR p l=(12,(k:Int) + 1):=by
 unfold judgeR
 rw [jr_none h]
 simp only
 rw [if_neg (by simp [hc])]
 unfold repR at hr
 rw [hr]
theorem jr_end (h:∀ j,j < l.length→(txnR p (l.getD j default).a).isNone=false) (hc:(chkR (attsR (doneR l))).1=0) (hr:repR p (doneR l)=none) :
 judgeR p l=match (List.range (otherR l).length).find? (fun i => lostR p (doneR l) ((otherR l).getD i default)) with | some i => (5,(i:Int) + 1) | none => (0,0):=by
 unfold judgeR
 rw [jr_none h]
 simp only
 rw [if_neg (by simp [hc])]
 unfold repR at hr
 rw [hr]
 rfl
theorem idx_spec {f:Ed→Bool} {w:World} {O:List En}:(List.range O.length).find? (fun i => (O[i]?.map (fun m => f (edW w m))).getD false)=(List.range (edsW w O).length).find? (fun i => f ((edsW w O).getD i default)):=by
 rw [show (edsW w O).length=O.length by simp [edsW]]
 have key:∀ i ∈ List.range O.length,(O[i]?.map (fun m => f (edW w m))).getD false=f ((edsW w O).getD i default):=fun i hi => by
  have hil:i < O.length:=by simpa using hi
  have h:=List.getElem?_eq_getElem hil
  rw [eds_getD h,h]
  rfl
 generalize List.range O.length=R at key
 induction R with
 | nil => rfl
 | cons a R ih =>
   rw [List.find?_cons,List.find?_cons,key a (List.mem_cons_self ..),ih (fun i hi => key i (List.mem_cons_of_mem _ hi))]
end
theorem errv_nil {w:World} {v:Value} {a:Int} (h:ErrV w v 0 a):v=.nilIface∧a=0:=by
 rcases h with ⟨h,_,h2⟩ | ⟨_,h,_⟩ | ⟨_,_,_,h,_⟩
 ·exact ⟨h,h2⟩
 ·omega
 ·omega
theorem judge_ok (A:Option Addr) (n c:Nat) (M:List En) (p:Pn) (kv tv:Value) (w:World) (hb:Base w p kv tv M) (hr:Rd encE w (.slice A n c) M) (hn:M.length=n) (hM:n≤40) (hf:FitP p) (hz:SzP p) (htn:∀ m ∈ M,m.tn≤300000) :
 Calls Tryz.prog 11 #[planC p kv tv,.slice A n c] w fun e w' => ∃ v,e=.returned v∧ErrV w' v (judgeR p (edsW w M)).1 (judgeR p (edsW w M)).2∧Upd [] w w':=by
 have HB:=Zh hb
 have HR:=Zh hr
 have HN:Hid (M.length=n∧n≤40):=Zh ⟨hn,hM⟩
 have HF:=Zh (And.intro hf hz)
 have HTN:=Zh htn
 have hn40:(n:Int)≤40:=by omega
 have H100:Hid (p.ths.length≤100∧∀ t ∈ p.ths,t.length≤100):=Zh ⟨by have:=hf.th6; omega,fun t ht => by have:=hf.tx20 t ht; omega⟩
 obtain ⟨As,cs,hs1⟩:∃ A c,kv=.slice A p.ks.length c:=by obtain ⟨_,A,c,e,_⟩:=hb.plan.ks; exact ⟨A,c,e⟩
 obtain ⟨At,ct,hs2⟩:∃ A c,tv=.slice A p.ths.length c:=by obtain ⟨vs,⟨_,A,c,e,_⟩,_⟩:=hb.plan.ths; exact ⟨A,c,e⟩
 obtain ⟨nk,hnk⟩:∃ k,k=p.ks.length:=⟨_,rfl⟩
 obtain ⟨nt,hnt⟩:∃ k,k=p.ths.length:=⟨_,rfl⟩
 rw [← hnk] at hs1
 rw [← hnt] at hs2
 subst hs1 hs2
 clear hb hr hn hM hf hz htn hnk hnt
 go_enter Tryz.func11,Tryz.ntmps11
 go_wp2_with fail
 obtain ⟨w1,hw1⟩:∃ w1,w1=(((w.alloc (.cells #[.int .i64 p.words,.int .i64 p.pat,.slice As nk cs,.slice At nt ct] 25)).alloc (.cells #[.int .i64 p.words,.int .i64 p.pat,.slice As nk cs,.slice At nt ct,.slice none 0 0,.slice none 0 0,.slice none 0 0] 77)).alloc (.cells #[.pointer (some ⟨w.heap.size + 1,0,none⟩)] 74)):=⟨_,rfl⟩
 have U1:Hid (Upd [] w w1):=Zh (by rw [hw1]; exact (((Upd.refl _ _).alloc _).alloc _).alloc _)
 have X0:Hid (Blk w1 w.heap.size 25 #[.int .i64 p.words,.int .i64 p.pat,.slice As nk cs,.slice At nt ct]∧Blk w1 (w.heap.size + 1) 77 #[.int .i64 p.words,.int .i64 p.pat,.slice As nk cs,.slice At nt ct,.slice none 0 0,.slice none 0 0,.slice none 0 0]∧Blk w1 (w.heap.size + 1 + 1) 74 #[.pointer (some ⟨w.heap.size + 1,0,none⟩)]):=Zh (by
  rw [hw1]
  exact ⟨((Blk.new _ _ _).alloc _).alloc _,(Blk.newAt _ _ (by simp)).alloc _,Blk.newAt _ _ (by simp)⟩)
 rw [← hw1]
 clear hw1
 obtain ⟨lb,hlb⟩:∃ x,x=w.heap.size:=⟨_,rfl⟩
 obtain ⟨jb,hjb⟩:∃ x,x=lb + 1:=⟨_,rfl⟩
 obtain ⟨pb,hpb⟩:∃ x,x=lb + 1 + 1:=⟨_,rfl⟩
 have HLB:Hid (lb=w.heap.size∧jb=lb + 1∧pb=lb + 1 + 1):=Zh ⟨hlb,hjb,hpb⟩
 rw [← hlb,← hpb,← hjb] at X0
 rw [← hlb,← hpb,← hjb]
 clear hlb hjb hpb
 go_loopw [6,7,8,9,21] (fun u6 u7 u8 u9 u21 wr => ∃ i:Nat,u21=.int .i64 i∧i≤n∧Hid (Upd [] w1 wr∧∀ j,j < i→(txnR p ((edsW w M).getD j default).a).isNone=false)) (fun _ _ _ _ u _ => n - (intOf u).toNat)
 case atStart => exact ⟨0,rfl,by omega,Zh ⟨.refl _ _,fun j hj => by omega⟩⟩
 case round =>
  obtain ⟨i,rfl,hi,KX⟩:=hrel
  rename World => wr
  have b0:=(X0.out.1.upd KX.out.1 (by simp)).facts
  by_cases hlt:i < n
  ·have hii:(i:Int) < n:=by omega
   obtain ⟨m,hmm⟩:∃ m,M[i]?=some m:=⟨_,List.getElem?_eq_getElem (by rw [HN.out.1]; exact hlt)⟩
   obtain ⟨ad,hA,hl,hc⟩:=(HR.out.upd0 (U1.out.trans KX.out.1)).at_ hmm
   obtain ⟨c0,c1,c2,c3,c4,c5,c6,c7,c8⟩:=en_cells hc
   have hbb:(ad.add (i * 9)).block < wr.heap.size:=by rw [block_add]; exact hl
   have HMM:Hid (M[i]?=some m∧i < n):=Zh ⟨hmm,hlt⟩
   clear hmm hc hl hi hlt
   subst hA
   go_wp2_with fail
   have hu:Upd [] w (wr.alloc (.cells #[.int .i64 m.th,.int .i64 m.ix,.int .i64 m.st,.bool m.wr,.int .i64 m.be,.int .i64 m.en,.int .i64 m.kd,.slice m.ta m.tn m.tc,.int .i64 m.er] 42)):=(U1.out.trans KX.out.1).alloc _
   have hcc:=txn_ok p (.slice As nk cs) (.slice At nt ct) m _ (HB.out.plan.upd0 hu) H100.out
   refine hcc.mono ?_
   rintro e w2 ⟨v,rfl,_,u2⟩
   have U2:Hid (Upd [] w1 w2):=Zh ((KX.out.1.alloc _).trans u2)
   clear u2 hcc hu c0 c1 c2 c3 c4 c5 c6 c7 c8 hbb b0
   have EI:Hid (((edsW w M).getD i default).a=attE m):=Zh (by rw [eds_getD HMM.out.1]; rfl)
   cases hx:(txnR p (attE m)).isSome with
   | true =>
     have X2:Hid (Upd [] w1 w2∧∀ j,j < i + 1→(txnR p ((edsW w M).getD j default).a).isNone=false):=Zh ⟨U2.out,fun j hj => by
      by_cases e:j=i
      ·rw [e,EI.out,← Option.not_isSome,hx]; rfl
      ·exact KX.out.2 j (by omega)⟩
     clear hx
     go_wp2_with fail
     go_round
     case rel => exact ⟨i + 1,by simp,by have:=HMM.out.2; omega,X2⟩
     case measure => have:=HMM.out.2; simp [intOf]; omega
   | false =>
     have HJR:Hid (judgeR p (edsW w M)=(3,(i:Int) + 1)):=Zh (jr_bad (by simp [edsW]; rw [HN.out.1]; exact HMM.out.2) KX.out.2 (by rw [EI.out,← Option.not_isSome,hx]; rfl))
     clear hx
     go_wp2_with fail
     refine (jwrong_ok ((i:Int) + 1) 3 (by omega) (by omega) w2).mono ?_
     rintro e w3 ⟨v3,rfl,e3,u3⟩
     have E3:=Zh e3
     have U3:=Zh ((U1.out.trans U2.out).trans u3)
     clear e3 u3
     go_wp2_with fail
     go_ret
     rw [HJR.out]
     exact ⟨_,rfl,E3.out,U3.out⟩
  ·have hii:¬ ((i:Int) < n):=by omega
   have UX:Hid (Upd [] w wr):=Zh (U1.out.trans KX.out.1)
   have HALL:Hid (∀ j,j < (edsW w M).length→(txnR p ((edsW w M).getD j default).a).isNone=false):=Zh (fun j hj => KX.out.2 j (by simp [edsW] at hj; rw [HN.out.1] at hj; omega))
   have UX1:Hid (Upd [] w1 wr):=Zh KX.out.1
   clear hi hlt b0 KX
   go_wp2_with fail
   refine (split_ok A n c M wr (HR.out.upd0 UX.out) HN.out.1 (by have:=HN.out; omega)).mono ?_
   rintro e w2 ⟨v1,v2,rfl,s1,s2,s3,_⟩
   obtain ⟨D,hD⟩:∃ D,D=M.filter dnE:=⟨_,rfl⟩
   obtain ⟨O,hO⟩:∃ O,O=M.filter fun m => !dnE m:=⟨_,rfl⟩
   rw [← hD] at s2
   rw [← hO] at s3
   obtain ⟨nd,hnd⟩:∃ k,k=D.length:=⟨_,rfl⟩
   obtain ⟨no,hno⟩:∃ k,k=O.length:=⟨_,rfl⟩
   have HDO:Hid (D=M.filter dnE∧O=(M.filter fun m => !dnE m)∧nd=D.length∧no=O.length∧nd≤n∧no≤n):=Zh ⟨hD,hO,hnd,hno,by rw [hnd,hD,← HN.out.1]; exact List.length_filter_le _ _,by rw [hno,hO,← HN.out.1]; exact List.length_filter_le _ _⟩
   have o2:w2.ownsRow wr.heap.size 42 9 v1 nd (flat encE D):=by rw [hnd]; exact s2
   have o3:w2.ownsRow wr.heap.size 42 9 v2 no (flat encE O):=by rw [hno]; exact s3
   obtain ⟨Ad,cd,rfl,_,_⟩:=own_slice o2
   obtain ⟨Ao,co,rfl,_,_⟩:=own_slice o3
   have O2:=Zh o2
   have O3:=Zh o3
   have U2:=Zh (UX.out.trans s1)
   have U12:=Zh (UX1.out.trans s1)
   have SZ:Hid (w.heap.size≤wr.heap.size):=Zh UX.out.size
   have hnd40:(nd:Int)≤40:=by have:=HDO.out; have:=HN.out; omega
   have hno40:(no:Int)≤40:=by have:=HDO.out; have:=HN.out; omega
   have j2:Blk w2 jb 77 #[.int .i64 p.words,.int .i64 p.pat,.slice As nk cs,.slice At nt ct,.slice none 0 0,.slice none 0 0,.slice none 0 0]:=X0.out.2.1.upd U12.out (by simp)
   have p2:Blk w2 pb 74 #[.pointer (some ⟨jb,0,none⟩)]:=X0.out.2.2.upd U12.out (by simp)
   have jf:=j2.facts
   have pf:=p2.facts
   have J2:=Zh j2
   have P2:=Zh p2
   clear s1 s2 s3 hD hO hnd hno o2 o3 j2 p2 UX1 U12 X0 U1
   go_wp2_with fail
   obtain ⟨w3,hw3⟩:∃ w3,w3=w2.setCell ⟨jb,4,none⟩ (.slice Ad nd cd):=⟨_,rfl⟩
   have u23:Upd [jb] w2 w3:=by rw [hw3]; exact (Upd.refl _ _).setCell (by simp) _
   have J3:Hid (Blk w3 jb 77 #[.int .i64 p.words,.int .i64 p.pat,.slice As nk cs,.slice At nt ct,.slice Ad nd cd,.slice none 0 0,.slice none 0 0]):=Zh (by rw [hw3]; exact J2.out.set_ 4 _)
   have P3:Hid (Blk w3 pb 74 #[.pointer (some ⟨jb,0,none⟩)]):=Zh (P2.out.upd u23 (by have:=HLB.out; simp; omega))
   have D3:Hid (w3.ownsRow wr.heap.size 42 9 (.slice Ad nd cd) nd (flat encE D)):=Zh (own_upd O2.out u23 (fun b hb hm => by have:=own_type O2.out J2.out (by decide); simp at hm; exact this (hm ▸ hb)))
   have O33:Hid (w3.ownsRow wr.heap.size 42 9 (.slice Ao no co) no (flat encE O)):=Zh (own_upd O3.out u23 (fun b hb hm => by have:=own_type O3.out J2.out (by decide); simp at hm; exact this (hm ▸ hb)))
   have U3:Hid (Upd [] w w3):=Zh (U2.out.trans' u23 (fun x hx => .inr (by have:=HLB.out; simp at hx; omega)))
   rw [← hw3]
   clear hw3 u23 jf pf J2 P2 O2 O3 U2
   have RD:Hid (∀ W,Upd [] w3 W→Rd encE W (.slice Ad nd cd) D):=Zh (fun W hW => by
    have:=Src.of_own (own_upd0 D3.out hW)
    unfold Rd
    rw [← HDO.out.2.2.1]
    exact this)
   refine (attempts_ok Ad nd cd D w3 (RD.out _ (.refl _ _)) HDO.out.2.2.1.symm (by have:=HDO.out; have:=HN.out; omega)).mono ?_
   rintro e w4 ⟨v4,rfl,o4,u4⟩
   have L4:(D.map attE).length=nd:=by rw [List.length_map]; exact HDO.out.2.2.1.symm
   have o4':w4.ownsRow w3.heap.size 39 6 v4 nd (flat encA (D.map attE)):=by have h:=o4; unfold Ow at h; rwa [L4] at h
   obtain ⟨A4,c4,rfl,hc4,hc4'⟩:=own_slice o4'
   have HA4:Hid (Rd encA w4 (.slice A4 nd c4) (D.map attE)):=Zh o4.rd
   have U4:=Zh u4
   clear o4 u4 o4'
   go_wp2_with fail
   obtain ⟨dd,hdd⟩:∃ dd,dd=edsW w D:=⟨_,rfl⟩
   have HDD:Hid (dd=edsW w D∧attsR dd=D.map attE∧doneR (edsW w M)=dd):=Zh ⟨hdd,by rw [hdd]; exact attsR_edsW _ _,by rw [hdd,done_eds,HDO.out.1]⟩
   have hck:=check_ok A4 nd c4 (D.map attE) w4 (atts_rd HA4.out) L4 (by have:=HDO.out; have:=HN.out; omega) hc4 (by simp only [maxLen] at hc4'; omega)
   rw [← HDD.out.2.1] at hck
   refine hck.mono ?_
   rintro e w5 ⟨v5,rfl,e5,u5⟩
   have U5:Hid (Upd [] w3 w5):=Zh (U4.out.trans u5)
   have E5:=Zh e5
   clear hck e5 u5 hdd hc4 hc4' L4
   by_cases h0:(chkR (attsR dd)).1=0
   ·obtain rfl:v5=.nilIface:=by have:=E5.out; rw [h0] at this; exact (errv_nil this).1
    have H0:=Zh h0
    clear h0
    go_wp2_with fail
    have CS:Hid (∀ W,Upd [] w5.drew W→W.cell? ⟨pb,0,none⟩=some (.pointer (some ⟨jb,0,none⟩))):=Zh (fun W hW => (P3.out.upd (U5.out.trans ((Upd.refl [] w5).drew.trans hW)) (by simp)).cell 0)
    refine wp_invNT 6 [(2,.own w.heap.size 39 6 nd (flat encA (D.map attE))),(3,.own w.heap.size 3 1 nd ((ordR dd).map fun (x:Nat) => Value.int .i64 x))] [] (by kernel_rfl) (by simp) (by kernel_rfl) (by kernel_rfl) ⟨lasts_own _ _ _ _ _ (by unfold maxLen; omega),lasts_own _ _ _ _ _ (by unfold maxLen; omega),trivial⟩ ?_
    simp only [List.take_succ_cons,List.take_zero,List.drop_succ_cons,List.drop_zero]
    iterate 2 (
     with_reducible apply wpV_light
     ·simp only [lightOp]
     ·intro W hU hF
      have f0:=CS.out W hU
      clear hU hF
      go_simp
      exact rfl
     simp only [aP])
    refine wpV_heavy (by simp only [lightOp]) (by rfl) (fun W hU hk hF K hK => ?_) ?_
    ·go_wp2_with fail
     have hu:Upd [] w3 W:=U5.out.trans ((Upd.refl [] w5).drew.trans hU)
     refine (attempts_ok Ad nd cd D W (RD.out _ hu) HDO.out.2.2.1.symm (by have:=HDO.out; have:=HN.out; omega)).mono ?_
     rintro e w8 ⟨v8,rfl,o8,u8⟩
     go_wp2_with fail
     refine hK.out _ _ (outV_new rfl ?_ ?_ u8)
     ·have o9:w8.ownsRow w.heap.size 39 6 v8 nd (flat encA (D.map attE)):=own_base (by have:=o8; unfold Ow at this; rw [List.length_map,← HDO.out.2.2.1] at this; exact this) (Nat.le_trans U3.out.size hu.size)
      exact o9
     ·intro b hb
      have hb1:b ∈ v8.ownBlock.toList:=hb
      have hb2:v8.ownBlock=some b:=by simpa using hb1
      exact own_lt o8 hb2
    rintro _ ⟨A8,c8,rfl,_,_⟩
    simp only [aP]
    refine wpV_heavy (by simp only [lightOp]) (by rfl) (fun W hU hk hF K hK => ?_) ?_
    ·go_wp2_with fail
     have o2:W.ownsRow w.heap.size 39 6 (.slice A8 nd c8) nd (flat encA (D.map attE)):=hF.out.1 (by kernel_rfl)
     have hr:Rd encA W (.slice A8 nd c8) (attsR dd):=by
      rw [HDD.out.2.1]
      have:=Src.of_own o2
      unfold Rd
      rw [List.length_map,← HDO.out.2.2.1]
      exact this
     have hl:(attsR dd).length=nd:=by rw [HDD.out.2.1,List.length_map]; exact HDO.out.2.2.1.symm
     refine (sort_ok A8 nd c8 (attsR dd) W (atts_rd hr) hl (by have:=HDO.out; have:=HN.out; omega)).mono ?_
     rintro e w9 ⟨v9,rfl,o9,u9⟩
     go_wp2_with fail
     refine hK.out _ _ (outV_new rfl ?_ ?_ u9)
     ·have hu:Upd [] w3 W:=U5.out.trans ((Upd.refl [] w5).drew.trans hU)
      have o10:w9.ownsRow w.heap.size 3 1 v9 nd ((ordR dd).map fun (x:Nat) => Value.int .i64 x):=own_base (by unfold ordR; rw [hl]; exact o9) (Nat.le_trans U3.out.size hu.size)
      exact o10
     ·intro b hb
      have hb1:b ∈ v9.ownBlock.toList:=hb
      have hb2:v9.ownBlock=some b:=by simpa using hb1
      exact own_lt o9 hb2
    rintro _ ⟨A9,c9,rfl,_,_⟩
    simp only [aP]
    iterate 2 (
     with_reducible apply wpV_light
     ·simp only [lightOp]
     ·intro W hU hF
      have f0:=CS.out W hU
      clear hU hF
      go_simp
      exact rfl
     simp only [aP])
    refine wpV_end (fun W hU _ hF => ?_)
    have o9:W.ownsRow w.heap.size 3 1 (.slice A9 nd c9) nd ((ordR dd).map fun (x:Nat) => Value.int .i64 x):=hF.out.2.1 (by kernel_rfl)
    have UW:Hid (Upd [] w3 W):=Zh (U5.out.trans ((Upd.refl [] w5).drew.trans hU))
    have O9:=Zh o9
    clear hU hF o9
    have jw:=(J3.out.upd UW.out (by simp)).facts
    refine wpT_op (by rfl) (fun K hK => ?_)
    go_wp2_with fail
    refine hK.out _ _ ?_
    clear hK K
    try simp only [aP]
    refine wpT_end ?_
    obtain ⟨w7,hw7⟩:∃ w7,w7=W.setCell ⟨jb,5,none⟩ (.slice A9 nd c9):=⟨_,rfl⟩
    have u77:Upd [jb] W w7:=by rw [hw7]; exact (Upd.refl _ _).setCell (by simp) _
    have jW:Blk W jb 77 #[.int .i64 p.words,.int .i64 p.pat,.slice As nk cs,.slice At nt ct,.slice Ad nd cd,.slice none 0 0,.slice none 0 0]:=J3.out.upd UW.out (by simp)
    have U7:Hid (Upd [] w w7):=Zh ((U3.out.trans UW.out).trans' u77 (fun x hx => .inr (by have:=HLB.out; simp at hx; omega)))
    have P7:Hid (Blk w7 pb 74 #[.pointer (some ⟨jb,0,none⟩)]):=Zh ((P3.out.upd UW.out (by simp)).upd u77 (by have:=HLB.out; simp; omega))
    have njW:∀ {B':Nat} {e:TypeId} {s n:Nat} {v:Value} {xs:List Value},W.ownsRow B' e s v n xs→77≠e→∀ b,v.ownBlock=some b→b ∉ [jb]:=fun ho hne b hb hm => by
     simp only [List.mem_singleton] at hm
     exact own_type ho jW hne (hm ▸ hb)
    have hol:(ordR dd).length=nd:=by rw [(ord_perm dd).length_eq,HDD.out.1]; simp [edsW]; exact HDO.out.2.2.1.symm
    have HOL:=Zh hol
    have hdW:=own_upd0 D3.out UW.out
    have hoW:=own_upd0 O33.out UW.out
    have OO7:Hid (w7.ownsRow wr.heap.size 42 9 (.slice Ao no co) no (flat encE O)):=Zh (own_upd hoW u77 (njW hoW (by decide)))
    have BD:Hid (Base w p (.slice As nk cs) (.slice At nt ct) D):=Zh ⟨HB.out.plan,fun m hm => HB.out.en m (by rw [HDO.out.1] at hm; exact (List.mem_filter.1 hm).1),HB.out.ty⟩
    have bel7:Below w.heap.size w w7:=U7.out.below (Nat.le_refl _) (by simp)
    have B7:=(BD.out.at_ bel7).1
    have J7:Hid (JSt w.heap.size jb p (.slice As nk cs) (.slice At nt ct) (.slice Ad nd cd) (.slice A9 nd c9) (.slice none 0 0) D (ordR dd) [] [] w7):=Zh ⟨by rw [hw7]; exact jW.set_ 5 _,by have:=HLB.out; omega,B7.plan,by
     unfold Ow
     rw [← HDO.out.2.2.1]
     exact own_base (own_upd hdW u77 (njW hdW (by decide))) SZ.out,by rw [hol]; exact own_upd O9.out u77 (njW O9.out (by decide)),⟨rfl,own_nil _ _ _ _,fun i q s hq => by simp at hq⟩,B7.ty,B7.en,fun q hq => by simp at hq⟩
    rw [← hw7]
    clear hw7 u77 jW njW hol hdW hoW bel7 B7 jw
    have HREP:=Zh (replay_ok w w7 J7.out BD.out (U7.out.below (Nat.le_refl _) (by simp)) ⟨rfl,U7.out.size⟩ HF.out.1 HF.out.2 (by have:=HDO.out; have:=HN.out; omega) (fun m hm => HTN.out m (by rw [HDO.out.1] at hm; exact (List.mem_filter.1 hm).1)) dd HDD.out.1 rfl (fun m hm => by
     rw [HDO.out.1] at hm
     obtain ⟨i',hi'⟩:=List.getElem?_of_mem (List.mem_filter.1 hm).1
     have hil:=(List.getElem?_eq_some_iff.1 hi').1
     have:=HALL.out i' (by simp [edsW]; exact hil)
     rw [eds_getD hi'] at this
     rw [← Option.not_isNone]
     show (!(txnR p (edW w m).a).isNone)=true
     rw [this]; rfl))
    have pf:=P7.out.facts
    go_wp2_with fail
    refine HREP.out.mono ?_
    rintro e w8 ⟨v8,rfl,u8,hc⟩
    have U8:Hid (Upd [] w w8):=Zh (U7.out.trans' u8 (fun x hx => .inr (by have:=HLB.out; simp at hx; omega)))
    have u8':=Zh u8
    clear u8 pf
    rcases hc with ⟨k,hk,ek⟩ | ⟨hk,rfl,av,fp,j8⟩
    ·have HJR:Hid (judgeR p (edsW w M)=(12,(k:Int) + 1)):=Zh (jr_rep HALL.out (by rw [HDD.out.2.2]; exact H0.out) (by rw [HDD.out.2.2]; exact hk))
     have EK:=Zh ek
     clear hk
     rcases ek with ⟨_,h,_⟩ | ⟨rfl,_,_⟩ | ⟨g,rfl,_,_⟩
     ·omega
     all_goals
      go_wp2_with fail
      go_ret
      rw [HJR.out]
      exact ⟨_,rfl,EK.out,U8.out⟩
    ·have J8:=Zh j8
     have HK:=Zh hk
     have P8:Hid (Blk w8 pb 74 #[.pointer (some ⟨jb,0,none⟩)]):=Zh (P7.out.upd u8'.out (by have:=HLB.out; simp; omega))
     clear j8 hk
     have hdl:dd.length=nd:=by rw [HDD.out.1]; simp [edsW]; exact HDO.out.2.2.1.symm
     have O8:Hid (Rd encE w8 (.slice Ao no co) O):=Zh (by
      have h:=own_upd OO7.out u8'.out (fun b hb hm => by simp at hm; exact own_type OO7.out J7.out.box (by decide) (hm ▸ hb))
      have:=Src.of_own h
      unfold Rd
      rw [← HDO.out.2.2.2.1]
      exact this)
     have HIX:=Zh (index_ok Ao no co O (fun m => lostR p dd (edW w m)) #[.pointer (some ⟨pb,0,none⟩)] w8 O8.out HDO.out.2.2.2.1.symm (by have:=HDO.out; have:=HN.out; omega) (fun m hm W' hW' => by
      have hmM:m ∈ M:=by rw [HDO.out.2.1] at hm; exact (List.mem_filter.1 hm).1
      have bel:Below w.heap.size w W':=(U8.out.trans hW').below (Nat.le_refl _) (by simp)
      have em:=(HB.out.en m hmM).below bel
      have hxs:(txnR p (attE m)).isSome=true:=by
       obtain ⟨i',hi'⟩:=List.getElem?_of_mem hmM
       have hil:=(List.getElem?_eq_some_iff.1 hi').1
       have:=HALL.out i' (by simp [edsW]; exact hil)
       rw [eds_getD hi'] at this
       rw [← Option.not_isNone]
       show (!(txnR p (edW w m).a).isNone)=true
       rw [this]; rfl
      have h:=lost_ok W' (J8.out.upd0 hW') (P8.out.upd hW' (by simp)) HF.out.1 HF.out.2 m em.1 (HTN.out m hmM) hxs (by have:=HDO.out; have:=HN.out; omega) dd (by rw [HDD.out.1]; exact (BD.out.at_ bel).2.symm) (stsN_all (by rw [HOL.out,hdl]))
      have ee:edW W' m=edW w m:=by unfold edW; rw [em.2]
      rw [ee] at h
      exact h))
     have HJE:Hid (judgeR p (edsW w M)=match (List.range (otherR (edsW w M)).length).find? (fun i => lostR p dd ((otherR (edsW w M)).getD i default)) with | some i => (5,(i:Int) + 1) | none => (0,0)):=Zh (by
      rw [jr_end HALL.out (by rw [HDD.out.2.2]; exact H0.out) (by rw [HDD.out.2.2]; exact HK.out),HDD.out.2.2])
     clear hdl
     go_wp2_with fail
     refine HIX.out.mono ?_
     rintro e w10 ⟨rfl,u10⟩
     have U10:=Zh (U8.out.trans u10)
     clear u10
     cases hf:(List.range O.length).find? (fun i => (O[i]?.map (fun m => lostR p dd (edW w m))).getD false) with
     | some k =>
       have HI:Hid (idxR (fun m => lostR p dd (edW w m)) O=k):=Zh (by unfold idxR; rw [hf])
       have HJR:Hid (judgeR p (edsW w M)=(5,(k:Int) + 1)):=Zh (by
        rw [HJE.out,other_eds,← HDO.out.2.1,← idx_spec (f:=lostR p dd),hf])
       have hkl:(k:Int)≤40:=by
        have h1:=List.mem_of_find?_eq_some hf
        have:=HDO.out; have:=HN.out
        simp at h1
        omega
       rw [HI.out]
       clear hf
       go_wp2_with fail
       refine (jwrong_ok ((k:Int) + 1) 5 (by omega) (by omega) w10).mono ?_
       rintro e w11 ⟨v11,rfl,e11,u11⟩
       have E11:=Zh e11
       have U11:=Zh (U10.out.trans u11)
       clear e11 u11
       go_wp2_with fail
       go_ret
       rw [HJR.out]
       exact ⟨_,rfl,E11.out,U11.out⟩
     | none =>
       have HI:Hid (idxR (fun m => lostR p dd (edW w m)) O=-1):=Zh (by unfold idxR; rw [hf])
       have HJR:Hid (judgeR p (edsW w M)=(0,0)):=Zh (by
        rw [HJE.out,other_eds,← HDO.out.2.1,← idx_spec (f:=lostR p dd),hf])
       rw [HI.out]
       clear hf
       go_wp2_with fail
       go_ret
       rw [HJR.out]
       exact ⟨_,rfl,.nil _,U10.out⟩
   ·have H0:=Zh h0
    have HJR:Hid (judgeR p (edsW w M)=chkR (attsR dd)):=Zh (by rw [jr_chk HALL.out (by rw [HDD.out.2.2]; exact H0.out),HDD.out.2.2])
    have he5:=E5.out
    clear h0
    rcases he5 with ⟨_,h,_⟩ | ⟨rfl,_,_⟩ | ⟨g,rfl,_,_⟩
    ·exact absurd h H0.out
    all_goals
     go_wp2_with fail
     go_ret
     rw [HJR.out]
     exact ⟨_,rfl,E5.out,U3.out.trans U5.out⟩
end Go.Proofs.YtmjnmpifibemjaaGreatDoor
namespace Go.Proofs.YtmjnmpifibemjaaGreatDoor
open Go.RowKit St Jd Ev
attribute [local go_sem] litStep_value
theorem weight24_ok (l:List Stm) (v:Value) (w:World) (hv:Stms w w.heap.size v l):Calls Tryz.prog 45 #[v] w fun e w' => e=.returned (.int .i64 (wtF 32 0 l))∧Upd [] w w':=by
 have hc:=weight_ok 32 0 l v w (by omega) (by omega) hv (Nat.le_refl _)
 rw [show ((0:Nat):Int)=0 from rfl] at hc
 have HC:=Zh hc
 clear hc
 go_enter Tryz.func45,Tryz.ntmps45
 go_wp2_with fail
 refine HC.out.mono ?_
 rintro e w1 ⟨rfl,u1⟩
 have U1:=Zh u1
 clear u1
 go_wp2_with fail
 go_ret
 exact ⟨rfl,U1.out⟩
def Few24P (w:World) (e:Ending) (w':World):Prop:=∃ b,e=.returned (.bool b)∧Upd [] w w'
theorem few24_ok (p:Pn) (kv tv:Value) (w:World) (h:PlanV w p kv tv) (hb:CntP p) :
 Calls Tryz.prog 19 #[planC p kv tv] w (Few24P w):=by
 obtain ⟨Ak,ck,hkv⟩:∃ A c,kv=.slice A p.ks.length c:=by obtain ⟨_,A,c,e,_⟩:=h.ks; exact ⟨A,c,e⟩
 obtain ⟨At,ct,htv⟩:∃ A c,tv=.slice A p.ths.length c:=by obtain ⟨vs,⟨_,A,c,e,_⟩,_⟩:=h.ths; exact ⟨A,c,e⟩
 obtain ⟨nk,hnk⟩:∃ k,k=p.ks.length:=⟨_,rfl⟩
 obtain ⟨nt,hnt⟩:∃ k,k=p.ths.length:=⟨_,rfl⟩
 rw [← hnk] at hkv
 rw [← hnt] at htv
 subst hkv htv
 have HN:Hid (nk=p.ks.length∧nt=p.ths.length):=Zh ⟨hnk,hnt⟩
 have HP:=Zh h
 have HB:=Zh hb
 have hk63:(nk:Int)≤9223372036854775807:=by have:=hb.1; omega
 have ht63:(nt:Int)≤9223372036854775807:=by have:=hb.2.1; omega
 obtain ⟨wo,hwo⟩:∃ x,x=p.words:=⟨_,rfl⟩
 obtain ⟨pa,hpa⟩:∃ x,x=p.pat:=⟨_,rfl⟩
 unfold planC
 rw [← hwo,← hpa]
 clear h hb hnk hnt hwo hpa
 go_enter Tryz.func19,Tryz.ntmps19
 obtain ⟨w1,hw1⟩:∃ w1,w1=w.alloc (.cells #[.int .i64 wo,.int .i64 pa,.slice Ak nk ck,.slice At nt ct] 25):=⟨_,rfl⟩
 have U1:Hid (Upd [] w w1):=Zh (by rw [hw1]; exact (Upd.refl _ _).alloc _)
 have X1:Hid (Blk w1 w.heap.size 25 #[.int .i64 wo,.int .i64 pa,.slice Ak nk ck,.slice At nt ct]):=Zh (by rw [hw1]; exact Blk.new _ _ _)
 by_cases c1:20 < nt
 ·have c1':(20:Int) < nt:=by omega
  go_wp2_with fail
  go_ret
  exact ⟨_,rfl,by rw [← hw1]; exact U1.out⟩
 have c1':¬ (20:Int) < nt:=by omega
 by_cases c2:20 < nk
 ·have c2':(20:Int) < nk:=by omega
  go_wp2_with fail
  go_ret
  exact ⟨_,rfl,by rw [← hw1]; exact U1.out⟩
 have c2':¬ (20:Int) < nk:=by omega
 have HC:Hid (nk≤20∧nt≤20):=Zh (by omega)
 clear c1 c2
 go_wp2_with fail
 rw [← hw1]
 clear hw1
 go_loopw [3,4,5,19] (fun u3 u4 u5 u19 wr => ∃ (i n:Nat),u3=.int .i64 n∧u19=.int .i64 i∧i≤nt∧n≤30000 * i∧Hid (Upd [] w1 wr)) (fun _ _ _ u _ => nt - (intOf u).toNat)
 case atStart => exact ⟨0,0,rfl,rfl,by omega,by omega,Zh (.refl _ _)⟩
 case round =>
  obtain ⟨i,n,rfl,rfl,hi,hn,KX⟩:=hrel
  rename World => wr
  have b0:=(X1.out.upd KX.out (by simp)).facts
  by_cases hlt:i < nt
  ·have hii:(i:Int) < nt:=by omega
   obtain ⟨vs,⟨hv1,hv2⟩,hrow⟩:=(HP.out.upd0 (U1.out.trans KX.out)).ths
   obtain ⟨A',n',e,hcells⟩:=hv2
   injection e with e e2 e3
   clear e2 e3
   subst e
   have hil:i < p.ths.length:=by rw [← HN.out.2]; exact hlt
   obtain ⟨v,hv⟩:∃ v,vs[i]?=some v:=⟨_,List.getElem?_eq_getElem (by omega)⟩
   obtain ⟨t,ht⟩:∃ t,p.ths[i]?=some t:=⟨_,List.getElem?_eq_getElem hil⟩
   obtain ⟨us,⟨hu1,Aj,cj,rfl,hu2⟩,hst⟩:=hrow i v t hv ht
   obtain ⟨ad,hA,had,hcell⟩:=hcells i _ hv
   obtain ⟨nj,hnj⟩:∃ k,k=t.length:=⟨_,rfl⟩
   rw [← hnj] at hcell
   have hj63:(nj:Int)≤9223372036854775807:=by have:=HB.out.2.2 t (List.mem_of_getElem? ht); omega
   have HT:Hid (p.ths[i]?=some t∧i < nt∧nj=t.length∧us.length=t.length):=Zh ⟨ht,hlt,hnj,by omega⟩
   have HU2:=Zh hu2
   have HST:=Zh hst
   have HNN:=Zh hn
   clear hv1 hcells hil hv ht hrow hu1 hu2 hst hnj hi hlt hn
   subst hA
   have HCL:Hid (wr.cell? (ad.add i)=some (.slice Aj nj cj)∧ad.block < wr.heap.size):=Zh ⟨hcell,had⟩
   by_cases d1:30 < nj
   ·have d1':(30:Int) < nj:=by omega
    go_wp2_with fail
    go_ret
    exact ⟨_,rfl,U1.out.trans KX.out⟩
   have d1':¬ (30:Int) < nj:=by omega
   have HNJ:Hid (nj≤30):=Zh (by omega)
   clear d1
   go_wp2_with fail
   clear b0 hcell had
   go_loopw [3,5,35] (fun u3 u5 u35 wr3 => ∃ (j m:Nat),u3=.int .i64 m∧u35=.int .i64 j∧j≤nj∧m≤30000 * i + 1000 * j∧Hid (Upd [] wr wr3)) (fun _ _ u _ => nj - (intOf u).toNat)
   case atStart => exact ⟨0,n,rfl,rfl,by omega,by have:=HNN.out; omega,Zh (.refl _ _)⟩
   case round =>
    obtain ⟨j,m,rfl,rfl,hj,hm,KY⟩:=hrel
    rename World => wr3
    have UY:Hid (Upd [] w1 wr3):=Zh (KX.out.trans KY.out)
    have b0:=(X1.out.upd UY.out (by simp)).facts
    have bel:Below wr.heap.size wr wr3:=KY.out.below (Nat.le_refl _) (by simp)
    have hcell:wr3.cell? (ad.add i)=some (.slice Aj nj cj):=(bel.cell (by rw [block_add]; exact HCL.out.2)).trans HCL.out.1
    have had:ad.block < wr3.heap.size:=Nat.lt_of_lt_of_le HCL.out.2 KY.out.size
    by_cases hlt:j < nj
    ·have hjj:(j:Int) < nj:=by omega
     obtain ⟨u,hu⟩:∃ u,us[j]?=some u:=⟨_,List.getElem?_eq_getElem (by have:=HT.out; omega)⟩
     obtain ⟨l,hl⟩:∃ l,t[j]?=some l:=⟨_,List.getElem?_eq_getElem (by have:=HT.out; omega)⟩
     have HS:Hid (Stms wr3 wr3.heap.size u l):=Zh ((HST.out j u l hu hl).upd0 KY.out)
     obtain ⟨ad2,hA2,had2,hc2⟩:=HU2.out j u hu
     have hcell2:wr3.cell? (ad2.add j)=some u:=(bel.cell (by rw [block_add]; exact had2)).trans hc2
     have had3:ad2.block < wr3.heap.size:=Nat.lt_of_lt_of_le had2 KY.out.size
     have HC2:Hid (wr3.cell? (ad.add i)=some (.slice Aj nj cj)∧ad.block < wr3.heap.size∧wr3.cell? (ad2.add j)=some u∧ad2.block < wr3.heap.size):=Zh ⟨hcell,had,hcell2,had3⟩
     have HL:Hid (j < nj∧m≤30000 * i + 1000 * j):=Zh ⟨hlt,hm⟩
     clear hu hl had2 hc2 hj hlt bel hm
     subst hA2
     go_wp2_with fail
     refine (few_ok l u wr3 HS.out).mono ?_
     rintro e w5 ⟨rfl,u5⟩
     have U5:Hid (Upd [] wr3 w5):=Zh u5
     clear b0 hcell had hcell2 had3 u5
     cases fewB l with
     | false =>
       go_wp2_with fail
       go_ret
       exact ⟨_,rfl,U1.out.trans (UY.out.trans U5.out)⟩
     | true =>
       have bel5:Below wr3.heap.size wr3 w5:=U5.out.below (Nat.le_refl _) (by simp)
       have b0:=(X1.out.upd (UY.out.trans U5.out) (by simp)).facts
       have hcell:w5.cell? (ad.add i)=some (.slice (some ad2) nj cj):=(bel5.cell (by rw [block_add]; exact HC2.out.2.1)).trans HC2.out.1
       have had:ad.block < w5.heap.size:=Nat.lt_of_lt_of_le HC2.out.2.1 U5.out.size
       have hcell2:w5.cell? (ad2.add j)=some u:=(bel5.cell (by rw [block_add]; exact HC2.out.2.2.2)).trans HC2.out.2.2.1
       have had3:ad2.block < w5.heap.size:=Nat.lt_of_lt_of_le HC2.out.2.2.2 U5.out.size
       clear bel5
       go_wp2_with fail
       refine (weight24_ok l u w5 (HS.out.upd0 U5.out)).mono ?_
       rintro e w6 ⟨rfl,u6⟩
       have U6:Hid (Upd [] wr w6):=Zh ((KY.out.trans U5.out).trans u6)
       have hwt:wtF 32 0 l≤1000:=wtF_le _ _ _
       obtain ⟨q,hq⟩:∃ q,q=wtF 32 0 l:=⟨_,rfl⟩
       rw [← hq] at hwt ⊢
       have hmi:(m:Int)≤1000000:=by have:=HL.out.2; have:=HT.out.2.1; have:=HC.out.2; have:=HL.out.1; have:=HNJ.out; omega
       have hqi:(q:Int)≤1000:=by omega
       have HQ:=Zh hwt
       clear u6 hq hwt b0 hcell had hcell2 had3
       go_wp2_with fail
       go_round
       case rel => exact ⟨j + 1,m + q,by simp,by simp,by have:=HL.out.1; omega,by have:=HL.out.2; have:=HQ.out; omega,U6⟩
       case measure => have:=HL.out.1; simp [intOf]; omega
    ·have hjj:¬ (j:Int) < nj:=by omega
     have HM:Hid (m≤30000 * (i + 1)):=Zh (by have:=HNJ.out; omega)
     clear bel hj hlt hm
     go_wp2_with fail
     go_round
     case rel => exact ⟨i + 1,m,rfl,by simp,by have:=HT.out.2.1; omega,HM.out,Zh (KX.out.trans KY.out)⟩
     case measure => have:=HT.out.2.1; simp [intOf]; omega
  ·have hii:¬ (i:Int) < nt:=by omega
   go_wp2_with fail
   go_ret
   exact ⟨_,rfl,U1.out.trans KX.out⟩
def FewOk (p:Pn) (M:List En):Prop:=FitP p∧M.length≤40∧∀ m ∈ M,m.tn≤1000
def Few25P (p:Pn) (M:List En) (w:World) (e:Ending) (w':World):Prop:=∃ b,e=.returned (.bool b)∧(b=true→FewOk p M)∧Upd [] w w'
theorem few25_ok (p:Pn) (kv tv:Value) (A:Option Addr) (n c:Nat) (M:List En) (w:World) (h:PlanV w p kv tv) (hz:SzP p) (hb:CntP p) (hr:Rd encE w (.slice A n c) M) (hn:M.length=n) (hm63:n≤9223372036854775807) (ht63:∀ m ∈ M,m.tn≤9223372036854775807) :
 Calls Tryz.prog 6 #[planC p kv tv,.slice A n c] w (Few25P p M w):=by
 have HP:=Zh h
 have HZ:=Zh hz
 have HB:=Zh hb
 have HR:=Zh hr
 have HN:=Zh hn
 have HT:=Zh ht63
 have hn63:(n:Int)≤9223372036854775807:=by omega
 obtain ⟨wo,hwo⟩:∃ x,x=p.words:=⟨_,rfl⟩
 obtain ⟨pa,hpa⟩:∃ x,x=p.pat:=⟨_,rfl⟩
 have HPC:Hid (planC p kv tv=.agg #[.int .i64 wo,.int .i64 pa,kv,tv]):=Zh (by rw [hwo,hpa])
 unfold planC
 rw [← hwo,← hpa]
 obtain ⟨Ak,ck,hkv⟩:∃ A c,kv=.slice A p.ks.length c:=by obtain ⟨_,A,c,e,_⟩:=h.ks; exact ⟨A,c,e⟩
 obtain ⟨At,ct,htv⟩:∃ A c,tv=.slice A p.ths.length c:=by obtain ⟨vs,⟨_,A,c,e,_⟩,_⟩:=h.ths; exact ⟨A,c,e⟩
 obtain ⟨nk,hnk⟩:∃ k,k=p.ks.length:=⟨_,rfl⟩
 obtain ⟨nt,hnt⟩:∃ k,k=p.ths.length:=⟨_,rfl⟩
 rw [← hnk] at hkv
 rw [← hnt] at htv
 subst hkv htv
 clear h hz hb hr hn ht63 hm63 hwo hpa hnk hnt
 go_enter Tryz.func6,Tryz.ntmps6
 obtain ⟨w1,hw1⟩:∃ w1,w1=w.alloc (.cells #[.int .i64 wo,.int .i64 pa,.slice Ak nk ck,.slice At nt ct] 25):=⟨_,rfl⟩
 have U1:Hid (Upd [] w w1):=Zh (by rw [hw1]; exact (Upd.refl _ _).alloc _)
 have X1:Hid (Blk w1 w.heap.size 25 #[.int .i64 wo,.int .i64 pa,.slice Ak nk ck,.slice At nt ct]):=Zh (by rw [hw1]; exact Blk.new _ _ _)
 go_wp2_with fail
 rw [← hw1]
 clear hw1
 have hf:=fit_ok p (.slice Ak nk ck) (.slice At nt ct) w1 (HP.out.upd0 U1.out) HZ.out HB.out
 rw [HPC.out] at hf
 refine hf.mono ?_
 rintro e w2 ⟨e1,a1,rfl,hfit,u2⟩
 have HFIT:=Zh hfit
 have U2:Hid (Upd [] w1 w2):=Zh u2
 have b0:=(X1.out.upd u2 (by simp)).facts
 clear hf hfit u2
 go_wp2_with fail
 have hf:=few24_ok p (.slice Ak nk ck) (.slice At nt ct) w2 (HP.out.upd0 (U1.out.trans U2.out)) HB.out
 rw [HPC.out] at hf
 refine hf.mono ?_
 rintro e w3 ⟨b,rfl,u3⟩
 have U3:Hid (Upd [] w w3):=Zh ((U1.out.trans U2.out).trans u3)
 clear hf u3 b0
 cases b with
 | false =>
   go_wp2_with fail
   go_ret
   exact ⟨_,rfl,by simp,U3.out⟩
 | true =>
   by_cases h0:e1=0
   ·have h0':(e1 != 0)=false:=by simpa using h0
    have HF:Hid (FitP p):=Zh (HFIT.out h0)
    clear h0
    by_cases h1:40 < n
    ·have h1':(40:Int) < n:=by omega
     go_wp2_with fail
     go_ret
     exact ⟨_,rfl,by simp,U3.out⟩
    have h1':¬ (40:Int) < n:=by omega
    have H40:Hid (n≤40):=Zh (by omega)
    clear h1
    go_wp2_with fail
    go_loopw [7,27] (fun u7 u27 wr => ∃ i:Nat,u27=.int .i64 i∧i≤n∧wr=w3∧Hid (∀ j m,j < i→M[j]?=some m→m.tn≤1000)) (fun _ u _ => n - (intOf u).toNat)
    case atStart => exact ⟨0,rfl,by omega,rfl,Zh (fun j m hj => by omega)⟩
    case round =>
     obtain ⟨i,rfl,hi,rfl,KX⟩:=hrel
     by_cases hlt:i < n
     ·have hii:(i:Int) < n:=by omega
      obtain ⟨m,hmm⟩:∃ m,M[i]?=some m:=⟨_,List.getElem?_eq_getElem (by rw [HN.out]; exact hlt)⟩
      obtain ⟨ad,hA,hl,hc⟩:=(HR.out.upd0 U3.out).at_ hmm
      obtain ⟨c0,c1,c2,c3,c4,c5,c6,c7,c8⟩:=en_cells hc
      have hbb:(ad.add (i * 9)).block < wr.heap.size:=by rw [block_add]; exact hl
      have htn:(m.tn:Int)≤9223372036854775807:=by have:=HT.out m (List.mem_of_getElem? hmm); omega
      have HMM:Hid (M[i]?=some m∧i < n):=Zh ⟨hmm,hlt⟩
      clear hmm hc hl hi hlt
      subst hA
      by_cases h2:1000 < m.tn
      ·have h2':(1000:Int) < m.tn:=by omega
       go_wp2_with fail
       go_ret
       exact ⟨_,rfl,by simp,U3.out⟩
      have h2':¬ (1000:Int) < m.tn:=by omega
      have X2:Hid (∀ j m,j < i + 1→M[j]?=some m→m.tn≤1000):=Zh (fun j m' hj hm' => by
       by_cases e:j=i
       ·subst e
        rw [HMM.out.1] at hm'
        injection hm' with hm'
        subst hm'
        omega
       ·exact KX.out j m' (by omega) hm')
      go_wp2_with fail
      go_round
      case rel => exact ⟨i + 1,by simp,by have:=HMM.out.2; omega,by trivial,X2⟩
      case measure => have:=HMM.out.2; simp [intOf]; omega
     ·have hii:¬ (i:Int) < n:=by omega
      have HFO:Hid (FewOk p M):=Zh ⟨HF.out,by rw [HN.out]; exact H40.out,fun m hm => by
       obtain ⟨j,hj⟩:=List.getElem?_of_mem hm
       have hjl:=(List.getElem?_eq_some_iff.1 hj).1
       exact KX.out j m (by have:=HN.out; omega) hj⟩
      go_wp2_with fail
      go_ret
      exact ⟨_,rfl,fun _ => HFO.out,U3.out⟩
   ·have h0':(e1 != 0)=true:=by simpa using h0
    clear h0
    go_wp2_with fail
    go_ret
    exact ⟨_,rfl,by simp,U3.out⟩
end Go.Proofs.YtmjnmpifibemjaaGreatDoor
namespace Go.Proofs.YtmjnmpifibemjaaGreatDoor
open Go.RowKit St Jd Ev
attribute [local go_sem] litStep_value
def plA:Pn:=⟨100,0,[1],[[[.mk 1 0 1 0 1 0 0 [] []]]]⟩
def edA (n:Int):Ed:=⟨⟨0,0,0,false,0,0⟩,1,[n],0⟩
theorem fitA:FitP plA:=⟨by decide,by decide,by decide,by decide,by
 intro t ht l hl
 simp only [plA,List.mem_singleton] at ht
 subst ht
 simp only [List.mem_singleton] at hl
 subst hl
 decide +kernel⟩
theorem szA:SzP plA:=by
 intro t ht l hl
 simp only [plA,List.mem_singleton] at ht
 subst ht
 simp only [List.mem_singleton] at hl
 subst hl
 decide +kernel
theorem jA7:judgeR plA [edA 7]=(12,1):=by decide +kernel
theorem jA1:judgeR plA [edA (-1)]=(0,0):=by decide +kernel
def enA (g:Nat):En:=⟨0,0,0,false,0,0,1,0,some ⟨g,0,none⟩,1,1⟩
theorem planA {w:World} {a b c d:Nat} (ha:Blk w a 3 #[.int .i64 1]) (hb:Blk w b 62 (stmCells 1 0 1 0 1 0 0 (.slice none 0 0) (.slice none 0 0)).toArray) (hc:Blk w c 37 #[.slice (some ⟨b,0,none⟩) 1 1]) (hd:Blk w d 32 #[.slice (some ⟨c,0,none⟩) 1 1]) :
 PlanV w plA (.slice (some ⟨a,0,none⟩) 1 1) (.slice (some ⟨d,0,none⟩) 1 1):=by
 refine ⟨.of_blk ha 1 rfl,[.slice (some ⟨c,0,none⟩) 1 1],.of_blk hd 1 rfl,fun i v ts hv ht => ?_⟩
 cases i with
 | succ i => simp at hv
 | zero =>
   simp [plA] at hv ht
   subst hv ht
   refine ⟨[.slice (some ⟨b,0,none⟩) 1 1],.of_blk hc 1 rfl,fun j u l hu hl => ?_⟩
   cases j with
   | succ j => simp at hu
   | zero =>
     simp at hu hl
     subst hu hl
     exact stms_one hb _ hb.lt 1 (Nat.le_refl _) (by omega) (stms_nil _ _) (stms_nil _ _)
theorem enOkA {w:World} {g:Nat} {n:Int} (h:Blk w g 3 #[.int .i64 n]):EnOk w (enA g)∧edW w (enA g)=edA n:=by
 have hs:Src w 1 (.slice (enA g).ta (enA g).tn (enA g).tc) (enA g).tn (([n]:List Int).map (Value.int .i64)):=.of_blk h 1 rfl
 have e:=tlW_eq hs
 refine ⟨by unfold EnOk; rw [e]; exact hs,?_⟩
 unfold edW
 rw [e]
 rfl
theorem judgeA {w:World} {a b c d g q:Nat} {n:Int} (ha:Blk w a 3 #[.int .i64 1]) (hb:Blk w b 62 (stmCells 1 0 1 0 1 0 0 (.slice none 0 0) (.slice none 0 0)).toArray) (hc:Blk w c 37 #[.slice (some ⟨b,0,none⟩) 1 1]) (hd:Blk w d 32 #[.slice (some ⟨c,0,none⟩) 1 1])
 (hg:Blk w g 3 #[.int .i64 n]) (hq:Blk w q 42 (enCells (enA g)).toArray) (ht:Typed w) :
 Calls Tryz.prog 11 #[.agg #[.int .i64 100,.int .i64 0,.slice (some ⟨a,0,none⟩) 1 1,.slice (some ⟨d,0,none⟩) 1 1],.slice (some ⟨q,0,none⟩) 1 1] w fun e w' => ∃ v,e=.returned v∧ErrV w' v (judgeR plA [edA n]).1 (judgeR plA [edA n]).2∧Upd [] w w':=by
 obtain ⟨h1,h2⟩:=enOkA hg
 have h:=judge_ok (some ⟨q,0,none⟩) 1 1 [enA g] plA (.slice (some ⟨a,0,none⟩) 1 1) (.slice (some ⟨d,0,none⟩) 1 1) w ⟨planA ha hb hc hd,fun m hm => by simp at hm; subst hm; exact h1,ht⟩ (by
  unfold Rd
  have:=Src.of_blk hq (m:=1) (s:=9) 1 rfl
  exact this) rfl (by omega) fitA szA (fun m hm => by simp at hm; subst hm; simp [enA])
 have e:edsW w [enA g]=[edA n]:=by unfold edsW; rw [List.map_cons,h2]; rfl
 rw [e] at h
 exact h
theorem alive25_ok (w:World) (hg:Typed w):Calls Tryz.prog 7 #[] w fun e w' => e=.returned (.bool true)∧Upd [] w w':=by
 have HG:=Zh hg
 clear hg
 go_enter Tryz.func7,Tryz.ntmps7
 go_wp2_with fail
 obtain ⟨w1,hw1⟩:∃ w1,w1=((((w.alloc (.cells #[.int .i64 1] 3)).alloc (.cells #[.int .i64 1,.int .i64 0,.int .i64 1,.int .i64 0,.int .i64 1,.int .i64 0,.int .i64 0,.slice none 0 0,.slice none 0 0] 62)).alloc (.cells #[.slice (some ⟨w.heap.size + 1,0,none⟩) 1 1] 37)).alloc (.cells #[.slice (some ⟨w.heap.size + 1 + 1,0,none⟩) 1 1] 32)).alloc (.cells #[.int .i64 100,.int .i64 0,.slice (some ⟨w.heap.size,0,none⟩) 1 1,.slice (some ⟨w.heap.size + 1 + 1 + 1,0,none⟩) 1 1] 25):=⟨_,rfl⟩
 have U1:Hid (Upd [] w w1):=Zh (by rw [hw1]; exact (((((Upd.refl _ _).alloc _).alloc _).alloc _).alloc _).alloc _)
 have XA:Hid (Blk w1 w.heap.size 3 #[.int .i64 1]∧Blk w1 (w.heap.size + 1) 62 (stmCells 1 0 1 0 1 0 0 (.slice none 0 0) (.slice none 0 0)).toArray∧Blk w1 (w.heap.size + 1 + 1) 37 #[.slice (some ⟨w.heap.size + 1,0,none⟩) 1 1]∧Blk w1 (w.heap.size + 1 + 1 + 1) 32 #[.slice (some ⟨w.heap.size + 1 + 1,0,none⟩) 1 1]∧Blk w1 (w.heap.size + 1 + 1 + 1 + 1) 25 #[.int .i64 100,.int .i64 0,.slice (some ⟨w.heap.size,0,none⟩) 1 1,.slice (some ⟨w.heap.size + 1 + 1 + 1,0,none⟩) 1 1]):=Zh (by
  rw [hw1]
  exact ⟨((((Blk.new _ _ _).alloc _).alloc _).alloc _).alloc _,(((Blk.newAt _ _ (by simp)).alloc _).alloc _).alloc _,((Blk.newAt _ _ (by simp)).alloc _).alloc _,(Blk.newAt _ _ (by simp)).alloc _,Blk.newAt _ _ (by simp)⟩)
 have S1:Hid (w1.heap.size=w.heap.size + 1 + 1 + 1 + 1 + 1):=Zh (by rw [hw1]; simp)
 rw [← hw1]
 clear hw1
 obtain ⟨a,ha⟩:∃ x,x=w.heap.size:=⟨_,rfl⟩
 rw [← ha] at XA S1
 rw [← ha]
 clear ha
 have hu1:Upd [] w1 ((w1.alloc (.cells #[.int .i64 7] 3)).alloc (.cells #[.int .i64 0,.int .i64 0,.int .i64 0,.bool false,.int .i64 0,.int .i64 0,.int .i64 1,.slice (some ⟨a + 1 + 1 + 1 + 1 + 1,0,none⟩) 1 1,.int .i64 0] 42)):=((Upd.refl _ _).alloc _).alloc _
 have hG:Blk ((w1.alloc (.cells #[.int .i64 7] 3)).alloc (.cells #[.int .i64 0,.int .i64 0,.int .i64 0,.bool false,.int .i64 0,.int .i64 0,.int .i64 1,.slice (some ⟨a + 1 + 1 + 1 + 1 + 1,0,none⟩) 1 1,.int .i64 0] 42)) (a + 1 + 1 + 1 + 1 + 1) 3 #[.int .i64 7]:=(Blk.newAt _ _ S1.out).alloc _
 have hQ:Blk ((w1.alloc (.cells #[.int .i64 7] 3)).alloc (.cells #[.int .i64 0,.int .i64 0,.int .i64 0,.bool false,.int .i64 0,.int .i64 0,.int .i64 1,.slice (some ⟨a + 1 + 1 + 1 + 1 + 1,0,none⟩) 1 1,.int .i64 0] 42)) (a + 1 + 1 + 1 + 1 + 1 + 1) 42 (enCells (enA (a + 1 + 1 + 1 + 1 + 1))).toArray:=Blk.newAt _ _ (by simp [S1.out])
 have hc:=judgeA (XA.out.1.upd hu1 (by simp)) (XA.out.2.1.upd hu1 (by simp)) (XA.out.2.2.1.upd hu1 (by simp)) (XA.out.2.2.2.1.upd hu1 (by simp)) hG hQ (HG.out.upd (U1.out.trans hu1) (by simp))
 rw [jA7] at hc
 refine hc.mono ?_
 rintro e w2 ⟨v2,rfl,e2,u2⟩
 have E2:=Zh e2
 have U2:Hid (Upd [] w1 w2):=Zh (hu1.trans u2)
 have b0:=(XA.out.2.2.2.2.upd U2.out (by simp)).facts
 clear hc e2 u2 hu1 hG hQ
 go_wp2_with fail
 obtain ⟨z,hz⟩:∃ z,z=w2.heap.size:=⟨_,rfl⟩
 have hu1:Upd [] w2 ((w2.alloc (.cells #[.int .i64 (-1)] 3)).alloc (.cells #[.int .i64 0,.int .i64 0,.int .i64 0,.bool false,.int .i64 0,.int .i64 0,.int .i64 1,.slice (some ⟨w2.heap.size,0,none⟩) 1 1,.int .i64 0] 42)):=((Upd.refl _ _).alloc _).alloc _
 have hG:Blk ((w2.alloc (.cells #[.int .i64 (-1)] 3)).alloc (.cells #[.int .i64 0,.int .i64 0,.int .i64 0,.bool false,.int .i64 0,.int .i64 0,.int .i64 1,.slice (some ⟨w2.heap.size,0,none⟩) 1 1,.int .i64 0] 42)) w2.heap.size 3 #[.int .i64 (-1)]:=(Blk.new _ _ _).alloc _
 have hQ:Blk ((w2.alloc (.cells #[.int .i64 (-1)] 3)).alloc (.cells #[.int .i64 0,.int .i64 0,.int .i64 0,.bool false,.int .i64 0,.int .i64 0,.int .i64 1,.slice (some ⟨w2.heap.size,0,none⟩) 1 1,.int .i64 0] 42)) (w2.heap.size + 1) 42 (enCells (enA w2.heap.size)).toArray:=Blk.newAt _ _ (by simp)
 have hc:=judgeA (XA.out.1.upd (U2.out.trans hu1) (by simp)) (XA.out.2.1.upd (U2.out.trans hu1) (by simp)) (XA.out.2.2.1.upd (U2.out.trans hu1) (by simp)) (XA.out.2.2.2.1.upd (U2.out.trans hu1) (by simp)) hG hQ (HG.out.upd (U1.out.trans (U2.out.trans hu1)) (by simp))
 rw [jA1] at hc
 refine hc.mono ?_
 rintro e w3 ⟨v3,rfl,e3,u3⟩
 have E3:=Zh e3
 have U23:Hid (Upd [] w2 w3):=Zh (hu1.trans u3)
 have U3:Hid (Upd [] w w3):=Zh ((U1.out.trans U2.out).trans U23.out)
 clear hc e3 u3 hu1 hG hQ b0 hz
 have E2':=Zh (E2.out.upd U23.out)
 go_wp2_with fail
 refine (no_err E2'.out).mono ?_
 rintro e w4 ⟨rfl,rfl⟩
 go_wp2_with fail
 refine (place_err E2'.out (HG.out.upd U3.out (by simp))).mono ?_
 rintro e w5 ⟨rfl,u5⟩
 have U5:=Zh u5
 clear u5
 go_wp2_with fail
 refine (no_err (E3.out.upd U5.out)).mono ?_
 rintro e w6 ⟨rfl,rfl⟩
 go_wp2_with fail
 go_ret
 exact ⟨rfl,U3.out.trans U5.out⟩
end Go.Proofs.YtmjnmpifibemjaaGreatDoor

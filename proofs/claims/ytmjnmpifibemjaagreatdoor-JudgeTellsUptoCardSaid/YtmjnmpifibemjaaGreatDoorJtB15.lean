/-
 judge's own state; judge.told: does an attempt tell what it is told behind so many?.
-/
import Derived.Test.YtmjnmpifibemjaaGreatDoorJtB7
import Derived.Test.YtmjnmpifibemjaaGreatDoorJtB10
import Derived.Test.YtmjnmpifibemjaaGreatDoorJtB14
import Derived.Test.YtmjnmpifibemjaaGreatDoorJtB2
import Derived.Test.YtmjnmpifibemjaaGreatDoorJtB4
import Derived.Test.YtmjnmpifibemjaaGreatDoorJtB1
import Derived.Deep.Cut
import Derived.Deep.CutRange
import Derived.Test.YtmjnmpifibemjaaGreatDoorJtB0
set_option linter.unusedVariables false
set_option linter.unusedSimpArgs false
set_option maxRecDepth 100000
set_option maxHeartbeats 16000000
namespace Go.Proofs.YtmjnmpifibemjaaGreatDoor
open Go.RowKit St Jd Ev
attribute [local go_sem] litStep_value
structure StsV (B:Nat) (w:World) (av:Value) (sts:List MP.MS) (fp:List (Nat × List Nat)):Prop where
 len:fp.length=sts.length
 own:w.ownsRow B 52 1 av sts.length (fp.map fun q => .pointer (some ⟨q.1,0,none⟩))
 st:∀ (i:Nat) q s,fp[i]?=some q→sts[i]?=some s→Mdl B q.1 q.2 w s∧∀ b,av.ownBlock=some b→b ∉ q.2
theorem StsV.upd {B:Nat} {w w':World} {av:Value} {sts:List MP.MS} {fp:List (Nat × List Nat)} {T:List Nat} (h:StsV B w av sts fp) (hu:Upd T w w') (h1:∀ b,av.ownBlock=some b→b ∉ T) (h2:∀ q ∈ fp,∀ x ∈ q.2,x ∉ T):StsV B w' av sts fp :=
 ⟨h.len,own_upd h.own hu h1,fun i q s hq hs => ⟨(h.st i q s hq hs).1.upd hu (fun x hx => h2 q (List.mem_of_getElem? hq) x hx),(h.st i q s hq hs).2⟩⟩
theorem StsV.upd0 {B:Nat} {w w':World} {av:Value} {sts:List MP.MS} {fp:List (Nat × List Nat)} (h:StsV B w av sts fp) (hu:Upd [] w w'):StsV B w' av sts fp:=h.upd hu (fun _ _ => by simp) (fun _ _ _ _ => by simp)
structure JSt (B jb:Nat) (p:Pn) (kv tv dv ov av:Value) (M:List En) (od:List Nat) (sts:List MP.MS) (fp:List (Nat × List Nat)) (w:World):Prop where
 box:Blk w jb 77 #[.int .i64 p.words,.int .i64 p.pat,kv,tv,dv,ov,av]
 jB:B≤jb
 plan:PlanV w p kv tv
 dn:Ow encE 42 w B dv M
 od:w.ownsRow B 3 1 ov od.length (od.map fun (x:Nat) => Value.int .i64 x)
 sts:StsV B w av sts fp
 ty:Typed w
 en:∀ m ∈ M,EnOk w m
 nj:∀ q ∈ fp,jb ∉ q.2
theorem JSt.upd0 {B jb:Nat} {p:Pn} {kv tv dv ov av:Value} {M:List En} {od:List Nat} {sts:List MP.MS} {fp:List (Nat × List Nat)} {w w':World} (h:JSt B jb p kv tv dv ov av M od sts fp w) (hu:Upd [] w w'):JSt B jb p kv tv dv ov av M od sts fp w' :=
 ⟨h.box.upd hu (by simp),h.jB,h.plan.upd0 hu,h.dn.upd0 hu,own_upd0 h.od hu,h.sts.upd0 hu,h.ty.upd hu (by simp),fun m hm => ((h.en m hm).upd0 hu).1,h.nj⟩
def SzP (p:Pn):Prop:=∀ t ∈ p.ths,∀ l ∈ t,sizes l≤900000
theorem txn_size {p:Pn} (hf:SzP p) {x:Att} {l:List Stm} (h:txnR p x=some l):sizes l≤900000:=by
 obtain ⟨t,ht,hl⟩:=txn_mem h
 exact hf t ht l hl
theorem edW_upd {w w':World} {m:En} (h:EnOk w m) (hu:Upd [] w w'):edW w' m=edW w m:=by
 unfold edW
 rw [(h.upd0 hu).2]
def RunG (B:Nat) (s:MP.MS) (l:List Stm) (w:World) (e:Ending) (w':World):Prop :=
 ∃ (sb:Nat) (F:List Nat) (v:Value),e=.returned (.tuple #[.pointer (some ⟨sb,0,none⟩),.agg #[.int .i64 (endE s l),v],.nilIface])∧Upd [] w w'∧(toldE s l).length≤201000∧w'.ownsRow w.heap.size 3 1 v (toldE s l).length ((toldE s l).map (Value.int .i64)) ∧
   Mdl w.heap.size sb F w' (finE s l)∧∀ b,v.ownBlock=some b→b ∉ F
theorem run_good {B sb:Nat} {F:List Nat} {s:MP.MS} {l:List Stm} {v:Value} (w:World) (h:Mdl B sb F w s) (hv:Stms w w.heap.size v l) (hl:sizes l≤900000) (hg:Typed w) (hk:KO s) (hr:(rightR s.K l).1=0) :
 Calls Tryz.prog 58 #[.pointer (some ⟨sb,0,none⟩),v] w (RunG B s l w):=by
 refine (run_ok B sb F s l v w h hv hl hg).mono ?_
 rintro e w' ⟨p,n,v',u,rfl,hu,hc⟩
 have he:=err_none hk hr
 have h5:=(kor_evL l (r0 s) hk).2
 have e1:endE s l=endC (evL l (r0 s)).2:=by unfold endE; rw [if_pos he]
 have e2:toldE s l=(evL l (r0 s)).1.told:=by unfold toldE; rw [if_pos he]
 rcases hc with hc | hc | hc
 ·exact absurd hr hc.1
 ·exact absurd hc.2.1 h5
 ·obtain ⟨_,_,rfl,rfl,h1,h2,sb',F',rfl,h3,h4⟩:=hc
  refine ⟨sb',F',v',by rw [e1],hu,by rw [e2]; exact h1,by rw [e2]; exact h2,h3,h4⟩
theorem told_ok {B jb:Nat} {p:Pn} {kv tv dv ov av:Value} {M:List En} {od:List Nat} {sts:List MP.MS} {fp:List (Nat × List Nat)} (w:World) (h:JSt B jb p kv tv dv ov av M od sts fp w) (hf:FitP p) (hz:SzP p) (m:En) (hm:EnOk w m) (h1k:m.tn≤300000) {l:List Stm} (hx:txnR p (attE m)=some l)
 (n:Nat) {s:MP.MS} (hs:sts[n]?=some s) (hso:StOk p s) (h100:sts.length≤100) :
 Calls Tryz.prog 61 #[.pointer (some ⟨jb,0,none⟩),.agg (enCells m).toArray,.int .i64 n] w fun e w' => e=.returned (.bool (toldB p (edW w m) s))∧Upd [] w w':=by
 have hnl:=(List.getElem?_eq_some_iff.1 hs).1
 obtain ⟨q,hq⟩:∃ q,fp[n]?=some q:=⟨_,List.getElem?_eq_getElem (by rw [h.sts.len]; exact hnl)⟩
 obtain ⟨ga,ca,rfl⟩:∃ g c,av=.slice (some ⟨g,0,none⟩) sts.length c:=by
  obtain ⟨g,c,_,e,_⟩:=own_form h.sts.own (by omega)
  exact ⟨g,c,e⟩
 have ca1:w.cell? ⟨ga,n,none⟩=some (.pointer (some ⟨q.1,0,none⟩)):=own_cell h.sts.own n _ (by rw [List.getElem?_map,hq]; rfl)
 have ca2:ga < w.heap.size:=(own_lt h.sts.own (b:=ga) rfl).2
 have bx:=h.box.facts
 obtain ⟨Ad,cd,rfl,_,_⟩:=own_slice h.dn
 obtain ⟨Ao,co,rfl,_,_⟩:=own_slice h.od
 have HJ:=Zh h
 have HF:=Zh hf
 have HM:=Zh hm
 have HX:=Zh hx
 have HS:Hid (Mdl B q.1 q.2 w s∧StOk p s):=Zh ⟨(h.sts.st n q s hq hs).1,hso⟩
 have HZ:=Zh (txn_size hz hx)
 have HTX:=Zh (txn_ok p kv tv m)
 have H100:=Zh (And.intro hf.th6 hf.tx20)
 obtain ⟨sn,hsn⟩:∃ k,k=sts.length:=⟨_,rfl⟩
 rw [← hsn] at hnl h100 bx
 have HSN:=Zh hsn
 have hni:(n:Int) < sn:=by omega
 have hs100:(sn:Int)≤100:=by omega
 have htn:(m.tn:Int)≤300000:=by omega
 have H1K:=Zh h1k
 clear h hf hz hm hx hs hso hq hsn hnl h100 h1k
 simp only [enCells]
 go_enter Tryz.func61,Tryz.ntmps61
 go_wp2_with fail
 refine wp_forced (by kernel_rfl) (by kernel_rfl) ?_
 simp only [ordered,List.filter_cons,List.filter_nil,isFloat,Option.isNone_none,Option.isNone_some,Bool.true_and,Bool.and_true,Bool.false_and,Bool.and_false,List.all_toArray,List.all_cons,List.all_nil,Region.binds,Bool.not_true,Bool.not_false,if_true,if_false,Bool.false_eq_true,List.cons_append,List.nil_append,ite_true,ite_false]
 repeat (refine wpF_light ?_ (fun K hK => ?_); (· simp only [lightOp]; done); go_simp; refine hK _ ?_; clear hK K; simp only [aP])
 refine wpF_call (by simp only [lightOp]) (by rfl) (fun K hK => ?_)
 go_wp2_with fail
 refine (HTX.out _ (HJ.out.plan.upd0 (((Upd.refl [] w).alloc _).drew)) ⟨by have:=H100.out.1; omega,fun t ht => by have:=H100.out.2 t ht; omega⟩).mono ?_
 rintro e w1 ⟨v,rfl,hst,u1⟩
 have hiS:(txnR p (attE m)).isSome=true:=by rw [HX.out]; rfl
 rw [hiS]
 have HST:=Zh (hst l HX.out)
 have U1:Hid (Upd [] w w1):=Zh ((((Upd.refl [] w).alloc _).drew).trans u1)
 have BX:Hid (Blk w1 w.heap.size 42 #[.int .i64 m.th,.int .i64 m.ix,.int .i64 m.st,.bool m.wr,.int .i64 m.be,.int .i64 m.en,.int .i64 m.kd,.slice m.ta m.tn m.tc,.int .i64 m.er]):=Zh ((Blk.new w _ _).upd (((Upd.refl [] _).drew).trans u1) (by simp))
 have d1:=(HJ.out.box.upd U1.out (by simp)).facts
 rw [← HSN.out] at d1
 have d2:w1.cell? ⟨ga,n,none⟩=some (.pointer (some ⟨q.1,0,none⟩)):=by
  have:=U1.out.keep ga ca2 (by simp)
  exact (World.cell?_of_block this).trans ca1
 have d3:ga < w1.heap.size:=Nat.lt_of_lt_of_le ca2 U1.out.size
 clear hst u1 hiS bx ca1 ca2
 go_wp2_with fail
 refine hK.out _ _ ?_
 clear hK K
 try simp only [aP]
 repeat (refine wpF_light ?_ (fun K hK => ?_); (· simp only [lightOp]; done); go_simp; refine hK _ ?_; clear hK K; simp only [aP])
 refine wpF_end ?_
 go_wp2_with fail
 refine (run_good w1 (HS.out.1.upd0 U1.out) HST.out HZ.out (HJ.out.ty.upd U1.out (by simp)) HS.out.2.1 (by rw [HS.out.2.2]; exact txn_right HF.out HX.out)).mono ?_
 rintro e w2 ⟨sb,F2,v2,rfl,u2,t2,o2,_,_⟩
 have ETO:Hid (txnO p (edW w m)=l):=Zh (by show (txnR p (attE m)).getD []=l; rw [HX.out]; rfl)
 obtain ⟨en,hen⟩:∃ en,en=endE s l:=⟨_,rfl⟩
 obtain ⟨tl,htl⟩:∃ tl,tl=toldE s l:=⟨_,rfl⟩
 obtain ⟨tk,htk⟩:∃ tk,tk=tl.length:=⟨_,rfl⟩
 rw [← htl,← htk] at t2 o2
 rw [← hen]
 obtain ⟨A2,c2,rfl,_,_⟩:=own_slice o2
 have HE:Hid (toldB p (edW w m) s=(en == m.kd && tl == tlW w m)):=Zh (by unfold toldB; rw [ETO.out,← hen,← htl]; rfl)
 have U2:=Zh (U1.out.trans u2)
 have BX2:=(BX.out.upd u2 (by simp)).facts
 have S2:Hid (Src w2 1 (.slice A2 tk c2) tk (tl.map (Value.int .i64))∧tk≤201000):=Zh ⟨Src.of_own o2,t2⟩
 have htk2:(tk:Int)≤201000:=by omega
 clear u2 t2 o2 hen htl htk d1 d2 d3 hni
 by_cases h1:en=m.kd
 ·have e1:(en == m.kd)=true:=by simpa using h1
  have E1:=Zh e1
  clear h1
  go_wp2_with fail
  have ua:Upd [] w2 (w2.alloc (Obj.cells #[Value.int IntKind.i64 en,Value.slice A2 tk c2] 34)):=(Upd.refl _ _).alloc _
  refine (equal_src m.ta A2 m.tn m.tc tk c2 (tlW w m) tl _ (Src.upd0 HM.out (U2.out.trans ua)) (S2.out.1.upd0 ua) (by have:=H1K.out; omega) (by have:=S2.out.2; omega)).mono ?_
  rintro e w3 ⟨rfl,u3⟩
  have U3:=Zh ((U2.out.trans ua).trans u3)
  have EQ:Hid (decide (tlW w m=tl)=(tl == tlW w m)):=Zh (by
   by_cases h:tlW w m=tl
   ·rw [h]; simp
   ·rw [decide_eq_false h]; symm; simpa using fun e => h e.symm)
  rw [EQ.out]
  clear u3 ua
  go_wp2_with fail
  go_ret
  rw [HE.out,E1.out]
  exact ⟨by simp,U3.out⟩
 ·have e1:(en == m.kd)=false:=by simpa using h1
  have E1:=Zh e1
  clear h1
  go_wp2_with fail
  go_ret
  rw [HE.out,E1.out]
  exact ⟨rfl,U2.out.alloc _⟩
end Go.Proofs.YtmjnmpifibemjaaGreatDoor
namespace Go.Proofs.YtmjnmpifibemjaaGreatDoor.Old
open Go.RowKit
def LinesR (w:World) (B:Nat):List (Stm × Nat)→List Value→Prop
 | [],xs => xs=[]
 | (.mk k coll reg ar an br bn bo el,d) :: l,xs => ∃ vb ve ys,xs=stmCells k coll reg ar an br bn vb ve ++ (.int .i64 d :: ys)∧Stms w B vb bo∧Stms w B ve el∧LinesR w B l ys
theorem LinesR.keep {w w':World} {B:Nat} (hk:Below B w w'):∀ {l:List (Stm × Nat)} {xs:List Value},LinesR w B l xs→LinesR w' B l xs
 | [],_,h => h
 | (.mk ..,d) :: l,xs,⟨vb,ve,ys,h1,h2,h3,h4⟩ => ⟨vb,ve,ys,h1,h2.belowW hk,h3.belowW hk,LinesR.keep hk h4⟩
theorem LinesR.append {w:World} {B:Nat}:∀ {l m:List (Stm × Nat)} {xs ys:List Value},LinesR w B l xs→LinesR w B m ys→LinesR w B (l ++ m) (xs ++ ys)
 | [],m,xs,ys,h,h' => by cases h; exact h'
 | (.mk ..,d) :: l,m,xs,ys,⟨vb,ve,zs,h1,h2,h3,h4⟩,h' => ⟨vb,ve,zs ++ ys,by rw [h1]; simp,h2,h3,LinesR.append h4 h'⟩
theorem LinesR.len {w:World} {B:Nat}:∀ {l:List (Stm × Nat)} {xs:List Value},LinesR w B l xs→xs.length=l.length * 10
 | [],_,h => by cases h; rfl
 | (.mk ..,d) :: l,xs,⟨vb,ve,zs,h1,h2,h3,h4⟩ => by rw [h1]; simp [stmCells,LinesR.len h4]; omega
theorem snoc_app (p:List Value) (v:Value) (ys:List Value):p ++ (v :: ys)=(p ++ [v]) ++ ys:=by simp
theorem LinesR.get {w:World} {B:Nat}:∀ {l:List (Stm × Nat)} {xs:List Value} {i:Nat} {k coll reg ar an br bn:Int} {bo el:List Stm} {d:Nat},LinesR w B l xs→l[i]?=some (.mk k coll reg ar an br bn bo el,d) →
 ∃ vb ve,Stms w B vb bo∧Stms w B ve el∧∀ j u,(stmCells k coll reg ar an br bn vb ve ++ [.int .i64 d])[j]?=some u→xs[i * 10 + j]?=some u
 | [],xs,i,_,_,_,_,_,_,_,_,_,_,_,h => by simp at h
 | (.mk ..,d) :: l,xs,0,_,_,_,_,_,_,_,_,_,_,⟨vb,ve,ys,h1,h2,h3,h4⟩,h => by
   simp at h
   obtain ⟨⟨rfl,rfl,rfl,rfl,rfl,rfl,rfl,rfl,rfl⟩,rfl⟩:=h
   refine ⟨vb,ve,h2,h3,fun j u hj => ?_⟩
   rw [h1]
   have hj':=(List.getElem?_eq_some_iff.1 hj).1
   rw [snoc_app,List.getElem?_append_left (by omega)]
   rw [Nat.zero_mul,Nat.zero_add]
   exact hj
 | (.mk ..,d) :: l,xs,i + 1,_,_,_,_,_,_,_,_,_,_,⟨vb,ve,ys,h1,h2,h3,h4⟩,h => by
   obtain ⟨vb',ve',g1,g2,g3⟩:=LinesR.get h4 (by simpa using h)
   refine ⟨vb',ve',g1,g2,fun j u hj => ?_⟩
   rw [h1]
   rw [snoc_app,List.getElem?_append_right (by simp [stmCells]; omega)]
   rw [show ∀ p:List Value,p.length=10→(i + 1) * 10 + j - p.length=i * 10 + j from fun p hp => by omega]
   rotate_left
   ·simp [stmCells]
   exact g3 j u hj
theorem line_elem:Elem Tryz.prog 110 113 10 112:=.mk' (z:=((Tryz.prog.info? 113).bind (·.zero)).getD undef) Tryz.underlying110 (by kernel_rfl) (by kernel_rfl) (by omega)
theorem stopped {p:Prop} (h:Hid p):p:=h.out
def LinesPost (B B':Nat) (r:List (Stm × Nat)) (n:Nat) (xs:List Value) (vo:Value) (w:World) (e:Ending) (w':World):Prop :=
 ∃ v' ys,e=.returned v'∧w'.ownsRow B' 113 10 v' (n + r.length) (xs ++ ys)∧LinesR w' B r ys∧Upd vo.ownBlock.toList w w'∧(v'.ownBlock=vo.ownBlock∨∃ g,v'.ownBlock=some g∧w.heap.size≤g)
theorem own_below {w w':World} {B B' n s:Nat} {e:TypeId} {v:Value} {xs:List Value} (h:w.ownsRow B' e s v n xs) (hB:B≤B') (hz:B'≤w.heap.size) (hu:Upd v.ownBlock.toList w w'):Below B w w' :=
 hu.below (by omega) (fun x hx => by have:=(own_lt h (b:=x) (by simpa using hx)).1; omega)
theorem own_trans {w w1 w2:World} {v v1 v2:Value} (h1:Upd v.ownBlock.toList w w1) (b1:v1.ownBlock=v.ownBlock∨∃ g,v1.ownBlock=some g∧w.heap.size≤g) (h2:Upd v1.ownBlock.toList w1 w2) (b2:v2.ownBlock=v1.ownBlock∨∃ g,v2.ownBlock=some g∧w1.heap.size≤g) :
 Upd v.ownBlock.toList w w2∧(v2.ownBlock=v.ownBlock∨∃ g,v2.ownBlock=some g∧w.heap.size≤g):=by
 refine ⟨h1.trans' h2 (fun x hx => ?_),?_⟩
 ·rcases b1 with b | ⟨g,b,hg⟩
  ·rw [b] at hx; exact .inl hx
  ·rw [b] at hx; simp at hx; subst hx; exact .inr hg
 ·rcases b2 with b | ⟨g,b,hg⟩
  ·rw [b]; exact b1
  ·exact .inr ⟨g,b,Nat.le_trans h1.size hg⟩
theorem lines_ok {B B':Nat} (hBB:B≤B'):∀ (m:Nat) (l:List Stm) (v vo:Value) (w:World) (d n:Nat) (xs:List Value),sizes l < m→Stms w B v l→w.ownsRow B' 113 10 vo n xs→B'≤w.heap.size→n + sizes l≤900000→d + sizes l≤1000000 →
 Calls Tryz.prog 46 #[vo,v,.int .i64 d] w (LinesPost B B' (linesOf d l) n xs vo w):=by
 intro m
 induction m with
 | zero => intro l v vo w d n xs hm; omega
 | succ m ih =>
   intro l v vo w d n xs hm hl ho hB hn hd
   have HL:=Zh hl
   cases hl with
   | mk A nn c l vb ve hln hc hcm hcell hbb hee =>
   have hnn:nn≤9223372036854775807:=by omega
   have HO:=Zh ho
   have HLN:=Zh hln
   have HCE:=Zh hcell
   have HBB:=Zh hbb
   have HEE:=Zh hee
   have IH:=Zh ih
   have HLL:=Zh (lines_sizes _ l d (Nat.le_refl _))
   clear hln hcell hbb hee ih ho
   go_enter Tryz.func46,Tryz.ntmps46
   go_wp2_with fail
   go_loopw [0,7] (fun u0 i wr => ∃ (k:Nat) (ys:List Value),i=.int .i64 k∧k≤nn∧Hid (wr.ownsRow B' 113 10 u0 (n + sizes (l.take k)) (xs ++ ys))∧Hid (LinesR wr B (linesOf d (l.take k)) ys)∧Hid (Upd vo.ownBlock.toList w wr)∧Hid (u0.ownBlock=vo.ownBlock∨∃ g,u0.ownBlock=some g∧w.heap.size≤g)) (fun _ i _ => nn - (intOf i).toNat)
   case atStart => exact ⟨0,[],rfl,by omega,Zh (by rw [List.append_nil]; exact HO.out),Zh rfl,Zh (.refl _ _),Zh (.inl rfl)⟩
   case round =>
    obtain ⟨k,ys,rfl,hk,KO,KR,KU,KV⟩:=hrel
    have KL:Hid (Below B w wr):=Zh (own_below HO.out hBB hB KU.out)
    have hz:=KU.out.size
    by_cases hkn:k < nn
    ·obtain ⟨x,hx⟩:∃ x,l[k]?=some x:=⟨_,List.getElem?_eq_getElem (by rw [HLN.out]; exact hkn)⟩
     obtain ⟨a1,a2,a3,a4,a5,a6,a7,bo,el⟩:=x
     obtain ⟨ad,rfl,hlt,hcc⟩:=HCE.out k a1 a2 a3 a4 a5 a6 a7 bo el hx
     have hsb:=HBB.out k a1 a2 a3 a4 a5 a6 a7 bo el hx
     have hse:=HEE.out k a1 a2 a3 a4 a5 a6 a7 bo el hx
     obtain ⟨Ab,nb,cb,hvb⟩:=hsb.slice
     obtain ⟨Ae,ne,ce,hve⟩:=hse.slice
     rw [hvb,hve] at hcc
     rw [hvb] at hsb
     rw [hve] at hse
     have cj:Hid (∀ W,Below B w W→W.cell? (ad.add (k * 9))=some (.int .i64 a1)∧∀ j u,(stmCells a1 a2 a3 a4 a5 a6 a7 (.slice Ab nb cb) (.slice Ae ne ce))[j + 1]?=some u→W.cell? ⟨(ad.add (k * 9)).block,(ad.add (k * 9)).off + (j + 1),none⟩=some u):=Zh (fun W hW => ⟨(hW.cell (by rw [block_add]; exact hlt)).trans (hcc 0 _ rfl),fun j u hu => by
      rw [← add_more]; exact (hW.cell (by rw [block_add]; exact hlt)).trans (hcc (j + 1) _ hu)⟩)
     have HSB:=Zh hsb
     have HSE:=Zh hse
     have hsz:=sizes_get hx
     rw [size_mk] at hsz
     have hst:=sizes_take hx
     rw [size_mk] at hst
     have htl:=sizes_take_le l (k + 1)
     have HX:=Zh hx
     clear hvb hve hsb hse hcc hx
     obtain ⟨c0,cr⟩:=cj.out wr KL.out
     have c1:=cr 0 _ rfl
     have c2:=cr 1 _ rfl
     have c3:=cr 2 _ rfl
     have c4:=cr 3 _ rfl
     have c5:=cr 4 _ rfl
     have c6:=cr 5 _ rfl
     have c7:=cr 6 _ rfl
     have c8:=cr 7 _ rfl
     clear cr
     have LEN:Hid (n + sizes (l.take k) + 1≤maxLen):=Zh (by simp only [maxLen]; omega)
     have BYT:Hid ((n + sizes (l.take k) + 1) * 112≤140737488355328):=Zh (by omega)
     have KOA:Hid (∀ o,(wr.alloc o).ownsRow B' 113 10 u0 (n + sizes (l.take k)) (xs ++ ys)):=Zh (fun o => own_upd0 KO.out ((Upd.refl [] wr).alloc o))
     have BZ:Hid (B'≤wr.heap.size + 1):=Zh (by omega)
     go_wp2_with (at_builtin; refine stopped ?_)
     refine Zh ?_
     refine wpList_app _ (by rfl) (.tmp 14) (.tmp 21) _ (by rfl) line_elem u0 _ (by rfl) (by rfl) (KOA.out _) (Src.newAt (m:=1) rfl 1 rfl) (by intro u hu; simp at hu; rcases hu with rfl | rfl | rfl | rfl | rfl | rfl | rfl | rfl | rfl | rfl <;> rfl) LEN.out BYT.out (by simpa using BZ.out) ?_
     intro v1 w1 o1 u1 b1
     simp only [List.append_assoc] at o1
     obtain ⟨T1,T2⟩:=own_trans KU.out KV.out (((Upd.refl u0.ownBlock.toList wr).alloc (.cells #[.int .i64 a1,.int .i64 a2,.int .i64 a3,.int .i64 a4,.int .i64 a5,.int .i64 a6,.int .i64 a7,.slice Ab nb cb,.slice Ae ne ce,.int .i64 d] 113)).trans u1) (b1.imp id fun h => ⟨_,h,by simp⟩)
     have KB0:Hid (Below B wr w1):=Zh (own_below KO.out hBB (by omega) (((Upd.refl u0.ownBlock.toList wr).alloc (.cells #[.int .i64 a1,.int .i64 a2,.int .i64 a3,.int .i64 a4,.int .i64 a5,.int .i64 a6,.int .i64 a7,.slice Ab nb cb,.slice Ae ne ce,.int .i64 d] 113)).trans u1))
     have O1:=Zh o1
     have U1:=Zh T1
     have V1:=Zh T2
     clear o1 u1 b1 T1 T2 c0 c1 c2 c3 c4 c5 c6 c7 c8
     have KL1:Hid (Below B w w1):=Zh (own_below HO.out hBB hB U1.out)
     have z1:=U1.out.size
     obtain ⟨_,cr⟩:=cj.out w1 KL1.out
     have c7:=cr 6 _ rfl
     clear cr
     go_wp2_with fail
     have hc:=IH.out bo (.slice Ab nb cb) v1 w1 (d + 1) (n + sizes (l.take k) + 1) _ (by omega) (HSB.out.belowW KL1.out) O1.out (by omega) (by omega) (by omega)
     rw [show ((d + 1:Nat):Int)=(d:Int) + 1 by omega] at hc
     refine hc.mono ?_; clear hc; rintro e w2 ⟨v2,ys2,rfl,o2,r2,u2,b2⟩
     rw [lines_sizes _ bo (d + 1) (Nat.le_refl _)] at o2
     obtain ⟨T1,T2⟩:=own_trans U1.out V1.out u2 b2
     have O2:=Zh o2
     have R2:=Zh r2
     have U2:=Zh T1
     have V2:=Zh T2
     have KB2:Hid (Below B w1 w2):=Zh (own_below O1.out hBB (by omega) u2)
     clear o2 r2 u2 b2 T1 T2 c7
     have KL2:Hid (Below B w w2):=Zh (own_below HO.out hBB hB U2.out)
     have z2:=U2.out.size
     obtain ⟨_,cr⟩:=cj.out w2 KL2.out
     have c8:=cr 7 _ rfl
     clear cr
     go_wp2_with fail
     have hc:=IH.out el (.slice Ae ne ce) v2 w2 (d + 1) (n + sizes (l.take k) + 1 + sizes bo) _ (by omega) (HSE.out.belowW KL2.out) O2.out (by omega) (by omega) (by omega)
     rw [show ((d + 1:Nat):Int)=(d:Int) + 1 by omega] at hc
     refine hc.mono ?_; clear hc; rintro e w3 ⟨v3,ys3,rfl,o3,r3,u3,b3⟩
     rw [lines_sizes _ el (d + 1) (Nat.le_refl _)] at o3
     obtain ⟨T1,T2⟩:=own_trans U2.out V2.out u3 b3
     have O3:=Zh o3
     have R3:=Zh r3
     have U3:=Zh T1
     have V3:=Zh T2
     have KL3:Hid (Below B w w3):=Zh (own_below HO.out hBB hB U3.out)
     have KB3:Hid (Below B w2 w3):=Zh (own_below O2.out hBB (by omega) u3)
     have KB1:Hid (Below B wr w3):=Zh ((KB0.out.trans KB2.out).trans KB3.out)
     clear o3 r3 u3 b3 T1 T2 c8
     go_wp2_with fail
     go_roundw
     case rel =>
      refine ⟨k + 1,ys ++ (stmCells a1 a2 a3 a4 a5 a6 a7 (.slice Ab nb cb) (.slice Ae ne ce) ++ [.int .i64 d]) ++ ys2 ++ ys3,by go_num,by omega,Zh ?_,Zh ?_,U3,V3⟩
      ·rw [show n + sizes (l.take (k + 1))=n + sizes (l.take k) + 1 + sizes bo + sizes el by omega]
       have:=O3.out
       simp only [List.append_assoc] at this ⊢
       exact this
      ·rw [lines_take d HX.out,line_mk]
       have h1:=(KR.out.keep KB1.out).append (LinesR.append (l:=[(Stm.mk a1 a2 a3 a4 a5 a6 a7 bo el,d)]) ⟨_,_,[],rfl,HSB.out.belowW KL3.out,HSE.out.belowW KL3.out,rfl⟩ ((R2.out.keep KB3.out).append R3.out))
       simp only [List.append_assoc,List.cons_append,List.nil_append] at h1 ⊢
       exact h1
     case measure => simp [intOf]; omega
    ·obtain rfl:nn=k:=by omega
     go_wp2_with fail
     go_ret
     refine ⟨u0,ys,rfl,?_,?_,KU.out,KV.out⟩
     ·rw [HLL.out]
      have:=KO.out
      rw [List.take_of_length_le (by rw [HLN.out]; exact Nat.le_refl _)] at this
      exact this
     ·have:=KR.out
      rw [List.take_of_length_le (by rw [HLN.out]; exact Nat.le_refl _)] at this
      exact this
end Go.Proofs.YtmjnmpifibemjaaGreatDoor.Old
namespace Go.Proofs.YtmjnmpifibemjaaGreatDoor
open Go.RowKit
def inB (k:Int) (xs:List Int):Bool:=xs.contains k
theorem in_ok (k:Int) (v:Value) (n:Nat) (xs:List Int) (w:World) (hs:Src w 1 v n (xs.map (Value.int .i64))) (hn:n≤1000000) :
 Calls Tryz.prog 75 #[.int .i64 k,v] w fun e w' => e=.returned (.bool (inB k xs))∧w=w':=by
 have hl:xs.length=n:=by simpa using hs.1
 obtain ⟨_,A,c,rfl,hc⟩:=hs
 have HC:=Zh hc
 have HL:=Zh hl
 clear hc hl
 go_enter Tryz.func75,Tryz.ntmps75
 go_wp2_with fail
 go_loop [5] (fun u => ∃ i:Nat,u=.int .i64 i∧i≤n∧Hid (∀ j,j < i→xs.getD j 0≠k)) (fun u => n - (intOf u).toNat)
 case atStart => exact ⟨0,rfl,by omega,Zh (by intro j hj; omega)⟩
 case round =>
  obtain ⟨i,rfl,hi,HD⟩:=hrel
  by_cases hin:i < n
  ·obtain ⟨x,hx⟩:∃ x,xs[i]?=some x:=⟨_,List.getElem?_eq_getElem (by rw [HL.out]; exact hin)⟩
   obtain ⟨ad,rfl,_,f1⟩:=HC.out i (.int .i64 x) (by simp [hx])
   have HX:=Zh hx
   clear hx
   by_cases hxk:x=k
   ·subst hxk
    have HR:Hid (inB x xs=true):=Zh (by unfold inB; simp; exact List.mem_of_getElem? HX.out)
    go_wp2_with fail
    go_ret
    rw [HR.out]
    exact ⟨rfl,rfl⟩
   ·have e1:(x == k)=false:=by simpa using hxk
    have HN:=Zh hxk
    clear hxk
    go_wp2_with fail
    go_round
    case rel =>
     refine ⟨i + 1,by go_num,by omega,Zh ?_⟩
     intro j hj
     rcases Nat.lt_or_eq_of_le (Nat.le_of_lt_succ hj) with h | h
     ·exact HD.out j h
     ·subst h
      rw [List.getD_eq_getElem?_getD,HX.out]
      exact HN.out
    case measure => simp [intOf]; omega
  ·obtain rfl:n=i:=by omega
   have HR:Hid (inB k xs=false):=Zh (by
    unfold inB
    rw [List.contains_eq_mem]
    simp only [decide_eq_false_iff_not]
    intro hm
    obtain ⟨j,hj,e⟩:=List.getElem_of_mem hm
    have:=HD.out j (by rw [← HL.out]; exact hj)
    rw [List.getD_eq_getElem?_getD,List.getElem?_eq_getElem hj] at this
    exact this e)
   go_wp2_with fail
   go_ret
   rw [HR.out]
   exact ⟨rfl,rfl⟩
theorem rarg_ok (r n:Int) (there:Bool) (w:World):Calls Tryz.prog 76 #[.agg #[.int .i64 r,.int .i64 n],.bool there] w fun e w' => e=.returned (.bool (argB r n there))∧Upd [] w w':=by
 cases there with
 | false =>
   have HR:Hid (argB r n false=(r == 0 && n == 0)):=Zh (by unfold argB; rw [Bool.eq_iff_iff]; simp)
   go_enter Tryz.func76,Tryz.ntmps76
   go_wp2_with fail
   all_goals
    go_ret
    exact ⟨by rw [HR.out]; simp [*],(Upd.refl [] w).alloc _⟩
 | true =>
   by_cases h1:0≤r
   ·by_cases h2:r≤8
    ·by_cases h3:-999≤n
     ·by_cases h4:n≤999
      ·have HR:Hid (argB r n true=true):=Zh (by unfold argB; simp [h1,h2,h3,h4])
       go_enter Tryz.func76,Tryz.ntmps76
       go_wp2_with fail
       go_ret
       rw [HR.out]
       exact ⟨rfl,(Upd.refl [] w).alloc _⟩
      ·have HR:Hid (argB r n true=false):=Zh (by unfold argB; simp [h4])
       have e4:decide (n≤999)=false:=by simpa using h4
       go_enter Tryz.func76,Tryz.ntmps76
       go_wp2_with fail
       go_ret
       rw [HR.out]
       exact ⟨rfl,(Upd.refl [] w).alloc _⟩
     ·have HR:Hid (argB r n true=false):=Zh (by unfold argB; simp [h3])
      have e3:decide (-999≤n)=false:=by simpa using h3
      go_enter Tryz.func76,Tryz.ntmps76
      go_wp2_with fail
      go_ret
      rw [HR.out]
      exact ⟨rfl,(Upd.refl [] w).alloc _⟩
    ·have HR:Hid (argB r n true=false):=Zh (by unfold argB; simp [h2])
     have e2:decide (r≤8)=false:=by simpa using h2
     go_enter Tryz.func76,Tryz.ntmps76
     go_wp2_with fail
     go_ret
     rw [HR.out]
     exact ⟨rfl,(Upd.refl [] w).alloc _⟩
   ·have HR:Hid (argB r n true=false):=Zh (by unfold argB; simp [h1])
    have e1:decide (0≤r)=false:=by simpa using h1
    go_enter Tryz.func76,Tryz.ntmps76
    go_wp2_with fail
    go_ret
    rw [HR.out]
    exact ⟨rfl,(Upd.refl [] w).alloc _⟩
end Go.Proofs.YtmjnmpifibemjaaGreatDoor
namespace Go.Proofs.YtmjnmpifibemjaaGreatDoor.Old
open Go.RowKit
attribute [local go_sem] litStep_value
theorem in_reg (k:Int):inB k [1,4,5,6,7,9,10]=pReg k:=by unfold inB pReg; rw [Bool.eq_iff_iff]; simp [or_assoc]
theorem in_a (k:Int):inB k [1,2,3,4,6,7,9,10,11,12]=pA k:=by unfold inB pA; rw [Bool.eq_iff_iff]; simp [or_assoc]
theorem in_b (k:Int):inB k [2,7,10,11]=pB k:=by unfold inB pB; rw [Bool.eq_iff_iff]; simp [or_assoc]
theorem one_ok (k coll:Int) (reg ar an br bn:Int) (Ab Ae:Option Addr) (nb cb ne ce:Nat) (A:Option Addr) (n c:Nat) (ks:List Int) (w:World) (hn:n≤1000000) (hlb:nb≤9223372036854775807) (hle:ne≤9223372036854775807) (hk:Src w 1 (.slice A n c) n (ks.map (Value.int .i64))) :
 Calls Tryz.prog 47 #[.agg #[.int .i64 k,.int .i64 coll,.int .i64 reg,.int .i64 ar,.int .i64 an,.int .i64 br,.int .i64 bn,.slice Ab nb cb,.slice Ae ne ce],.slice A n c] w fun e w' => e=.returned (.bool (rightV k coll reg ar an br bn nb ne ks))∧Upd [] w w':=by
 have hl:ks.length=n:=by simpa using hk.1
 obtain ⟨_,A',c',he,hc⟩:=hk
 injection he with he _ he3
 subst he he3
 have HL:=Zh hl
 have HC:=Zh hc
 obtain ⟨w1,hw1⟩:∃ w1,w1=w.alloc (.cells #[.int .i64 k,.int .i64 coll,.int .i64 reg,.int .i64 ar,.int .i64 an,.int .i64 br,.int .i64 bn,.slice Ab nb cb,.slice Ae ne ce] 62):=⟨_,rfl⟩
 have U1:Hid (Upd [] w w1):=Zh (by rw [hw1]; exact (Upd.refl _ _).alloc _)
 have X1:Hid (Blk w1 w.heap.size 62 #[.int .i64 k,.int .i64 coll,.int .i64 reg,.int .i64 ar,.int .i64 an,.int .i64 br,.int .i64 bn,.slice Ab nb cb,.slice Ae ne ce]):=Zh (by rw [hw1]; exact Blk.new _ _ _)
 obtain ⟨sb,hsb⟩:∃ x,x=w.heap.size:=⟨_,rfl⟩
 rw [← hsb] at X1
 have hn2:(n:Int)≤1000000:=by omega
 have hlb2:(nb:Int)≤9223372036854775807:=by omega
 have hle2:(ne:Int)≤9223372036854775807:=by omega
 clear hl hc hn hlb hle
 go_enter Tryz.func47,Tryz.ntmps47
 go_upto_region 2 with fail
 rw [← hw1,← hsb]
 clear hw1 hsb
 go_cut [14] from 9 to 14 (fun t wx => ∃ b,t=.bool b∧Hid (pIs k=!b)∧w1=wx)
 case first =>
  by_cases h1:k < 1
  ·have d1:decide (k < 1)=true:=by simpa using h1
   have e:Hid (pIs k=!true):=Zh (by unfold pIs; simp; omega)
   clear h1
   go_wp2_with fail
   go_meet
   exact ⟨_,rfl,e,rfl⟩
  ·have d1:decide (k < 1)=false:=by simpa using h1
   by_cases h2:16 < k
   ·have d2:decide (16 < k)=true:=by simpa using h2
    have e:Hid (pIs k=!true):=Zh (by unfold pIs; simp; omega)
    clear h1 h2
    go_wp2_with fail
    go_meet
    exact ⟨_,rfl,e,rfl⟩
   ·have d2:decide (16 < k)=false:=by simpa using h2
    have e:Hid (pIs k=!false):=Zh (by unfold pIs; simp; omega)
    clear h1 h2
    go_wp2_with fail
    go_meet
    exact ⟨_,rfl,e,rfl⟩
 case rest =>
  obtain ⟨b,rfl,E1,rfl⟩:=hcut
  cases b with
  | true =>
    have HRV:Hid (rightV k coll reg ar an br bn nb ne ks=false):=Zh (by unfold rightV; rw [E1.out]; simp)
    go_wp2_with fail
    go_ret
    rw [HRV.out]
    exact ⟨rfl,U1.out⟩
  | false =>
    have HK:Hid (1≤k∧k≤16):=Zh (by have:=E1.out; unfold pIs at this; simpa using this)
    have x1:=X1.out.facts
    go_upto_region 4 with fail
    go_cut [37] from 15 to 37 (fun t wx => ∃ b,t=.bool b∧Hid (b=true→collB coll (pColl k) (pOrd k) ks=false)∧Hid (b=false→(k≤8→0≤coll∧coll < n)∧(8 < k→coll=0))∧w1=wx)
    case first =>
     by_cases h1:k≤8
     ·have d1:decide (k≤8)=true:=by simpa using h1
      have d2:decide (8 < k)=false:=by simp; omega
      by_cases h2:coll < 0
      ·have d3:decide (coll < 0)=true:=by simpa using h2
       have e:Hid (collB coll (pColl k) (pOrd k) ks=false):=Zh (by have:=HK.out; unfold collB pColl; rw [if_pos (by simp; omega)]; simp; omega)
       clear h1 h2
       go_wp2_with fail
       go_meet
       exact ⟨_,rfl,Zh (fun _ => e.out),Zh (by simp),rfl⟩
      ·have d3:decide (coll < 0)=false:=by simpa using h2
       by_cases h3:(n:Int)≤coll
       ·have d4:decide ((n:Int)≤coll)=true:=by simpa using h3
        have e:Hid (collB coll (pColl k) (pOrd k) ks=false):=Zh (by have:=HK.out; have:=HL.out; unfold collB pColl; rw [if_pos (by simp; omega)]; simp; omega)
        clear h1 h2 h3
        go_wp2_with fail
        go_meet
        exact ⟨_,rfl,Zh (fun _ => e.out),Zh (by simp),rfl⟩
       ·have d4:decide ((n:Int)≤coll)=false:=by simpa using h3
        have e:Hid ((k≤8→0≤coll∧coll < n)∧(8 < k→coll=0)):=Zh (by omega)
        clear h1 h2 h3
        go_wp2_with fail
        go_meet
        exact ⟨_,rfl,Zh (by simp),Zh (fun _ => e.out),rfl⟩
     ·have d1:decide (k≤8)=false:=by simpa using h1
      have d2:decide (8 < k)=true:=by simp; omega
      by_cases h2:coll=0
      ·have d3:(coll != 0)=false:=by simpa using h2
       have e:Hid ((k≤8→0≤coll∧coll < n)∧(8 < k→coll=0)):=Zh (by omega)
       clear h1 h2
       go_wp2_with fail
       go_meet
       exact ⟨_,rfl,Zh (by simp),Zh (fun _ => e.out),rfl⟩
      ·have d3:(coll != 0)=true:=by simpa using h2
       have e:Hid (collB coll (pColl k) (pOrd k) ks=false):=Zh (by unfold collB pColl; rw [if_neg (by simp; omega)]; simpa using h2)
       clear h1 h2
       go_wp2_with fail
       go_meet
       exact ⟨_,rfl,Zh (fun _ => e.out),Zh (by simp),rfl⟩
    case rest =>
     obtain ⟨b,rfl,E2,E3,rfl⟩:=hcut
     cases b with
     | true =>
       have E4:=Zh (E2.out rfl)
       have HRV:Hid (rightV k coll reg ar an br bn nb ne ks=false):=Zh (by unfold rightV; rw [E4.out]; simp)
       go_wp2_with fail
       go_ret
       rw [HRV.out]
       exact ⟨rfl,U1.out⟩
     | false =>
       have E4:=Zh (E3.out rfl)
       clear E2 E3
       go_upto_region 6 with fail
       go_cut [51] from 38 to 51 (fun t wx => ∃ b,t=.bool b∧Hid (collB coll (pColl k) (pOrd k) ks=!b)∧w1=wx)
       case first =>
        by_cases h1:k=6
        ·have d1:(k == 6)=true:=by simpa using h1
         obtain ⟨i,rfl⟩:∃ i:Nat,coll=i:=⟨coll.toNat,by have:=E4.out; omega⟩
         have hi:i < n:=by have:=E4.out.1 (by omega); omega
         obtain ⟨x,hx⟩:∃ x,ks[i]?=some x:=⟨_,List.getElem?_eq_getElem (by rw [HL.out]; omega)⟩
         obtain ⟨ad,rfl,hlt,hcell⟩:=HC.out i (.int .i64 x) (by simp [hx])
         have hcell1:w1.cell? (ad.add i)=some (.int .i64 x):=((U1.out.below (Nat.le_refl _) (by simp)).cell (by rw [block_add]; exact hlt)).trans hcell
         have HCB:Hid (collB i (pColl k) (pOrd k) ks=(x == 3)):=Zh (by
          unfold collB pColl pOrd
          rw [h1,HL.out]
          simp [hx]; omega)
         have i1:(i:Int) < n:=by omega
         clear hx hlt hcell hi
         by_cases h3:x=3
         ·have d3:(x != 3)=false:=by simpa using h3
          have e:Hid (collB i (pColl k) (pOrd k) ks=!false):=Zh (by rw [HCB.out,h3]; rfl)
          clear h3 h1
          go_wp2_with fail
          go_meet
          exact ⟨_,rfl,e,rfl⟩
         ·have d3:(x != 3)=true:=by simpa using h3
          have e:Hid (collB i (pColl k) (pOrd k) ks=!true):=Zh (by rw [HCB.out]; simpa using h3)
          clear h3 h1
          go_wp2_with fail
          go_meet
          exact ⟨_,rfl,e,rfl⟩
        ·have d1:(k == 6)=false:=by simpa using h1
         by_cases h2:k=7
         ·have d2:(k == 7)=true:=by simpa using h2
          clear h1
          have h1:=h2
          clear h2
          obtain ⟨i,rfl⟩:∃ i:Nat,coll=i:=⟨coll.toNat,by have:=E4.out; omega⟩
          have hi:i < n:=by have:=E4.out.1 (by omega); omega
          obtain ⟨x,hx⟩:∃ x,ks[i]?=some x:=⟨_,List.getElem?_eq_getElem (by rw [HL.out]; omega)⟩
          obtain ⟨ad,rfl,hlt,hcell⟩:=HC.out i (.int .i64 x) (by simp [hx])
          have hcell1:w1.cell? (ad.add i)=some (.int .i64 x):=((U1.out.below (Nat.le_refl _) (by simp)).cell (by rw [block_add]; exact hlt)).trans hcell
          have HCB:Hid (collB i (pColl k) (pOrd k) ks=(x == 3)):=Zh (by
           unfold collB pColl pOrd
           rw [h1,HL.out]
           simp [hx]; omega)
          have i1:(i:Int) < n:=by omega
          clear hx hlt hcell hi
          by_cases h3:x=3
          ·have d3:(x != 3)=false:=by simpa using h3
           have e:Hid (collB i (pColl k) (pOrd k) ks=!false):=Zh (by rw [HCB.out,h3]; rfl)
           clear h3 h1
           go_wp2_with fail
           go_meet
           exact ⟨_,rfl,e,rfl⟩
          ·have d3:(x != 3)=true:=by simpa using h3
           have e:Hid (collB i (pColl k) (pOrd k) ks=!true):=Zh (by rw [HCB.out]; simpa using h3)
           clear h3 h1
           go_wp2_with fail
           go_meet
           exact ⟨_,rfl,e,rfl⟩
         ·have d2:(k == 7)=false:=by simpa using h2
          have e:Hid (collB coll (pColl k) (pOrd k) ks=!false):=Zh (by
           have h3:=E4.out
           have h4:=HK.out
           unfold collB pColl pOrd
           rw [HL.out,d1,d2]
           by_cases h5:k≤8
           ·rw [if_pos (by simp; omega)]; simp; omega
           ·rw [if_neg (by simp; omega)]; simp; omega)
          clear h1 h2
          go_wp2_with fail
          go_meet
          exact ⟨_,rfl,e,rfl⟩
       case rest =>
        obtain ⟨b,rfl,E5,rfl⟩:=hcut
        cases b with
        | true =>
          have HRV:Hid (rightV k coll reg ar an br bn nb ne ks=false):=Zh (by unfold rightV; rw [E5.out]; simp)
          go_wp2_with fail
          go_ret
          rw [HRV.out]
          exact ⟨rfl,U1.out⟩
        | false =>
          clear E4
          go_wp2_with fail
          refine (in_ok k _ 7 [1,4,5,6,7,9,10] _ (by exact Src.newAt (by rfl) 7 rfl) (by omega)).mono ?_
          rintro e w2 ⟨rfl,hw2⟩
          rw [in_reg]
          have U2:Hid (Upd [] w1 w2):=Zh (by rw [← hw2]; exact (Upd.refl _ _).alloc _)
          have X2:=Zh (X1.out.upd U2.out (by simp))
          have V2:=Zh (U1.out.trans U2.out)
          have x2:=X2.out.facts
          obtain ⟨rg,hrg⟩:∃ b,pReg k=b:=⟨_,rfl⟩
          rw [hrg]
          have HRG:=Zh hrg
          clear x1 hw2 hrg
          go_upto_region 9 with fail
          go_cut [74] from 55 to 74 (fun t wx => ∃ b,t=.bool b∧Hid (regB rg reg=!b)∧w2=wx)
          case first =>
           cases rg with
           | true =>
             by_cases h1:reg < 1
             ·have d1:decide (reg < 1)=true:=by simpa using h1
              have e:Hid (regB true reg=!true):=Zh (by unfold regB; simp; omega)
              clear h1
              go_wp2_with fail
              go_meet
              exact ⟨_,rfl,e,rfl⟩
             ·have d1:decide (reg < 1)=false:=by simpa using h1
              by_cases h2:8 < reg
              ·have d2:decide (8 < reg)=true:=by simpa using h2
               have e:Hid (regB true reg=!true):=Zh (by unfold regB; simp; omega)
               clear h1 h2
               go_wp2_with fail
               go_meet
               exact ⟨_,rfl,e,rfl⟩
              ·have d2:decide (8 < reg)=false:=by simpa using h2
               have e:Hid (regB true reg=!false):=Zh (by unfold regB; simp; omega)
               clear h1 h2
               go_wp2_with fail
               go_meet
               exact ⟨_,rfl,e,rfl⟩
           | false =>
             by_cases h1:reg=0
             ·have d1:(reg != 0)=false:=by simpa using h1
              have e:Hid (regB false reg=!false):=Zh (by unfold regB; rw [h1]; rfl)
              clear h1
              go_wp2_with fail
              go_meet
              exact ⟨_,rfl,e,rfl⟩
             ·have d1:(reg != 0)=true:=by simpa using h1
              have e:Hid (regB false reg=!true):=Zh (by unfold regB; simpa using fun _ => h1)
              clear h1
              go_wp2_with fail
              go_meet
              exact ⟨_,rfl,e,rfl⟩
          case rest =>
           obtain ⟨b,rfl,E6,rfl⟩:=hcut
           rw [← HRG.out] at E6
           cases b with
           | true =>
             have HRV:Hid (rightV k coll reg ar an br bn nb ne ks=false):=Zh (by unfold rightV; rw [E6.out]; simp)
             go_wp2_with fail
             go_ret
             rw [HRV.out]
             exact ⟨rfl,V2.out⟩
           | false =>
             go_upto_region 11 with fail
             have CS:Hid (∀ W,Upd [] w2.drew W→(∀ i,W.cell? ⟨sb,i,none⟩=(#[.int .i64 k,.int .i64 coll,.int .i64 reg,.int .i64 ar,.int .i64 an,.int .i64 br,.int .i64 bn,.slice Ab nb cb,.slice Ae ne ce]:Array Value)[i]?)):=Zh (fun W hW => (X2.out.upd ((Upd.refl [] w2).drew.trans hW) (by simp)).cell)
             go_cut [90] from 75 to 90 (fun t wx => ∃ b,t=.bool b∧Hid ((argB ar an (pA k) && argB br bn (pB k))=!b)∧Hid (Upd [] w2 wx))
             case first =>
              obtain ⟨av,hav⟩:∃ y,argB ar an (pA k)=y:=⟨_,rfl⟩
              obtain ⟨bv,hbv⟩:∃ y,argB br bn (pB k)=y:=⟨_,rfl⟩
              have HAV:=Zh (And.intro hav hbv)
              clear hav hbv
              cases av with
              | false =>
                refine wp_invN [(3,.src 1 10 [.int .i64 1,.int .i64 2,.int .i64 3,.int .i64 4,.int .i64 6,.int .i64 7,.int .i64 9,.int .i64 10,.int .i64 11,.int .i64 12]),(4,.det (.bool (pA k))),(5,.det (.bool false))] [] (by kernel_rfl) (by kernel_rfl) (by kernel_rfl) ⟨lasts_src _ _ _,lasts_det _,lasts_det _,trivial⟩ ?_
                iterate 3 (
                 with_reducible apply wpV_light
                 ·simp only [lightOp]
                 ·intro W hU hF
                  have f0:=CS.out W hU
                  clear hU hF
                  go_simp
                  exact rfl
                 simp only [aP])
                refine wpV_heavy (by simp only [lightOp]) (by rfl) (fun W hU hk hF K hK => ?_) ?_
                ·go_wp2_with fail
                 refine hK.out _ _ (outV_new rfl ?_ ?_ ((Upd.refl _ _).alloc _))
                 ·exact Src.newAt rfl 10 rfl
                 ·intro b hb
                  simp [mkI,specOf,Spec.src,Value.ownBlock] at hb
                  subst hb; simp
                rintro _ ⟨A10,c10,rfl⟩
                simp only [aP]
                skip
                refine wpV_heavy (by simp only [lightOp]) (by rfl) (fun W hU hk hF K hK => ?_) ?_
                ·go_wp2_with fail
                 have g:=hF.out
                 refine (in_ok k _ 10 [1,2,3,4,6,7,9,10,11,12] _ (by exact g.1 (by kernel_rfl)) (by omega)).mono ?_
                 rintro e w2 ⟨rfl,rfl⟩
                 rw [in_a]
                 go_wp2_with fail
                 exact hK.out _ _ (outV_new rfl rfl (by intro b hb; cases hb) (.refl _ _))
                rintro _ rfl
                simp only [aP]
                refine wpV_heavy (by simp only [lightOp]) (by rfl) (fun W hU hk hF K hK => ?_) ?_
                ·go_wp2_with fail
                 refine (rarg_ok ar an (pA k) _).mono ?_
                 rintro e w2 ⟨rfl,u2⟩
                 rw [HAV.out.1]
                 go_wp2_with fail
                 exact hK.out _ _ (outV_new rfl rfl (by intro b hb; cases hb) u2)
                rintro _ rfl
                simp only [aP]
                iterate 2 (
                 with_reducible apply wpV_light
                 ·simp only [lightOp]
                 ·intro W hU hF
                  have f0:=CS.out W hU
                  clear hU hF
                  go_simp
                  exact rfl
                 simp only [aP])
                iterate 3 (
                 refine wpV_skip (by rfl) (by simp only [lightOp]) ?_
                 simp only [aP])
                iterate 3 (
                 refine wpV_heavySkip (by simp only [lightOp]) (by rfl) (fun W hU hk => outV_new rfl trivial (by intro b hb; cases hb) (.refl _ _)) ?_
                 rintro _ trivial
                 simp only [aP])
                refine wpV_skip (by rfl) (by simp only [lightOp]) ?_
                simp only [aP]
                with_reducible apply wpV_light
                ·simp only [lightOp]
                ·intro W hU hF
                 have f0:=CS.out W hU
                 clear hU hF
                 go_simp
                 exact rfl
                simp only [aP]
                refine wpV_end (fun W hU _ _ => ?_)
                refine wpT_end ?_
                have U3:Hid (Upd [] w2 W):=Zh ((Upd.refl [] w2).drew.trans hU)
                clear hU
                go_wp2_with fail
                go_meet
                exact ⟨_,rfl,Zh (by rw [HAV.out.1,HAV.out.2]; simp),U3⟩
              | true =>
                refine wp_invN [(3,.src 1 10 [.int .i64 1,.int .i64 2,.int .i64 3,.int .i64 4,.int .i64 6,.int .i64 7,.int .i64 9,.int .i64 10,.int .i64 11,.int .i64 12]),(4,.det (.bool (pA k))),(5,.det (.bool true)),(11,.src 1 4 [.int .i64 2,.int .i64 7,.int .i64 10,.int .i64 11]),(12,.det (.bool (pB k))),(13,.det (.bool bv))] [] (by kernel_rfl) (by kernel_rfl) (by kernel_rfl) ⟨lasts_src _ _ _,lasts_det _,lasts_det _,lasts_src _ _ _,lasts_det _,lasts_det _,trivial⟩ ?_
                iterate 3 (
                 with_reducible apply wpV_light
                 ·simp only [lightOp]
                 ·intro W hU hF
                  have f0:=CS.out W hU
                  clear hU hF
                  go_simp
                  exact rfl
                 simp only [aP])
                refine wpV_heavy (by simp only [lightOp]) (by rfl) (fun W hU hk hF K hK => ?_) ?_
                ·go_wp2_with fail
                 refine hK.out _ _ (outV_new rfl ?_ ?_ ((Upd.refl _ _).alloc _))
                 ·exact Src.newAt rfl 10 rfl
                 ·intro b hb
                  simp [mkI,specOf,Spec.src,Value.ownBlock] at hb
                  subst hb; simp
                rintro _ ⟨A10,c10,rfl⟩
                simp only [aP]
                skip
                refine wpV_heavy (by simp only [lightOp]) (by rfl) (fun W hU hk hF K hK => ?_) ?_
                ·go_wp2_with fail
                 have g:=hF.out
                 refine (in_ok k _ 10 [1,2,3,4,6,7,9,10,11,12] _ (by exact g.1 (by kernel_rfl)) (by omega)).mono ?_
                 rintro e w2 ⟨rfl,rfl⟩
                 rw [in_a]
                 go_wp2_with fail
                 exact hK.out _ _ (outV_new rfl rfl (by intro b hb; cases hb) (.refl _ _))
                rintro _ rfl
                simp only [aP]
                refine wpV_heavy (by simp only [lightOp]) (by rfl) (fun W hU hk hF K hK => ?_) ?_
                ·go_wp2_with fail
                 refine (rarg_ok ar an (pA k) _).mono ?_
                 rintro e w2 ⟨rfl,u2⟩
                 rw [HAV.out.1]
                 go_wp2_with fail
                 exact hK.out _ _ (outV_new rfl rfl (by intro b hb; cases hb) u2)
                rintro _ rfl
                simp only [aP]
                iterate 5 (
                 with_reducible apply wpV_light
                 ·simp only [lightOp]
                 ·intro W hU hF
                  have f0:=CS.out W hU
                  clear hU hF
                  go_simp
                  exact rfl
                 simp only [aP])
                refine wpV_heavy (by simp only [lightOp]) (by rfl) (fun W hU hk hF K hK => ?_) ?_
                ·go_wp2_with fail
                 refine hK.out _ _ (outV_new rfl ?_ ?_ ((Upd.refl _ _).alloc _))
                 ·exact Src.newAt rfl 4 rfl
                 ·intro b hb
                  simp [mkI,specOf,Spec.src,Value.ownBlock] at hb
                  subst hb; simp
                rintro _ ⟨A4,c4,rfl⟩
                simp only [aP]
                skip
                refine wpV_heavy (by simp only [lightOp]) (by rfl) (fun W hU hk hF K hK => ?_) ?_
                ·go_wp2_with fail
                 have g:=hF.out
                 refine (in_ok k _ 4 [2,7,10,11] _ (by exact g.2.2.2.1 (by kernel_rfl)) (by omega)).mono ?_
                 rintro e w2 ⟨rfl,rfl⟩
                 rw [in_b]
                 go_wp2_with fail
                 exact hK.out _ _ (outV_new rfl rfl (by intro b hb; cases hb) (.refl _ _))
                rintro _ rfl
                simp only [aP]
                refine wpV_heavy (by simp only [lightOp]) (by rfl) (fun W hU hk hF K hK => ?_) ?_
                ·go_wp2_with fail
                 refine (rarg_ok br bn (pB k) _).mono ?_
                 rintro e w2 ⟨rfl,u2⟩
                 rw [HAV.out.2]
                 go_wp2_with fail
                 exact hK.out _ _ (outV_new rfl rfl (by intro b hb; cases hb) u2)
                rintro _ rfl
                simp only [aP]
                iterate 2 (
                 with_reducible apply wpV_light
                 ·simp only [lightOp]
                 ·intro W hU hF
                  have f0:=CS.out W hU
                  clear hU hF
                  go_simp
                  exact rfl
                 simp only [aP])
                refine wpV_end (fun W hU _ _ => ?_)
                refine wpT_end ?_
                have U3:Hid (Upd [] w2 W):=Zh ((Upd.refl [] w2).drew.trans hU)
                clear hU
                go_wp2_with fail
                go_meet
                exact ⟨_,rfl,Zh (by rw [HAV.out.1,HAV.out.2]; simp),U3⟩
             case rest =>
              rename World => w3
              obtain ⟨b,rfl,E7,U3⟩:=hcut
              have V3:=Zh (V2.out.trans U3.out)
              have x3:=(X2.out.upd U3.out (by simp)).facts
              clear x2
              cases b with
              | true =>
                have HRV:Hid (rightV k coll reg ar an br bn nb ne ks=false):=Zh (by
                 have:=E7.out
                 unfold rightV
                 cases h1:argB ar an (pA k) with
                 | false => simp
                 | true => rw [h1] at this; rw [show argB br bn (pB k)=false by simpa using this]; simp)
                go_wp2_with fail
                go_ret
                rw [HRV.out]
                exact ⟨rfl,V3.out⟩
              | false =>
                go_upto_region 13 with fail
                go_cut [110] from 91 to 110 (fun t wx => ∃ b,t=.bool b∧Hid (loopB k ar an=!b)∧w3=wx)
                case first =>
                 by_cases h1:k=12
                 ·have d1:(k == 12)=true:=by simpa using h1
                  by_cases h2:ar=0
                  ·have d2:(ar != 0)=false:=by simpa using h2
                   by_cases h3:an < 0
                   ·have d3:decide (an < 0)=true:=by simpa using h3
                    have e:Hid (loopB k ar an=!true):=Zh (by unfold loopB; rw [d1,d3]; simp)
                    clear h1 h2 h3
                    go_wp2_with fail
                    go_meet
                    exact ⟨_,rfl,e,rfl⟩
                   ·have d3:decide (an < 0)=false:=by simpa using h3
                    by_cases h4:5 < an
                    ·have d4:decide (5 < an)=true:=by simpa using h4
                     have e:Hid (loopB k ar an=!true):=Zh (by unfold loopB; rw [d1,d4]; simp)
                     clear h1 h2 h3 h4
                     go_wp2_with fail
                     go_meet
                     exact ⟨_,rfl,e,rfl⟩
                    ·have d4:decide (5 < an)=false:=by simpa using h4
                     have e:Hid (loopB k ar an=!false):=Zh (by unfold loopB; rw [d1,d3,d4,h2]; rfl)
                     clear h1 h2 h3 h4
                     go_wp2_with fail
                     go_meet
                     exact ⟨_,rfl,e,rfl⟩
                  ·have d2:(ar != 0)=true:=by simpa using h2
                   have e:Hid (loopB k ar an=!true):=Zh (by unfold loopB; rw [d1,show (ar == 0)=false by simpa using h2]; simp)
                   clear h1 h2
                   go_wp2_with fail
                   go_meet
                   exact ⟨_,rfl,e,rfl⟩
                 ·have d1:(k == 12)=false:=by simpa using h1
                  have e:Hid (loopB k ar an=!false):=Zh (by unfold loopB; rw [d1]; rfl)
                  clear h1
                  go_wp2_with fail
                  go_meet
                  exact ⟨_,rfl,e,rfl⟩
                case rest =>
                 obtain ⟨b,rfl,E8,rfl⟩:=hcut
                 cases b with
                 | true =>
                   have HRV:Hid (rightV k coll reg ar an br bn nb ne ks=false):=Zh (by unfold rightV; rw [E8.out]; simp)
                   go_wp2_with fail
                   go_ret
                   rw [HRV.out]
                   exact ⟨rfl,V3.out⟩
                 | false =>
                   have HRV:Hid (rightV k coll reg ar an br bn nb ne ks=bodyB (pBody k) (pElse k) nb ne):=Zh (by
                    have h:=E7.out
                    simp only [Bool.not_false,Bool.and_eq_true] at h
                    unfold rightV
                    rw [E1.out,E5.out,E6.out,E8.out,h.1,h.2]
                    rfl)
                   by_cases h1:nb=0
                   ·have d1:((nb:Int) == 0)=true:=by simpa using h1
                    have BD:Hid ((pBody k || nb == 0)=true):=Zh (by rw [h1]; simp)
                    by_cases g1:ne=0
                    ·have f1:((ne:Int) == 0)=true:=by simpa using g1
                     have e:Hid (bodyB (pBody k) (pElse k) nb ne=true):=Zh (by unfold bodyB; rw [BD.out,show (ne == 0)=true by simpa using g1]; simp)
                     clear g1 h1 
                     go_wp2_with fail
                     go_ret
                     rw [HRV.out,e.out]
                     exact ⟨rfl,V3.out⟩
                    ·have f1:((ne:Int) == 0)=false:=by simpa using g1
                     by_cases g2:k=11
                     ·have f2:(k == 11)=true:=by simpa using g2
                      have e:Hid (bodyB (pBody k) (pElse k) nb ne=true):=Zh (by unfold bodyB pElse; rw [BD.out,f2]; simp)
                      clear g1 g2 h1 
                      go_wp2_with fail
                      go_ret
                      rw [HRV.out,e.out]
                      exact ⟨rfl,V3.out⟩
                     ·have f2:(k == 11)=false:=by simpa using g2
                      by_cases g3:k=14
                      ·have f3:(k == 14)=true:=by simpa using g3
                       have e:Hid (bodyB (pBody k) (pElse k) nb ne=true):=Zh (by unfold bodyB pElse; rw [BD.out,f3]; simp)
                       clear g1 g2 g3 h1 
                       go_wp2_with fail
                       go_ret
                       rw [HRV.out,e.out]
                       exact ⟨rfl,V3.out⟩
                      ·have f3:(k == 14)=false:=by simpa using g3
                       have e:Hid (bodyB (pBody k) (pElse k) nb ne=false):=Zh (by unfold bodyB pElse; rw [f2,f3,show (ne == 0)=false by simpa using g1]; simp)
                       clear g1 g2 g3 h1 
                       go_wp2_with fail
                       go_ret
                       rw [HRV.out,e.out]
                       exact ⟨rfl,V3.out⟩
                   ·have d1:((nb:Int) == 0)=false:=by simpa using h1
                    by_cases h2:11≤k
                    ·have d2:decide (11≤k)=true:=by simpa using h2
                     by_cases h3:k≤14
                     ·have d3:decide (k≤14)=true:=by simpa using h3
                      have BD:Hid ((pBody k || nb == 0)=true):=Zh (by unfold pBody; rw [d2,d3]; rfl)
                      by_cases g1:ne=0
                      ·have f1:((ne:Int) == 0)=true:=by simpa using g1
                       have e:Hid (bodyB (pBody k) (pElse k) nb ne=true):=Zh (by unfold bodyB; rw [BD.out,show (ne == 0)=true by simpa using g1]; simp)
                       clear g1 h1 h2 h3
                       go_wp2_with fail
                       go_ret
                       rw [HRV.out,e.out]
                       exact ⟨rfl,V3.out⟩
                      ·have f1:((ne:Int) == 0)=false:=by simpa using g1
                       by_cases g2:k=11
                       ·have f2:(k == 11)=true:=by simpa using g2
                        have e:Hid (bodyB (pBody k) (pElse k) nb ne=true):=Zh (by unfold bodyB pElse; rw [BD.out,f2]; simp)
                        clear g1 g2 h1 h2 h3
                        go_wp2_with fail
                        go_ret
                        rw [HRV.out,e.out]
                        exact ⟨rfl,V3.out⟩
                       ·have f2:(k == 11)=false:=by simpa using g2
                        by_cases g3:k=14
                        ·have f3:(k == 14)=true:=by simpa using g3
                         have e:Hid (bodyB (pBody k) (pElse k) nb ne=true):=Zh (by unfold bodyB pElse; rw [BD.out,f3]; simp)
                         clear g1 g2 g3 h1 h2 h3
                         go_wp2_with fail
                         go_ret
                         rw [HRV.out,e.out]
                         exact ⟨rfl,V3.out⟩
                        ·have f3:(k == 14)=false:=by simpa using g3
                         have e:Hid (bodyB (pBody k) (pElse k) nb ne=false):=Zh (by unfold bodyB pElse; rw [f2,f3,show (ne == 0)=false by simpa using g1]; simp)
                         clear g1 g2 g3 h1 h2 h3
                         go_wp2_with fail
                         go_ret
                         rw [HRV.out,e.out]
                         exact ⟨rfl,V3.out⟩
                     ·have d3:decide (k≤14)=false:=by simpa using h3
                      have e:Hid (bodyB (pBody k) (pElse k) nb ne=false):=Zh (by unfold bodyB pBody; rw [d2,d3,show (nb == 0)=false by simpa using h1]; simp)
                      clear h1 h2 h3
                      go_wp2_with fail
                      go_ret
                      rw [HRV.out,e.out]
                      exact ⟨rfl,V3.out⟩
                    ·have d2:decide (11≤k)=false:=by simpa using h2
                     have e:Hid (bodyB (pBody k) (pElse k) nb ne=false):=Zh (by unfold bodyB pBody; rw [d2,show (nb == 0)=false by simpa using h1]; simp)
                     clear h1 h2
                     go_wp2_with fail
                     go_ret
                     rw [HRV.out,e.out]
                     exact ⟨rfl,V3.out⟩
end Go.Proofs.YtmjnmpifibemjaaGreatDoor.Old
namespace Go.Proofs.YtmjnmpifibemjaaGreatDoor.Old
open Go.RowKit
def refR (ks:List Int):List (Stm × Nat)→Nat→Int × Int
 | [],_ => (0,0)
 | (x,d) :: l,i => if 100≤i then (8,(i:Int) + 1) else if 8 < d then (10,(i:Int) + 1) else if !rightS ks x then (9,(i:Int) + 1) else refR ks l (i + 1)
theorem refR_walk (ks:List Int):∀ (l:List (Stm × Nat)) (i:Nat),(walkF (stepR ks) l (0,0) i).2.1=refR ks l i
 | [],i => rfl
 | (x,d) :: l,i => by
   unfold walkF refR
   by_cases h1:100≤i
   ·rw [if_pos h1]
    have:stepR ks (0,0) (i + 1) d x=(false,(8,((i + 1:Nat):Int))):=by unfold stepR; rw [if_pos (by omega)]; rfl
    rw [this]
    simp
   ·rw [if_neg h1]
    by_cases h2:8 < d
    ·rw [if_pos h2]
     have:stepR ks (0,0) (i + 1) d x=(false,(10,((i + 1:Nat):Int))):=by unfold stepR; rw [if_neg (by omega),if_pos h2]; rfl
     rw [this]
     simp
    ·rw [if_neg h2]
     cases h3:rightS ks x with
     | false =>
       have:stepR ks (0,0) (i + 1) d x=(false,(9,((i + 1:Nat):Int))):=by unfold stepR; rw [if_neg (by omega),if_neg h2,h3]; rfl
       rw [this]
       simp
     | true =>
       have:stepR ks (0,0) (i + 1) d x=(true,(0,0)):=by unfold stepR; rw [if_neg (by omega),if_neg h2,h3]; rfl
       rw [this]
       simp only [Bool.not_true,Bool.false_eq_true,if_false]
       exact refR_walk ks l (i + 1)
theorem refR_drop {ks:List Int} {L:List (Stm × Nat)} {i:Nat} {x:Stm} {d:Nat} (h:L[i]?=some (x,d)) :
 refR ks (L.drop i) i=if 100≤i then (8,(i:Int) + 1) else if 8 < d then (10,(i:Int) + 1) else if !rightS ks x then (9,(i:Int) + 1) else refR ks (L.drop (i + 1)) (i + 1):=by
 obtain ⟨hl,he⟩:=List.getElem?_eq_some_iff.1 h
 rw [List.drop_eq_getElem_cons hl,he]
 rfl
structure LineAt (W:World) (B:Nat) (v:Value) (L:List (Stm × Nat)):Prop where
 slice:∃ A c,v=.slice A L.length c∧L.length≤c∧c≤9223372036854775807∧∀ i k coll reg ar an br bn bo el d,L[i]?=some (.mk k coll reg ar an br bn bo el,d)→∃ ad vb ve,A=some ad∧ad.block < W.heap.size∧Stms W B vb bo∧Stms W B ve el ∧
  W.cell? (ad.add (i * 10))=some (.int .i64 k)∧∀ j u,(stmCells k coll reg ar an br bn vb ve ++ [.int .i64 d])[j + 1]?=some u→W.cell? ⟨(ad.add (i * 10)).block,(ad.add (i * 10)).off + (j + 1),none⟩=some u
theorem lineAt_of {W:World} {B B':Nat} {v:Value} {n:Nat} {L:List (Stm × Nat)} {xs:List Value} (hn:n=L.length) (ho:W.ownsRow B' 113 10 v n xs) (hr:LinesR W B L xs):LineAt W B v L:=by
 subst hn
 obtain ⟨A,c,rfl,h1,h2⟩:=own_slice ho
 obtain ⟨_,A',c',he,hs⟩:=Src.of_own ho
 injection he with he _ _
 subst he
 refine ⟨A,c,rfl,h1,by simpa [maxLen] using h2,fun i k coll reg ar an br bn bo el d h => ?_⟩
 obtain ⟨vb,ve,g1,g2,g3⟩:=hr.get h
 obtain ⟨ad,rfl,hl,c0⟩:=hs (i * 10) _ (g3 0 _ rfl)
 refine ⟨ad,vb,ve,rfl,hl,g1,g2,c0,fun j u hu => ?_⟩
 obtain ⟨ad',e,_,cj⟩:=hs (i * 10 + (j + 1)) u (g3 (j + 1) u hu)
 cases e
 rw [← add_more]
 exact cj
theorem LineAt.keep {W W':World} {B:Nat} {v:Value} {L:List (Stm × Nat)} (h:LineAt W B v L) (hB:B≤W.heap.size) (hu:Upd [] W W'):LineAt W' B v L:=by
 obtain ⟨A,c,e,h1,h2,hh⟩:=h.slice
 have hb:Below W.heap.size W W':=hu.below (Nat.le_refl _) (by simp)
 have hbB:Below B W W':=hu.below hB (by simp)
 refine ⟨A,c,e,h1,h2,fun i k coll reg ar an br bn bo el d h => ?_⟩
 obtain ⟨ad,vb,ve,e,hl,g1,g2,c0,cj⟩:=hh i k coll reg ar an br bn bo el d h
 exact ⟨ad,vb,ve,e,Nat.lt_of_lt_of_le hl hu.size,g1.belowW hbB,g2.belowW hbB,(hb.cell (by rw [block_add]; exact hl)).trans c0,fun j u hu' => (hb.cell (p:=⟨_,_,none⟩) (by rw [block_add]; exact hl)).trans (cj j u hu')⟩
theorem lines_all (l:List Stm) (v:Value) (w:World) (hv:Stms w w.heap.size v l) (hl:sizes l≤900000) :
 Calls Tryz.prog 46 #[.slice none 0 0,v,.int .i64 1] w fun e w' => ∃ v',e=.returned v'∧LineAt w' w.heap.size v' (linesOf 1 l)∧Upd [] w w':=by
 have hc:=lines_ok (Nat.le_refl w.heap.size) (sizes l + 1) l v (.slice none 0 0) w 1 0 [] (by omega) hv (own_nil _ _ _ _) (Nat.le_refl _) (by omega) (by omega)
 refine hc.mono ?_
 rintro e w' ⟨v',ys,rfl,h1,h2,h3,_⟩
 exact ⟨v',rfl,lineAt_of (by omega) h1 (by simpa using h2),by simpa [Value.ownBlock] using h3⟩
theorem ref_right_ok (l:List Stm) (v:Value) (A:Option Addr) (n c:Nat) (ks:List Int) (w:World) (hv:Stms w w.heap.size v l) (hk:Src w 1 (.slice A n c) n (ks.map (Value.int .i64))) (hn:n≤1000000) (hl:sizes l≤900000) :
 Calls Tryz.prog 20 #[v,.slice A n c] w fun e w' => e=.returned (.tuple #[.int .i64 (rightR ks l).1,.int .i64 (rightR ks l).2])∧Upd [] w w':=by
 have HV:=Zh hv
 have HK:=Zh hk
 have HR:Hid (rightR ks l=refR ks ((linesOf 1 l).drop 0) 0):=Zh (refR_walk ks _ _)
 have HLN:=Zh (lines_sizes _ l 1 (Nat.le_refl _))
 clear hv hk
 go_enter Tryz.func20,Tryz.ntmps20
 go_wp2_with fail
 refine (lines_all l v w HV.out hl).mono ?_; rintro e w1 ⟨v1,rfl,hla,u1⟩
 have HLA:=Zh hla
 have U1:=Zh u1
 obtain ⟨A1,c1,rfl,hc1,hc2,_⟩:=hla.slice
 obtain ⟨L,hL⟩:∃ L,linesOf 1 l=L:=⟨_,rfl⟩
 rw [hL] at HLA HLN HR hc1
 rw [hL]
 have hln:L.length≤900000:=by rw [HLN.out]; exact hl
 clear hla u1 hL
 obtain ⟨m,hm⟩:∃ m,L.length=m:=⟨_,rfl⟩
 rw [hm] at HLA hc1 hln ⊢
 have HM:=Zh hm
 clear hm HLN
 go_wp2_with fail
 go_loopw [7] (fun i wr => ∃ (k:Nat),i=.int .i64 k∧k≤m∧Hid (rightR ks l=refR ks (L.drop k) k)∧Hid (Upd [] w1 wr)) (fun i _ => m - (intOf i).toNat)
 case atStart => exact ⟨0,rfl,by omega,HR,Zh (.refl _ _)⟩
 case round =>
  obtain ⟨k,rfl,hk,KR,KU⟩:=hrel
  by_cases hkm:k < m
  ·obtain ⟨⟨x,d⟩,hx⟩:∃ x,L[k]?=some x:=⟨_,List.getElem?_eq_getElem (by rw [HM.out]; exact hkm)⟩
   obtain ⟨a1,a2,a3,a4,a5,a6,a7,bo,el⟩:=x
   obtain ⟨A2,c2,e2,_,_,hh⟩:=(HLA.out.keep U1.out.size KU.out).slice
   injection e2 with e2 e4 e3
   clear e4
   subst e2 e3
   obtain ⟨ad,vb,ve,rfl,hlt,hsb,hse,c0,cj⟩:=hh k a1 a2 a3 a4 a5 a6 a7 bo el d hx
   have HX:=Zh (KR.out.trans (refR_drop hx))
   obtain ⟨Ab,nb,cb,rfl⟩:=hsb.slice
   obtain ⟨Ae,ne,ce,rfl⟩:=hse.slice
   obtain ⟨hlb,hlb2⟩:=hsb.len
   obtain ⟨hle,hle2⟩:=hse.len
   subst hlb hle
   have c1:=cj 0 _ rfl
   have c2:=cj 1 _ rfl
   have c3:=cj 2 _ rfl
   have c4:=cj 3 _ rfl
   have c5:=cj 4 _ rfl
   have c6:=cj 5 _ rfl
   have c7:=cj 6 _ rfl
   have c8:=cj 7 _ rfl
   have c9:=cj 8 _ rfl
   have HK1:Hid (Src wr 1 (.slice A n c) n (ks.map (Value.int .i64))):=Zh ((HK.out.upd0 U1.out).upd0 KU.out)
   clear cj hsb hse hx hh
   by_cases h1:100≤k
   ·have h1':decide ((100:Int)≤k)=true:=by simp; omega
    have HZ:Hid (rightR ks l=(8,(k:Int) + 1)):=Zh (by rw [HX.out,if_pos h1])
    go_wp2_with fail
    go_ret2
    rw [HZ.out]
    exact ⟨rfl,U1.out.trans KU.out⟩
   ·have h1':decide ((100:Int)≤k)=false:=by simp; omega
    by_cases h2:8 < d
    ·have h2':decide ((8:Int) < d)=true:=by simp; omega
     have HZ:Hid (rightR ks l=(10,(k:Int) + 1)):=Zh (by rw [HX.out,if_neg h1,if_pos h2])
     go_wp2_with fail
     go_ret2
     rw [HZ.out]
     exact ⟨rfl,U1.out.trans KU.out⟩
    ·have h2':decide ((8:Int) < d)=false:=by simp; omega
     have HZ:Hid (rightR ks l=if !rightV a1 a2 a3 a4 a5 a6 a7 bo.length el.length ks then (9,(k:Int) + 1) else refR ks (L.drop (k + 1)) (k + 1)):=Zh (by rw [HX.out,if_neg h1,if_neg h2]; rfl)
     obtain ⟨b,hb⟩:∃ b,rightV a1 a2 a3 a4 a5 a6 a7 bo.length el.length ks=b:=⟨_,rfl⟩
     have HBV:=Zh hb
     rw [hb] at HZ
     clear hb
     go_wp2_with fail
     refine (one_ok a1 a2 a3 a4 a5 a6 a7 Ab Ae bo.length cb el.length ce A n c ks wr hn hlb2 hle2 HK1.out).mono ?_; rintro e w3 ⟨rfl,u3⟩
     rw [HBV.out]
     have U3:=Zh (KU.out.trans u3)
     clear u3
     cases b with
     | false =>
       go_wp2_with fail
       go_ret2
       rw [HZ.out]
       exact ⟨rfl,U1.out.trans U3.out⟩
     | true =>
       go_wp2_with fail
       go_roundw
       case rel => exact ⟨k + 1,by go_num,by omega,Zh (by rw [HZ.out]; rfl),U3⟩
       case measure => simp [intOf]; omega
  ·obtain rfl:m=k:=by omega
   have HZ:Hid (rightR ks l=(0,0)):=Zh (by rw [KR.out,List.drop_eq_nil_of_le (by rw [HM.out]; exact Nat.le_refl _)]; rfl)
   go_wp2_with fail
   go_ret2
   rw [HZ.out]
   exact ⟨rfl,U1.out.trans KU.out⟩
end Go.Proofs.YtmjnmpifibemjaaGreatDoor.Old
namespace Go.Proofs.YtmjnmpifibemjaaGreatDoor
open Go.RowKit St Jd Ev
attribute [local go_sem] litStep_value
def FitPost (p:Pn) (w:World) (e:Ending) (w':World):Prop:=∃ e1 a1:Int,e=.returned (.tuple #[.int .i64 e1,.int .i64 a1])∧(e1=0→FitP p)∧Upd [] w w'
def CntP (p:Pn):Prop:=p.ks.length≤9223372036854775807∧p.ths.length≤9223372036854775807∧∀ t ∈ p.ths,t.length≤9223372036854775807
theorem fit_ok (p:Pn) (kv tv:Value) (w:World) (h:PlanV w p kv tv) (hz:SzP p) (hb:CntP p) :
 Calls Tryz.prog 18 #[planC p kv tv] w (FitPost p w):=by
 obtain ⟨Ak,ck,hkv⟩:∃ A c,kv=.slice A p.ks.length c:=by obtain ⟨_,A,c,e,_⟩:=h.ks; exact ⟨A,c,e⟩
 obtain ⟨At,ct,htv⟩:∃ A c,tv=.slice A p.ths.length c:=by obtain ⟨vs,⟨_,A,c,e,_⟩,_⟩:=h.ths; exact ⟨A,c,e⟩
 obtain ⟨nk,hnk⟩:∃ k,k=p.ks.length:=⟨_,rfl⟩
 obtain ⟨nt,hnt⟩:∃ k,k=p.ths.length:=⟨_,rfl⟩
 rw [← hnk] at hkv
 rw [← hnt] at htv
 subst hkv htv
 have HN:Hid (nk=p.ks.length∧nt=p.ths.length):=Zh ⟨hnk,hnt⟩
 have HP:=Zh h
 have HZ:=Zh hz
 have HB:=Zh hb
 have hk63:(nk:Int)≤9223372036854775807:=by have:=hb.1; omega
 have ht63:(nt:Int)≤9223372036854775807:=by have:=hb.2.1; omega
 obtain ⟨wo,hwo⟩:∃ x,x=p.words:=⟨_,rfl⟩
 obtain ⟨pa,hpa⟩:∃ x,x=p.pat:=⟨_,rfl⟩
 unfold planC
 rw [← hwo,← hpa]
 clear h hz hb hnk hnt hwo hpa
 go_enter Tryz.func18,Tryz.ntmps18
 obtain ⟨w1,hw1⟩:∃ w1,w1=w.alloc (.cells #[.int .i64 wo,.int .i64 pa,.slice Ak nk ck,.slice At nt ct] 25):=⟨_,rfl⟩
 have U1:Hid (Upd [] w w1):=Zh (by rw [hw1]; exact (Upd.refl _ _).alloc _)
 have X1:Hid (Blk w1 w.heap.size 25 #[.int .i64 wo,.int .i64 pa,.slice Ak nk ck,.slice At nt ct]):=Zh (by rw [hw1]; exact Blk.new _ _ _)
 by_cases b1:wo < 64
 ·go_wp2_with fail
  go_ret2
  exact ⟨_,_,rfl,by omega,by rw [← hw1]; exact U1.out⟩
 by_cases b2:16384 < wo
 ·go_wp2_with fail
  go_ret2
  exact ⟨_,_,rfl,by omega,by rw [← hw1]; exact U1.out⟩
 by_cases b3:pa < 0
 ·go_wp2_with fail
  go_ret2
  exact ⟨_,_,rfl,by omega,by rw [← hw1]; exact U1.out⟩
 by_cases b4:1000000 < pa
 ·go_wp2_with fail
  go_ret2
  exact ⟨_,_,rfl,by omega,by rw [← hw1]; exact U1.out⟩
 by_cases c1:8 < nk
 ·have c1':(8:Int) < nk:=by omega
  go_wp2_with fail
  go_ret2
  exact ⟨_,_,rfl,by omega,by rw [← hw1]; exact U1.out⟩
 have c1':¬ (8:Int) < nk:=by omega
 by_cases c2:6 < nt
 ·have c2':(6:Int) < nt:=by omega
  go_wp2_with fail
  go_ret2
  exact ⟨_,_,rfl,by omega,by rw [← hw1]; exact U1.out⟩
 have c2':¬ (6:Int) < nt:=by omega
 have HC:Hid (nk≤8∧nt≤6):=Zh (by omega)
 clear c1 c2
 go_wp2_with fail
 rw [← hw1]
 clear hw1
 go_loopw [4] (fun u4 wr => ∃ i:Nat,u4=.int .i64 i∧i≤nk∧Hid (Upd [] w1 wr∧∀ j,j < i→1≤p.ks.getD j 0∧p.ks.getD j 0≤3)) (fun u _ => nk - (intOf u).toNat)
 case atStart => exact ⟨0,rfl,by omega,Zh ⟨.refl _ _,fun j hj => by omega⟩⟩
 case round =>
  obtain ⟨i,rfl,hi,KX⟩:=hrel
  rename World => wr
  have b0:=(X1.out.upd KX.out.1 (by simp)).facts
  by_cases hlt:i < nk
  ·have hii:(i:Int) < nk:=by omega
   obtain ⟨k0,hk0⟩:∃ k0,p.ks[i]?=some k0:=⟨_,List.getElem?_eq_getElem (by rw [← HN.out.1]; exact hlt)⟩
   have hcell:∃ ad,Ak=some ad∧ad.block < wr.heap.size∧wr.cell? (ad.add i)=some (.int .i64 k0):=by
    obtain ⟨_,A',n',e,h⟩:=HP.out.ks.upd0 (U1.out.trans KX.out.1)
    injection e with e
    subst e
    exact h i _ (by rw [List.getElem?_map,hk0]; rfl)
   obtain ⟨ad,hA,had,hcell⟩:=hcell
   have HK:Hid (p.ks.getD i 0=k0∧i < nk):=Zh ⟨by rw [List.getD_eq_getElem?_getD,hk0]; rfl,hlt⟩
   clear hi hlt hk0
   subst hA
   by_cases d1:k0 < 1
   ·go_wp2_with fail
    go_ret2
    exact ⟨_,_,rfl,by omega,U1.out.trans KX.out.1⟩
   by_cases d2:3 < k0
   ·go_wp2_with fail
    go_ret2
    exact ⟨_,_,rfl,by omega,U1.out.trans KX.out.1⟩
   have X2:Hid (Upd [] w1 wr∧∀ j,j < i + 1→1≤p.ks.getD j 0∧p.ks.getD j 0≤3):=Zh ⟨KX.out.1,fun j hj => by
    by_cases e:j=i
    ·rw [e,HK.out.1]; omega
    ·exact KX.out.2 j (by omega)⟩
   go_wp2_with fail
   go_round
   case rel => exact ⟨i + 1,by simp,by have:=HK.out.2; omega,X2⟩
   case measure => have:=HK.out.2; simp [intOf]; omega
  ·have hii:¬ (i:Int) < nk:=by omega
   have HKS:Hid (∀ k ∈ p.ks,1≤k∧k≤3):=Zh (fun k hk => by
    obtain ⟨j,hj⟩:=List.getElem?_of_mem hk
    have hjl:=(List.getElem?_eq_some_iff.1 hj).1
    have:=KX.out.2 j (by have:=HN.out.1; omega)
    rw [List.getD_eq_getElem?_getD,hj] at this
    exact this)
   have UR:=Zh KX.out.1
   clear hi hlt KX b0
   have b0:=(X1.out.upd UR.out (by simp)).facts
   go_wp2_with fail
   clear b0
   go_loopw [5,6,7,8] (fun u5 u6 u7 u8 wr2 => ∃ i:Nat,u5=.int .i64 i∧i≤nt∧Hid (Upd [] wr wr2∧∀ j t,j < i→p.ths[j]?=some t→t.length≤20∧∀ l ∈ t,(rightR p.ks l).1=0)) (fun u _ _ _ _ => nt - (intOf u).toNat)
   case atStart => exact ⟨0,rfl,by omega,Zh ⟨.refl _ _,fun j t hj => by omega⟩⟩
   case round =>
    obtain ⟨i,rfl,hi,KX⟩:=hrel
    rename World => wr2
    have UX:Hid (Upd [] w1 wr2):=Zh (UR.out.trans KX.out.1)
    have b0:=(X1.out.upd UX.out (by simp)).facts
    by_cases hlt:i < nt
    ·have hii:(i:Int) < nt:=by omega
     obtain ⟨vs,⟨hv1,hv2⟩,hrow⟩:=(HP.out.upd0 (U1.out.trans UX.out)).ths
     obtain ⟨A',n',e,hcells⟩:=hv2
     injection e with e e2 e3
     clear e2 e3
     subst e
     have hil:i < p.ths.length:=by rw [← HN.out.2]; exact hlt
     obtain ⟨v,hv⟩:∃ v,vs[i]?=some v:=⟨_,List.getElem?_eq_getElem (by omega)⟩
     obtain ⟨t,ht⟩:∃ t,p.ths[i]?=some t:=⟨_,List.getElem?_eq_getElem hil⟩
     obtain ⟨us,⟨hu1,Aj,cj,rfl,hu2⟩,hst⟩:=hrow i v t hv ht
     obtain ⟨ad,hA,had,hcell⟩:=hcells i _ hv
     obtain ⟨nj,hnj⟩:∃ k,k=t.length:=⟨_,rfl⟩
     rw [← hnj] at hcell
     have hj63:(nj:Int)≤9223372036854775807:=by have:=HB.out.2.2 t (List.mem_of_getElem? ht); omega
     have HT:Hid (p.ths[i]?=some t∧i < nt∧nj=t.length∧us.length=t.length):=Zh ⟨ht,hlt,hnj,by omega⟩
     have HU2:=Zh hu2
     have HST:=Zh hst
     clear hv1 hcells hil hv ht hrow hu1 hu2 hst hnj hi hlt
     subst hA
     have HCL:Hid (wr2.cell? (ad.add i)=some (.slice Aj nj cj)∧ad.block < wr2.heap.size):=Zh ⟨hcell,had⟩
     by_cases d1:20 < nj
     ·have d1':(20:Int) < nj:=by omega
      go_wp2_with fail
      go_ret2
      exact ⟨_,_,rfl,by omega,U1.out.trans UX.out⟩
     have d1':¬ (20:Int) < nj:=by omega
     have HNJ:Hid (nj≤20):=Zh (by omega)
     clear d1
     go_wp2_with fail
     clear b0 hcell had
     go_loopw [6,7,8] (fun u6 u7 u8 wr3 => ∃ j:Nat,u6=.int .i64 j∧j≤nj∧Hid (Upd [] wr2 wr3∧∀ k l,k < j→t[k]?=some l→(rightR p.ks l).1=0)) (fun u _ _ _ => nj - (intOf u).toNat)
     case atStart => exact ⟨0,rfl,by omega,Zh ⟨.refl _ _,fun k l hk => by omega⟩⟩
     case round =>
      obtain ⟨j,rfl,hj,KY⟩:=hrel
      rename World => wr3
      have UY:Hid (Upd [] w1 wr3):=Zh (UX.out.trans KY.out.1)
      have b0:=(X1.out.upd UY.out (by simp)).facts
      have bel:Below wr2.heap.size wr2 wr3:=KY.out.1.below (Nat.le_refl _) (by simp)
      have hcell:wr3.cell? (ad.add i)=some (.slice Aj nj cj):=(bel.cell (by rw [block_add]; exact HCL.out.2)).trans HCL.out.1
      have had:ad.block < wr3.heap.size:=Nat.lt_of_lt_of_le HCL.out.2 KY.out.1.size
      by_cases hlt:j < nj
      ·have hjj:(j:Int) < nj:=by omega
       obtain ⟨u,hu⟩:∃ u,us[j]?=some u:=⟨_,List.getElem?_eq_getElem (by have:=HT.out; omega)⟩
       obtain ⟨l,hl⟩:∃ l,t[j]?=some l:=⟨_,List.getElem?_eq_getElem (by have:=HT.out; omega)⟩
       have HS:Hid (Stms wr3 wr3.heap.size u l):=Zh ((HST.out j u l hu hl).upd0 KY.out.1)
       obtain ⟨ad2,hA2,had2,hc2⟩:=HU2.out j u hu
       have hcell2:wr3.cell? (ad2.add j)=some u:=(bel.cell (by rw [block_add]; exact had2)).trans hc2
       have had3:ad2.block < wr3.heap.size:=Nat.lt_of_lt_of_le had2 KY.out.1.size
       have HL:Hid (t[j]?=some l∧j < nj):=Zh ⟨hl,hlt⟩
       clear hu hl had2 hc2 hj hlt bel
       subst hA2
       go_wp2_with fail
       refine wp_forced (by kernel_rfl) (by kernel_rfl) ?_
       simp only [ordered,List.filter_cons,List.filter_nil,isFloat,Option.isNone_none,Option.isNone_some,Bool.true_and,Bool.and_true,Bool.false_and,Bool.and_false,List.all_toArray,List.all_cons,List.all_nil,Region.binds,Bool.not_true,Bool.not_false,if_true,if_false,Bool.false_eq_true,List.cons_append,List.nil_append,ite_true,ite_false]
       repeat (first | ((with_reducible refine wpF_no ?_ ?_); (· rfl); simp only [aP]) | ((with_reducible refine wpF_light ?_ (fun K hK => ?_)); (· simp only [lightOp]; done); go_simp; refine hK _ ?_; clear hK K; simp only [aP]))
       refine wpF_call (by simp only [lightOp]) (by rfl) (fun K hK => ?_)
       go_wp2_with fail
       have hks:Src wr3.drew 1 (.slice Ak nk ck) nk (p.ks.map (Value.int .i64)):=by
        have:=(HP.out.ks.upd0 (U1.out.trans UY.out)).upd0 (Upd.refl _ _).drew
        rwa [← HN.out.1] at this
       refine (Old.ref_right_ok l u Ak nk ck p.ks wr3.drew (HS.out.upd0 (Upd.refl _ _).drew) hks (by have:=HC.out; omega) (HZ.out t (List.mem_of_getElem? HT.out.1) l (List.mem_of_getElem? HL.out.1))).mono ?_
       rintro e w5 ⟨rfl,u5⟩
       have U5:Hid (Upd [] wr2 w5):=Zh ((KY.out.1.drew).trans u5)
       obtain ⟨e1,he1⟩:∃ e1,e1=(rightR p.ks l).1:=⟨_,rfl⟩
       obtain ⟨a1,ha1⟩:∃ a1,a1=(rightR p.ks l).2:=⟨_,rfl⟩
       rw [← he1,← ha1]
       have HE1:=Zh he1
       clear u5 hks b0 hcell had hcell2 had3 he1 ha1
       go_wp2_with fail
       refine hK.out _ _ ?_
       clear hK K
       try simp only [aP]
       repeat (first | ((with_reducible refine wpF_no ?_ ?_); (· rfl); simp only [aP]) | ((with_reducible refine wpF_light ?_ (fun K hK => ?_)); (· simp only [lightOp]; done); go_simp; refine hK _ ?_; clear hK K; simp only [aP]))
       refine wpF_end ?_
       by_cases h0:e1=0
       ·subst h0
        have X5:Hid (Upd [] wr2 w5∧∀ k l,k < j + 1→t[k]?=some l→(rightR p.ks l).1=0):=Zh ⟨U5.out,fun k l' hk hl' => by
         by_cases e:k=j
         ·subst e
          rw [HL.out.1] at hl'
          injection hl' with hl'
          subst hl'
          exact HE1.out.symm
         ·exact KY.out.2 k l' (by omega) hl'⟩
        go_wp2_with fail
        go_round
        case rel => exact ⟨j + 1,by simp,by have:=HL.out.2; omega,X5⟩
        case measure => have:=HL.out.2; simp [intOf]; omega
       ·have h0':(e1 != 0)=true:=by simpa using h0
        have H0:=Zh h0
        clear h0
        go_wp2_with fail
        go_ret2
        exact ⟨_,_,rfl,fun h => absurd h H0.out,U1.out.trans (UX.out.trans U5.out)⟩
      ·have hjj:¬ (j:Int) < nj:=by omega
       have X2:Hid (Upd [] wr wr3∧∀ k t,k < i + 1→p.ths[k]?=some t→t.length≤20∧∀ l ∈ t,(rightR p.ks l).1=0):=Zh ⟨KX.out.1.trans KY.out.1,fun k t' hk ht' => by
        by_cases e:k=i
        ·subst e
         rw [HT.out.1] at ht'
         injection ht' with ht'
         subst ht'
         refine ⟨by rw [← HT.out.2.2.1]; exact HNJ.out,fun l hl => ?_⟩
         obtain ⟨q,hq⟩:=List.getElem?_of_mem hl
         have hql:=(List.getElem?_eq_some_iff.1 hq).1
         exact KY.out.2 q l (by have:=HT.out; omega) hq
        ·exact KX.out.2 k t' (by omega) ht'⟩
       clear bel hj hlt
       go_wp2_with fail
       go_round
       case rel => exact ⟨i + 1,by simp,by have:=HT.out.2.1; omega,X2⟩
       case measure => have:=HT.out.2.1; simp [intOf]; omega
    ·have hii:¬ (i:Int) < nt:=by omega
     have HFT:Hid (FitP p):=Zh ⟨by rw [← HN.out.1]; exact HC.out.1,HKS.out,by rw [← HN.out.2]; exact HC.out.2,fun t ht => by
      obtain ⟨j,hj⟩:=List.getElem?_of_mem ht
      have hjl:=(List.getElem?_eq_some_iff.1 hj).1
      exact (KX.out.2 j t (by have:=HN.out.2; omega) hj).1,fun t ht => by
      obtain ⟨j,hj⟩:=List.getElem?_of_mem ht
      have hjl:=(List.getElem?_eq_some_iff.1 hj).1
      exact (KX.out.2 j t (by have:=HN.out.2; omega) hj).2⟩
     go_wp2_with fail
     go_ret2
     exact ⟨_,_,rfl,fun _ => HFT.out,U1.out.trans UX.out⟩
end Go.Proofs.YtmjnmpifibemjaaGreatDoor
namespace Go.Proofs.YtmjnmpifibemjaaGreatDoor
open Go.RowKit Go.Deep Go.WideShapes Go.ChangeShapes
theorem list9 {α:Type} {l:List α} (h:l.length=9):∃ a0 a1 a2 a3 a4 a5 a6 a7 a8,l=[a0,a1,a2,a3,a4,a5,a6,a7,a8]:=by
 match l,h with
 | [a0,a1,a2,a3,a4,a5,a6,a7,a8],_ => exact ⟨a0,a1,a2,a3,a4,a5,a6,a7,a8,rfl⟩
section
variable {H:Type} {enc:TypeId × Value→H} {W:World} {base:Nat} {spare:Nat→Bool} {held:Bool}
theorem arg_of {fuel:Nat} {a b:Value} {x:DataW H × List MemPlace} (h:DataW.trod enc Tryz.prog W base spare held fuel 60 [a,b]=some x):∃ i j:Int,a=.int .i64 i∧b=.int .i64 j:=by
 obtain ⟨xs,n,_,_,hl,hxl,hf⟩:=DataW.trod_struct Tryz.underlying60 h
 have t0:=hf 0 _ rfl
 have t1:=hf 1 _ rfl
 have c1:Tryz.prog.cellsOf 3=1:=by kernel_rfl
 simp only [List.getElem_toArray,List.getElem_cons_zero,List.getElem_cons_succ,c1,List.drop_zero,List.drop_succ_cons,List.take_succ_cons,List.take_zero] at t0 t1
 have hx0:xs[0]?=some (xs[0]'(by rw [hxl]; decide)):=List.getElem?_eq_getElem _
 have hx1:xs[1]?=some (xs[1]'(by rw [hxl]; decide)):=List.getElem?_eq_getElem _
 rw [hx0] at t0
 rw [hx1] at t1
 obtain ⟨y0,g0,_,_⟩:=DataW.trod_int Tryz.underlying3 t0
 obtain ⟨y1,g1,_,_⟩:=DataW.trod_int Tryz.underlying3 t1
 simp only [List.cons.injEq,and_true] at g0 g1
 exact ⟨y0,y1,g0,g1⟩
end
end Go.Proofs.YtmjnmpifibemjaaGreatDoor
namespace Go.Proofs.YtmjnmpifibemjaaGreatDoor
open Go.RowKit Go.WideShapes Go.ChangeShapes St
section
variable {H:Type} {enc:TypeId × Value→H} {W:World} {base b0:Nat} {spare:Nat→Bool} {held:Bool} {v:Value} {d:DataW H} {ps:List MemPlace} {r:Reach}
end
end Go.Proofs.YtmjnmpifibemjaaGreatDoor

/-
 A region that draws its order, each of whose operations does what it does in whatever order: one obligation an operation, none for an order.
-/
import Derived.Test.YtmjnmpifibemjaaGreatDoorJtB2
import Derived.Test.YtmjnmpifibemjaaGreatDoorJtB0
set_option linter.unusedVariables false
set_option linter.unusedSimpArgs false
set_option maxRecDepth 100000
set_option maxHeartbeats 16000000
namespace Go.Proofs.YtmjnmpifibemjaaGreatDoor
open Go Go.RowKit
structure Inv where
 S:List Nat
 w0:World
 K:Nat→World→Prop
 R:Nat→Value→Value→World→Prop
 of:Nat→Nat
 adm:Nat→Value→Prop
 fp:Nat→Value→List Nat
 con:Nat→List Nat
 ch:Nat→Bool
 nb:Nat
 tl:List Oper
section
variable (ops:Array Oper)
def maskOf (o:Oper) (M:List Nat):Nat:=o.after.toList.foldl (fun m e => if Region.binds .any e then m ||| ((1 <<< e.on) ||| M.getD e.on 0) else m) 0
def masksL:List Oper→List Nat→List Nat
 | [],M => M
 | o :: l,M => masksL l (M ++ [maskOf o M])
def ancB (j h:Nat):Bool:=((masksL ops.toList []).getD j 0).testBit h
def availB (con:Nat→List Nat) (j h:Nat):Bool:=ancB ops j h && (List.range ops.size).all fun y => !(con y).contains h || y == j || ancB ops y j
def floatAt (j:Nat):Bool:=((ops[j]?).map isFloat).getD false
def tailB (nb:Nat):Bool:=floatsOk ops (floats ops) (Array.replicate ops.size false) && (List.range ops.size).all fun j => decide (j < nb) || (!floatAt ops j && (List.range j).all fun x => floatAt ops x || ancB ops j x)
def endB (con:Nat→List Nat) (h:Nat):Bool:=(List.range ops.size).all fun y => !(con y).contains h
def invB (con:Nat→List Nat) (ch:Nat→Bool):Bool :=
 Region.noSelect ops && (List.range ops.size).all (fun j => depsBack ops j && (List.range j).all (fun x => pairOk ops x j) && (!(lightAt ops j) || ((con j).isEmpty && !ch j)) &&
  (List.range j).all (fun x => !(ch x && ch j) || ancB ops j x) && (con j).all (fun h => decide (h < ops.size) && !lightAt ops h && ancB ops j h) && (List.range ops.size).all (fun y => y == j || (con j).all fun h => !(con y).contains h))
end
def look:List (Nat × Value)→Nat→Value
 | [],_ => undef
 | p :: G,h => if p.1=h then p.2 else look G h
def parV (I:Inv) (G:List (Nat × Value)) (j:Nat) (v:Value):Value:=if I.of j=j then v else look G (I.of j)
def factsG (I:Inv) (ok:Nat→Bool) (G0:List (Nat × Value)):List (Nat × Value)→World→Prop
 | [],_ => True
 | p :: G,w => (ok p.1=true→I.R p.1 (parV I G0 p.1 p.2) p.2 w)∧factsG I ok G0 G w
def factsV (I:Inv) (ok:Nat→Bool) (G:List (Nat × Value)) (w:World):Prop:=factsG I ok G G w
def OfOk (ops:Array Oper) (I:Inv):Prop:=∀ j,j < ops.size→I.of j=j∨(I.of j < I.nb∧I.of j < j∧lightAt ops (I.of j)=false∧ancB ops j (I.of j)=true)
def usedV (I:Inv) (j:Nat):List (Nat × Value)→List Nat
 | [] => []
 | p :: G => (if (I.con j).contains p.1 then I.fp p.1 p.2 else []) ++ usedV I j G
theorem usedV_none {I:Inv} {j:Nat} (h:I.con j=[]) (G:List (Nat × Value)):usedV I j G=[]:=by
 induction G with
 | nil => rfl
 | cons p G ih => unfold usedV; rw [h,ih]; rfl
def outV (I:Inv) (j s:Nat) (G:List (Nat × Value)) (w:World) (v:Value) (w':World):Prop :=
 I.R j (parV I G j v) v w'∧(∀ b ∈ I.fp j v,b ∈ usedV I j G∨(w.heap.size≤b∧b < w'.heap.size))∧Upd (if I.ch j then I.S ++ usedV I j G else usedV I j G) w w'∧(I.ch j=true→I.K (s + 1) w')
def obL (P:Program) (ops:Array Oper) (I:Inv) (o:Oper) (j:Nat) (A:Act) (G:List (Nat × Value)) (v:Value):Prop :=
 ∀ w,Upd I.S I.w0 w→factsV I (availB ops I.con j) G w→if Region.wanted o (yielded ops A.tmps) then litStep ((execOp A.eval o).run P w) w (·=v) else v=undef
def obH (P:Program) (ops:Array Oper) (I:Inv) (Q:Exit→Act→World→Prop) (o:Oper) (j s:Nat) (A:Act) (G:List (Nat × Value)):Prop :=
 ∀ w,Upd I.S I.w0 w→(I.ch j=true→I.K s w)→factsV I (availB ops I.con j) G w →
   if Region.wanted o (yielded ops A.tmps) then o.wp P A w (fun A' w' => ∃ v,A'=A.put o.dst v∧outV I j s G w v w') Q else outV I j s G w undef w
def wpT (P:Program) (ops:Array Oper) (Q:Exit→Act→World→Prop):List Oper→Act→World→Prop
 | [],a,w => Q .normal a w
 | o :: l,a,w => if Region.wanted o (yielded ops a.tmps) then o.wp P a w (wpT P ops Q l) Q else wpT P ops Q l (a.put o.dst undef) w
def obE (P:Program) (ops:Array Oper) (I:Inv) (Q:Exit→Act→World→Prop) (s:Nat) (A:Act) (G:List (Nat × Value)):Prop :=
 ∀ w,Upd I.S I.w0 w→I.K s w→factsV I (endB ops I.con) G w→wpT P ops Q I.tl A w
def wpV (P:Program) (ops:Array Oper) (I:Inv) (Q:Exit→Act→World→Prop):List Oper→Nat→Nat→Act→List (Nat × Value)→Prop
 | [],_,s,A,G => obE P ops I Q s A G
 | o :: l,j,s,A,G =>
   if lightOp o.op then ∃ v,obL P ops I o j A G v∧wpV P ops I Q l (j + 1) s (A.put o.dst v) G
   else obH P ops I Q o j s A G∧∀ v,I.adm j v→wpV P ops I Q l (j + 1) (if I.ch j then s + 1 else s) (A.put o.dst v) (G ++ [(j,v)])
section
theorem mask_spec (o:Oper) (M:List Nat) (h:Nat):(maskOf o M).testBit h=o.after.any (fun e => Region.binds .any e && (e.on == h || (M.getD e.on 0).testBit h)):=by
 unfold maskOf
 rw [← Array.any_toList]
 have key:∀ (l:List Edge) (m:Nat),(l.foldl (fun m e => if Region.binds .any e then m ||| ((1 <<< e.on) ||| M.getD e.on 0) else m) m).testBit h=(m.testBit h || l.any (fun e => Region.binds .any e && (e.on == h || (M.getD e.on 0).testBit h))):=by
  intro l
  induction l with
  | nil => intro m; simp
  | cons e l ih =>
    intro m
    rw [List.foldl_cons,ih,List.any_cons]
    cases hb:Region.binds .any e with
    | false => simp
    | true =>
      simp only [if_true,Bool.true_and,Nat.testBit_or,Nat.one_shiftLeft,Nat.testBit_two_pow]
      rw [Bool.or_assoc]
      congr 2
 rw [key]
 simp
theorem masks_pre:∀ (l:List Oper) (M:List Nat) (i:Nat),i < M.length→(masksL l M).getD i 0=M.getD i 0
 | [],_,_,_ => rfl
 | o :: l,M,i,h => by
   unfold masksL
   rw [masks_pre l _ i (by simp; omega)]
   simp [List.getD_eq_getElem?_getD,List.getElem?_append_left h]
theorem masks_at:∀ (l:List Oper) (M:List Nat) (k:Nat) (o:Oper),l[k]?=some o→∃ M',M'.length=M.length + k∧(masksL l M).getD (M.length + k) 0=maskOf o M'∧∀ i,i < M'.length→M'.getD i 0=(masksL l M).getD i 0
 | [],_,_,_,h => by simp at h
 | o :: l,M,0,o',h => by
   simp at h
   subst h
   refine ⟨M,rfl,?_,fun i hi => (masks_pre _ M i hi).symm⟩
   unfold masksL
   rw [masks_pre l _ _ (by simp)]
   simp [List.getD_eq_getElem?_getD]
 | o :: l,M,k + 1,o',h => by
   obtain ⟨M',h1,h2,h3⟩:=masks_at l (M ++ [maskOf o M]) k o' (by simpa using h)
   unfold masksL
   refine ⟨M',by simp at h1; omega,?_,h3⟩
   rw [← h2]
   congr 1
   simp; omega
variable {P:Program} {ops:Array Oper}
theorem anc_iff {j h:Nat} (hj:j < ops.size) (hb:depsBack ops j=true):ancB ops j h=true↔∃ x,depB ops j x=true∧(x=h∨ancB ops x h=true):=by
 obtain ⟨M',h1,h2,h3⟩:=masks_at ops.toList [] j ops[j] (by simp [hj])
 unfold ancB depB
 simp only [List.length_nil,Nat.zero_add] at h1 h2
 rw [h2,mask_spec,Array.getElem?_eq_getElem hj]
 unfold depsBack at hb
 rw [Array.getElem?_eq_getElem hj] at hb
 simp only [Array.all_eq_true,Array.any_eq_true,Bool.or_eq_true,Bool.and_eq_true,decide_eq_true_eq,Bool.not_eq_true',beq_iff_eq] at hb ⊢
 constructor
 ·rintro ⟨i,hi,he,hh⟩
  refine ⟨_,⟨i,hi,he,rfl⟩,hh.imp id fun h4 => ?_⟩
  rw [← h3 _ (by rw [h1]; exact (hb i hi).resolve_left (by rw [he]; simp))]
  exact h4
 ·rintro ⟨x,⟨i,hi,he,rfl⟩,hh⟩
  refine ⟨i,hi,he,hh.imp id fun h4 => ?_⟩
  rw [h3 _ (by rw [h1]; exact (hb i hi).resolve_left (by rw [he]; simp))]
  exact h4
structure InvOk (ops:Array Oper) (I:Inv):Prop where
 sel:∀ (j:Nat) (o:Oper) (cs:Array SelectCase) (b:Bool),ops[j]?=some o→o.op≠.select cs b
 back:∀ j,j < ops.size→depsBack ops j=true
 pair:∀ j,j < ops.size→∀ x,x < j→pairOk ops x j=true
 light:∀ j,j < ops.size→lightAt ops j=true→I.con j=[]∧I.ch j=false
 chain:∀ j,j < ops.size→∀ x,x < j→I.ch x=true→I.ch j=true→ancB ops j x=true
 con:∀ j,j < ops.size→∀ h ∈ I.con j,h < ops.size∧lightAt ops h=false∧ancB ops j h=true
 once:∀ j,j < ops.size→∀ y,y < ops.size→y≠j→∀ h ∈ I.con j,h ∉ I.con y
theorem invOk_of {I:Inv} (h:invB ops I.con I.ch=true):InvOk ops I:=by
 unfold invB at h
 rw [Bool.and_eq_true,List.all_eq_true] at h
 obtain ⟨h0,h1⟩:=h
 have h2:∀ j,j < ops.size→_:=fun j hj => h1 j (List.mem_range.2 hj)
 simp only [Bool.and_eq_true,List.all_eq_true,List.mem_range,Bool.or_eq_true,Bool.not_eq_true',List.isEmpty_iff,decide_eq_true_eq,beq_iff_eq,Bool.and_eq_false_iff] at h2
 refine ⟨Region.noSelect_spec h0,fun j hj => (h2 j hj).1.1.1.1.1,fun j hj x hx => (h2 j hj).1.1.1.1.2 x hx,fun j hj hl => ?_,fun j hj x hx hx1 hj1 => ?_,fun j hj h hh => ?_,fun j hj y hy hne h hh hm => ?_⟩
 ·rcases (h2 j hj).1.1.1.2 with h3 | h3
  ·rw [hl] at h3; cases h3
  ·exact h3
 ·rcases (h2 j hj).1.1.2 x hx with h3 | h3
  ·rw [hx1,hj1] at h3; rcases h3 with h3 | h3 <;> cases h3
  ·exact h3
 ·have:=(h2 j hj).1.2 h hh
  exact ⟨this.1.1,this.1.2,this.2⟩
 ·rcases (h2 j hj).2 y hy with h3 | h3
  ·exact hne h3
  ·have:=h3 h hh
   simp at this
   exact this hm
theorem wp_transfer {o:Oper} {a b:Act} {w:World} {K':Act→World→Prop} {Z:Value→World→Prop} {Q:Exit→Act→World→Prop} (he:execOp a.eval o=execOp b.eval o)
 (hK:∀ v w',Z v w'→K' (b.put o.dst v) w') (hinj:∀ v v':Value,a.put o.dst v=a.put o.dst v'→b.put o.dst v=b.put o.dst v')
 (h:o.wp P a w (fun A' w' => ∃ v,A'=a.put o.dst v∧Z v w') (NoPanic Q)):o.wp P b w K' (NoPanic Q):=by
 have key:∀ v w',(∃ v',a.put o.dst v=a.put o.dst v'∧Z v' w')→K' (b.put o.dst v) w':=fun v w' ⟨v',e,hz⟩ => hinj v v' e ▸ hK v' w' hz
 unfold Oper.wp at h ⊢
 rw [← he]
 generalize (execOp a.eval o).run P w=r at h
 cases r with
 | ok n w' =>
   cases n with
   | value v => exact key v w' h
   | skip => exact key _ w' h
   | defer d =>
     obtain ⟨v',e,_⟩:=h
     exfalso
     have:=congrArg Act.defers e
     cases hd:o.dst <;> rw [hd] at this <;> simp [Act.put] at this
   | enter f args =>
     refine Calls.mono h fun e w'' he => ?_
     cases e with
     | returned v => exact key v w'' he
     | panicked c => exact he
     | outgrown => exact he
   | row r args => exact Rows.mono h fun v w'' he => key v w'' he
   | _ => exact h
 | halt x w' => cases x <;> exact h
end
end Go.Proofs.YtmjnmpifibemjaaGreatDoor
namespace Go.Proofs.YtmjnmpifibemjaaGreatDoor
open Go Go.RowKit
section
variable {P:Program} {ops:Array Oper} {I:Inv} {Q:Exit→Act→World→Prop} {a:Act}
def Aat (ops:Array Oper) (a:Act) (V:Nat→Value) (j:Nat):Act:=putX ops V (fun x => decide (x < j)) (List.range ops.size) a
def Gat (ops:Array Oper) (V:Nat→Value) (j:Nat):List (Nat × Value):=((List.range j).filter (fun h => !lightAt ops h)).map (fun h => (h,V h))
def sat (I:Inv) (j:Nat):Nat:=((List.range j).filter I.ch).length
def Ob (P:Program) (ops:Array Oper) (I:Inv) (Q:Exit→Act→World→Prop) (a:Act) (V:Nat→Value) (j:Nat):Prop :=
 ∀ o,ops[j]?=some o→if lightOp o.op then obL P ops I o j (Aat ops a V j) (Gat ops V j) (V j) else obH P ops I Q o j (sat I j) (Aat ops a V j) (Gat ops V j)
def Flat (P:Program) (ops:Array Oper) (I:Inv) (Q:Exit→Act→World→Prop) (a:Act) (V:Nat→Value):Prop :=
 (∀ j,j < I.nb→Ob P ops I Q a V j)∧obE P ops I Q (sat I I.nb) (Aat ops a V I.nb) (Gat ops V I.nb)
theorem putX_congr' {V V':Nat→Value} {X Y:Nat→Bool}:∀ (l:List Nat) (a:Act),(∀ x ∈ l,X x=Y x)→(∀ x ∈ l,X x=true→V x=V' x)→putX ops V X l a=putX ops V' Y l a
 | [],_,_,_ => rfl
 | i :: l,a,hx,hv => by
   unfold putX
   rw [hx i (List.mem_cons_self ..)]
   cases hY:Y i with
   | true =>
     simp only [if_true]
     rw [hv i (List.mem_cons_self ..) (by rw [hx i (List.mem_cons_self ..),hY])]
     exact putX_congr' l _ (fun x hm => hx x (List.mem_cons_of_mem _ hm)) (fun x hm => hv x (List.mem_cons_of_mem _ hm))
   | false =>
     simp only [Bool.false_eq_true,if_false]
     exact putX_congr' l _ (fun x hm => hx x (List.mem_cons_of_mem _ hm)) (fun x hm => hv x (List.mem_cons_of_mem _ hm))
theorem InvOk.distinct (ok:InvOk ops I) {j x:Nat} (hj:j < ops.size) (hx:x < ops.size) (hne:x≠j) (t:Tmp) (h:dstOf ops j=some t):dstOf ops x≠some t:=by
 intro h'
 rcases Nat.lt_or_gt_of_ne hne with h1 | h1
 ·have hp:=ok.pair j hj x h1
  unfold pairOk at hp
  rw [h,h'] at hp
  simp at hp
 ·have hp:=ok.pair x hx j h1
  unfold pairOk at hp
  rw [h,h'] at hp
  simp at hp
theorem Aat_congr {V V':Nat→Value} {j:Nat} (h:∀ x,x < j→V x=V' x):Aat ops a V j=Aat ops a V' j :=
 putX_congr' _ _ (fun _ _ => rfl) (fun x _ hx => h x (by simpa using hx))
theorem Gat_congr {V V':Nat→Value} {j:Nat} (h:∀ x,x < j→V x=V' x):Gat ops V j=Gat ops V' j:=by
 unfold Gat
 apply List.map_congr_left
 intro x hx
 rw [h x (List.mem_range.1 (List.mem_filter.1 hx).1)]
theorem Aat_succ (ok:InvOk ops I) {j:Nat} (hj:j < ops.size) (V:Nat→Value):Aat ops a V (j + 1)=(Aat ops a V j).put (dstOf ops j) (V j):=by
 unfold Aat
 rw [← putX_add (by simp) _ _ (List.mem_range.2 hj) List.nodup_range (fun x hx hne t ht => ok.distinct hj (List.mem_range.1 hx) hne t ht)]
 refine putX_congr _ _ (fun x _ => ?_) (fun _ _ => rfl)
 rw [Bool.eq_iff_iff]
 simp
 omega
theorem Gat_succ (V:Nat→Value) (j:Nat):Gat ops V (j + 1)=if lightAt ops j then Gat ops V j else Gat ops V j ++ [(j,V j)]:=by
 unfold Gat
 rw [List.range_succ,List.filter_append,List.map_append]
 cases h:lightAt ops j <;> simp [h]
theorem sat_succ (j:Nat):sat I (j + 1)=if I.ch j then sat I j + 1 else sat I j:=by
 unfold sat
 rw [List.range_succ,List.filter_append]
 cases h:I.ch j <;> simp [h]
theorem lightAt_some {j:Nat} {o:Oper} (h:ops[j]?=some o):lightAt ops j=lightOp o.op:=by unfold lightAt; rw [h]
theorem flat_of (ok:InvOk ops I) (hnb:I.nb≤ops.size):∀ (l:List Oper) (j:Nat) (V0:Nat→Value),(∀ k o,l[k]?=some o→ops[j + k]?=some o)→j + l.length=I.nb →
 wpV P ops I Q l j (sat I j) (Aat ops a V0 j) (Gat ops V0 j)→∀ e:Nat→Value,(∀ h,I.adm h (e h))→∃ V,(∀ x,x < j→V x=V0 x)∧(∀ h,j≤h→h < I.nb→lightAt ops h=false→V h=e h) ∧
  (∀ i,j≤i→i < I.nb→Ob P ops I Q a V i)∧obE P ops I Q (sat I I.nb) (Aat ops a V I.nb) (Gat ops V I.nb)
 | [],j,V0,_,hn,h,e,_ => by
   simp at hn
   subst hn
   exact ⟨V0,fun _ _ => rfl,fun h h1 h2 => by omega,fun i h1 h2 => by omega,h⟩
 | o :: l,j,V0,hl,hn,h,e,hadm => by
   have ho:ops[j]?=some o:=by simpa using hl 0 o rfl
   have hj:j < ops.size:=(Array.getElem?_eq_some_iff.1 ho).1
   have hla:=lightAt_some ho
   have hd:dstOf ops j=o.dst:=by simp [dstOf,ho]
   have hl':∀ k o',l[k]?=some o'→ops[j + 1 + k]?=some o':=fun k o' hk => by
    have:=hl (k + 1) o' (by simpa using hk)
    rwa [show j + (k + 1)=j + 1 + k by omega] at this
   have hn':j + 1 + l.length=I.nb:=by simp at hn; omega
   unfold wpV at h
   have key:∀ v,(lightAt ops j=false→v=e j)→wpV P ops I Q l (j + 1) (sat I (j + 1)) ((Aat ops a V0 j).put o.dst v) (Gat ops (fun x => if x=j then v else V0 x) (j + 1))→Ob P ops I Q a (fun x => if x=j then v else V0 x) j →
    ∃ V,(∀ x,x < j→V x=V0 x)∧(∀ h,j≤h→h < I.nb→lightAt ops h=false→V h=e h)∧(∀ i,j≤i→i < I.nb→Ob P ops I Q a V i)∧obE P ops I Q (sat I I.nb) (Aat ops a V I.nb) (Gat ops V I.nb):=by
    intro v hv hw hob
    have hA:(Aat ops a V0 j).put o.dst v=Aat ops a (fun x => if x=j then v else V0 x) (j + 1):=by
     rw [Aat_succ ok hj,hd]
     simp only [if_true]
     rw [Aat_congr (V':=V0) (fun x hx => if_neg (by omega))]
    rw [hA] at hw
    obtain ⟨V,h1,h2,h3,h4⟩:=flat_of ok hnb l (j + 1) _ hl' hn' hw e hadm
    refine ⟨V,fun x hx => by rw [h1 x (by omega),if_neg (by omega)],fun x hx hxn hxl => ?_,fun i hi hin => ?_,h4⟩
    ·rcases Nat.lt_or_eq_of_le hx with h5 | h5
     ·exact h2 x h5 hxn hxl
     ·subst h5
      rw [h1 j (by omega),if_pos rfl]
      exact hv hxl
    ·rcases Nat.lt_or_eq_of_le hi with h5 | h5
     ·exact h3 i h5 hin
     ·subst h5
      intro o' ho'
      have:=hob o' ho'
      have h6:(fun x => if x=j then v else V0 x) j=V j:=(h1 j (by omega)).symm
      rw [Aat_congr (V':=V) (fun x hx => (h1 x (by omega)).symm),Gat_congr (V':=V) (fun x hx => (h1 x (by omega)).symm),h6] at this
      exact this
   have e1:∀ v,Aat ops a (fun x => if x=j then v else V0 x) j=Aat ops a V0 j:=fun v => Aat_congr fun x hx => if_neg (by omega)
   have e2:∀ v,Gat ops (fun x => if x=j then v else V0 x) j=Gat ops V0 j:=fun v => Gat_congr fun x hx => if_neg (by omega)
   cases hlo:lightOp o.op with
   | true =>
     rw [hlo] at h hla
     simp only [if_true] at h
     obtain ⟨v,hob,hr⟩:=h
     refine key v (fun hc => by rw [hla] at hc; cases hc) ?_ ?_
     ·rw [Gat_succ,hla,sat_succ,(ok.light j hj hla).2,e2]
      exact hr
     ·intro o' ho'
      rw [ho] at ho'
      cases ho'
      rw [hlo,e1,e2]
      simpa using hob
   | false =>
     rw [hlo] at h hla
     simp only [Bool.false_eq_true,if_false] at h
     obtain ⟨hob,hr⟩:=h
     refine key (e j) (fun _ => rfl) ?_ ?_
     ·rw [Gat_succ,hla,sat_succ,e2]
      simpa using hr (e j) (hadm j)
     ·intro o' ho'
      rw [ho] at ho'
      cases ho'
      rw [hlo,e1,e2]
      simpa using hob
def Live (ops:Array Oper) (I:Inv) (L:Array Bool) (h:Nat):Prop:=h < I.nb∧lightAt ops h=false∧L.getD h false=true∧∀ y,y < I.nb→L.getD y false=true→h ∉ I.con y
structure StI (P:Program) (ops:Array Oper) (I:Inv) (Q:Exit→Act→World→Prop) (a:Act) (L:Array Bool) (u:Nat→Value) (w:World):Prop where
 sz:L.size=ops.size
 cl:∀ y x,y < ops.size→L.getD y false=true→depB ops y x=true→L.getD x false=true
 i1:Upd I.S I.w0 w
 i2:I.K ((List.range I.nb).filter (fun x => I.ch x && L.getD x false)).length w
 i3:∀ h,Live ops I L h→I.R h (u (I.of h)) (u h) w
 i4:∀ h,Live ops I L h→∀ b ∈ I.fp h (u h),I.w0.heap.size≤b∧b < w.heap.size
 i5:∀ h h',Live ops I L h→Live ops I L h'→h≠h'→∀ b ∈ I.fp h (u h),b ∉ I.fp h' (u h')
 i7:∀ h,lightAt ops h=false→I.adm h (u h)
 tl:∀ j,I.nb≤j→L.getD j false=false
 fl:∀ j,floatAt ops j=true→L.getD j false=true
 i6:∀ j,j < I.nb→lightAt ops j=true→L.getD j false=true→∀ V,Flat P ops I Q a V→(∀ h,h < I.nb→lightAt ops h=false→ancB ops j h=true→V h=u h)→V j=u j
theorem facts_of' {ok:Nat→Bool} {w:World} (G0:List (Nat × Value)):∀ (G:List (Nat × Value)),(∀ p ∈ G,ok p.1=true→I.R p.1 (parV I G0 p.1 p.2) p.2 w)→factsG I ok G0 G w
 | [],_ => trivial
 | p :: G,h => ⟨h p (List.mem_cons_self ..),facts_of' G0 G fun q hq => h q (List.mem_cons_of_mem _ hq)⟩
theorem facts_of {ok:Nat→Bool} {w:World} (G:List (Nat × Value)) (h:∀ p ∈ G,ok p.1=true→I.R p.1 (parV I G p.1 p.2) p.2 w):factsV I ok G w:=facts_of' G G h
theorem look_mem:∀ {G:List (Nat × Value)} {V:Nat→Value} {h:Nat},(∀ p ∈ G,p.2=V p.1)→(∃ p ∈ G,p.1=h)→look G h=V h
 | [],_,_,_,⟨_,h,_⟩ => by simp at h
 | p :: G,V,h,hV,hm => by
   unfold look
   split
   ·rename_i e; rw [hV p (List.mem_cons_self ..),e]
   ·rename_i e
    obtain ⟨q,hq,he⟩:=hm
    rcases List.mem_cons.1 hq with rfl | hq
    ·exact absurd he e
    ·exact look_mem (fun p hp => hV p (List.mem_cons_of_mem _ hp)) ⟨q,hq,he⟩
theorem look_Gat {V:Nat→Value} {j h:Nat} (hj:h < j) (hl:lightAt ops h=false):look (Gat ops V j) h=V h:=by
 refine look_mem (fun p hp => ?_) ⟨(h,V h),?_,rfl⟩
 ·unfold Gat at hp
  obtain ⟨x,_,rfl⟩:=List.mem_map.1 hp
  rfl
 ·unfold Gat
  exact List.mem_map.2 ⟨h,List.mem_filter.2 ⟨List.mem_range.2 hj,by simpa using hl⟩,rfl⟩
theorem mem_Gat {V:Nat→Value} {j:Nat} {p:Nat × Value} (h:p ∈ Gat ops V j):p.1 < j∧lightAt ops p.1=false∧p.2=V p.1:=by
 unfold Gat at h
 obtain ⟨x,hx,rfl⟩:=List.mem_map.1 h
 have:=List.mem_filter.1 hx
 exact ⟨List.mem_range.1 this.1,by simpa using this.2,rfl⟩
theorem mem_used {j b:Nat}:∀ {G:List (Nat × Value)},b ∈ usedV I j G→∃ p ∈ G,p.1 ∈ I.con j∧b ∈ I.fp p.1 p.2
 | [],h => by simp [usedV] at h
 | p :: G,h => by
   unfold usedV at h
   rcases List.mem_append.1 h with h1 | h1
   ·split at h1
    ·rename_i hc
     exact ⟨p,List.mem_cons_self ..,by simpa using hc,h1⟩
    ·simp at h1
   ·obtain ⟨q,h2,h3⟩:=mem_used h1
    exact ⟨q,List.mem_cons_of_mem _ h2,h3⟩
end
end Go.Proofs.YtmjnmpifibemjaaGreatDoor
namespace Go.Proofs.YtmjnmpifibemjaaGreatDoor
open Go Go.RowKit
section
variable {P:Program} {ops:Array Oper} {I:Inv} {Q:Exit→Act→World→Prop} {a:Act}
theorem getD_set {L:Array Bool} {j:Nat} (hj:j < L.size) (i:Nat) (b:Bool):(L.setIfInBounds j true).getD i b=if i=j then true else L.getD i b:=by
 simp only [Array.getD_eq_getD_getElem?,Array.getElem?_setIfInBounds]
 by_cases h:j=i
 ·subst h; simp [hj]
 ·rw [if_neg h,if_neg (fun e => h e.symm)]
theorem anc_listed (ok:InvOk ops I) {L:Array Bool} (cl:∀ y x,y < ops.size→L.getD y false=true→depB ops y x=true→L.getD x false=true):∀ (m j:Nat),j < m→j < ops.size→(∀ x,depB ops j x=true→L.getD x false=true)→∀ h,ancB ops j h=true→L.getD h false=true
 | 0,j,hm,_,_,h,_ => by omega
 | m + 1,j,hm,hj,hd,h,ha => by
   obtain ⟨x,hx,hh⟩:=(anc_iff hj (ok.back j hj)).1 ha
   have hxl:=hd x hx
   rcases hh with rfl | hh
   ·exact hxl
   ·have hxj:x < j:=by
     have:=ok.back j hj
     unfold depsBack at this
     unfold depB at hx
     rw [Array.getElem?_eq_getElem hj] at this hx
     simp only [Array.all_eq_true,Array.any_eq_true,Bool.or_eq_true,Bool.and_eq_true,decide_eq_true_eq,Bool.not_eq_true',beq_iff_eq] at this hx
     obtain ⟨i,hi,he,rfl⟩:=hx
     exact (this i hi).resolve_left (by rw [he]; simp)
    exact anc_listed ok cl m x (by omega) (by omega) (fun y hy => cl x y (by omega) hxl hy) h hh
theorem anc_trans (ok:InvOk ops I) {j x h:Nat} (hj:j < ops.size) (hx:depB ops j x=true) (hh:ancB ops x h=true):ancB ops j h=true:=(anc_iff hj (ok.back j hj)).2 ⟨x,hx,.inr hh⟩
theorem anc_dep (ok:InvOk ops I) {j x:Nat} (hj:j < ops.size) (hx:depB ops j x=true):ancB ops j x=true:=(anc_iff hj (ok.back j hj)).2 ⟨x,hx,.inl rfl⟩
theorem dep_lt (ok:InvOk ops I) {j x:Nat} (hj:j < ops.size) (hx:depB ops j x=true):x < j:=by
 have:=ok.back j hj
 unfold depsBack at this
 unfold depB at hx
 rw [Array.getElem?_eq_getElem hj] at this hx
 simp only [Array.all_eq_true,Array.any_eq_true,Bool.or_eq_true,Bool.and_eq_true,decide_eq_true_eq,Bool.not_eq_true',beq_iff_eq] at this hx
 obtain ⟨i,hi,he,rfl⟩:=hx
 exact (this i hi).resolve_left (by rw [he]; simp)
theorem anc_anc' (ok:InvOk ops I):∀ (m j:Nat),j < m→j < ops.size→∀ {h k:Nat},ancB ops j h=true→ancB ops h k=true→ancB ops j k=true
 | 0,j,hm,_,_,_,_,_ => by omega
 | m + 1,j,hm,hj,h,k,h1,h2 => by
   obtain ⟨x,hx,hh⟩:=(anc_iff hj (ok.back j hj)).1 h1
   rcases hh with rfl | hh
   ·exact anc_trans ok hj hx h2
   ·have hxj:=dep_lt ok hj hx
    exact anc_trans ok hj hx (anc_anc' ok m x (by omega) (by omega) hh h2)
theorem anc_anc (ok:InvOk ops I) {j h k:Nat} (hj:j < ops.size) (h1:ancB ops j h=true) (h2:ancB ops h k=true):ancB ops j k=true:=anc_anc' ok (j + 1) j (by omega) hj h1 h2
theorem look_same (ok:InvOk ops I) {j:Nat} {o:Oper} (ho:ops[j]?=some o) {V V':Nat→Value} {X Y:Nat→Bool}
 (hX:∀ x,x < ops.size→depB ops j x=true→X x=true∧Y x=true∧V x=V' x) (hno:∀ x,x < ops.size→(x=j∨depB ops x j=true)→X x=false∧Y x=false) :
 ∀ t ∈ o.looksAt ops,(putX ops V X (List.range ops.size) a).tmps[t]?=(putX ops V' Y (List.range ops.size) a).tmps[t]?:=by
 intro t ht
 have hj:j < ops.size:=(Array.getElem?_eq_some_iff.1 ho).1
 have htj:(lookOf ops j).contains t=true:=by unfold lookOf; rw [ho]; simpa using ht
 have cls:∀ x,x < ops.size→dstOf ops x=some t→depB ops j x=true∨x=j∨depB ops x j=true:=by
  intro x hx hd
  rcases Nat.lt_trichotomy x j with h | h | h
  ·have hp:=ok.pair j hj x h
   unfold pairOk at hp
   rw [hd] at hp
   simp only [Bool.and_eq_true,Bool.or_eq_true,htj,Bool.not_true,Bool.false_eq_true,false_or] at hp
   exact .inl hp.1.2
  ·exact .inr (.inl h)
  ·have hp:=ok.pair x hx j h
   unfold pairOk at hp
   rw [hd] at hp
   simp only [Bool.and_eq_true,Bool.or_eq_true,htj,Bool.not_true,Bool.false_eq_true,false_or] at hp
   exact .inr (.inr hp.2)
 have e1:(putX ops V X (List.range ops.size) a).tmps[t]?=(putX ops V (fun x => depB ops j x) (List.range ops.size) a).tmps[t]? :=
  putX_get _ a a (fun x hx hd => by
   have hxn:=List.mem_range.1 hx
   rcases cls x hxn hd with h | h
   ·rw [(hX x hxn h).1,h]
   ·rw [(hno x hxn h).1]
    cases hc:depB ops j x with
    | false => rfl
    | true => have:=(hno x hxn h).1; rw [(hX x hxn hc).1] at this; cases this) rfl rfl
 have e2:(putX ops V' Y (List.range ops.size) a).tmps[t]?=(putX ops V' (fun x => depB ops j x) (List.range ops.size) a).tmps[t]? :=
  putX_get _ a a (fun x hx hd => by
   have hxn:=List.mem_range.1 hx
   rcases cls x hxn hd with h | h
   ·rw [(hX x hxn h).2.1,h]
   ·rw [(hno x hxn h).2]
    cases hc:depB ops j x with
    | false => rfl
    | true => have:=(hno x hxn h).2; rw [(hX x hxn hc).2.1] at this; cases this) rfl rfl
 rw [e1,e2,putX_congr' (V':=V') _ _ (fun _ _ => rfl) (fun x hx hd => (hX x (List.mem_range.1 hx) hd).2.2)]
def Bat (ops:Array Oper) (a:Act) (u:Nat→Value) (L:Array Bool):Act:=putX ops u (fun x => L.getD x false) (List.range ops.size) a
theorem Bat_set (ok:InvOk ops I) {L:Array Bool} {j:Nat} {o:Oper} (ho:ops[j]?=some o) (hsz:L.size=ops.size) (hun:L.getD j false=false) (u:Nat→Value) (v:Value) :
 (Bat ops a u L).put o.dst v=Bat ops a (fun x => if x=j then v else u x) (L.setIfInBounds j true):=by
 have hj:j < ops.size:=(Array.getElem?_eq_some_iff.1 ho).1
 have hd:dstOf ops j=o.dst:=by simp [dstOf,ho]
 unfold Bat
 rw [putX_congr' (V':=fun x => if x=j then v else u x) (Y:=fun x => L.getD x false) (List.range ops.size) a (fun _ _ => rfl) (fun x _ hx => by
  have:x≠j:=fun e => by subst e; rw [hun] at hx; cases hx
  simp [this])]
 have:=putX_add (ops:=ops) (V:=fun x => if x=j then v else u x) (X:=fun x => L.getD x false) (j:=j) hun (List.range ops.size) a (List.mem_range.2 hj) List.nodup_range (fun x hx hne t ht => ok.distinct hj (List.mem_range.1 hx) hne t ht)
 simp only [if_true,hd] at this
 rw [← this]
 refine putX_congr _ _ (fun x _ => ?_) (fun _ _ => rfl)
 rw [getD_set (by omega)]
 by_cases h:x=j
 ·subst h; simp
 ·simp [h]
theorem tail_main (ok:InvOk ops I) {nb:Nat} (tb:∀ j,j < ops.size→nb≤j→floatAt ops j=false∧∀ x,x < j→floatAt ops x=false→ancB ops j x=true):∀ (k j fuel:Nat) (L:Array Bool) (b:Act) (w:World),j + k=ops.size→nb≤j→L.size=ops.size→(∀ x,x < ops.size→L.getD x false=decide (x < j))→k≤fuel →
 wpT P ops (NoPanic Q) (ops.toList.drop j) b w→wpAny P .any ops (NoPanic Q) fuel L b w
 | 0,j,fuel,L,b,w,hk,hj,hsz,hL,hf,h => by
   have hr:Region.ready .any ops L=[]:=by
    rw [List.eq_nil_iff_forall_not_mem]
    intro i hi
    obtain ⟨hin,hun,_⟩:=mem_ready.1 hi
    rw [getD_size (by rw [hsz]; exact hin) true false,hL i hin] at hun
    simp at hun
    omega
   rw [List.drop_eq_nil_of_le (by simp; omega)] at h
   exact wpAny_done hr h fuel
 | k + 1,j,0,L,b,w,hk,hj,hsz,hL,hf,h => by omega
 | k + 1,j,fuel + 1,L,b,w,hk,hj,hsz,hL,hf,h => by
   have hjn:j < ops.size:=by omega
   have cl:∀ y x,y < ops.size→L.getD y false=true→depB ops y x=true→L.getD x false=true:=by
    intro y x hy h1 h2
    rw [hL y hy] at h1
    have:=dep_lt ok hy h2
    rw [hL x (by omega)]
    simp at h1 ⊢
    omega
   have hr:∀ i ∈ Region.ready .any ops L,i=j:=by
    intro i hi
    obtain ⟨hin,hun,hdep⟩:=mem_ready.1 hi
    rw [getD_size (by rw [hsz]; exact hin) true false,hL i hin] at hun
    simp at hun
    rcases Nat.lt_or_eq_of_le hun with h1 | h1
    ·have h2:=anc_listed ok cl (i + 1) i (by omega) hin hdep j ((tb i hin (by omega)).2 j h1 (tb j hjn hj).1)
     rw [hL j hjn] at h2
     simp at h2
    ·exact h1.symm
   have hjr:j ∈ Region.ready .any ops L:=mem_ready.2 ⟨hjn,by rw [getD_size (by rw [hsz]; exact hjn) true false,hL j hjn]; simp,fun x hx => by
    have:=dep_lt ok hjn hx
    rw [hL x (by omega)]
    simpa using this⟩
   refine ⟨fun h0 => by rw [h0] at hjr; simp at hjr,fun i hi => ?_⟩
   obtain rfl:=hr i hi
   obtain ⟨o,ho⟩:∃ o,ops[i]?=some o:=⟨_,Array.getElem?_eq_getElem hjn⟩
   have hd:ops.toList.drop i=o :: ops.toList.drop (i + 1):=by
    rw [List.drop_eq_getElem_cons (by simpa using hjn)]
    congr 1
    have:=(Array.getElem?_eq_some_iff.1 ho).2
    simpa using this
   rw [hd] at h
   unfold wpT at h
   have next:∀ b' w',wpT P ops (NoPanic Q) (ops.toList.drop (i + 1)) b' w'→wpAny P .any ops (NoPanic Q) fuel (L.setIfInBounds i true) b' w':=fun b' w' h' =>
    tail_main ok tb k (i + 1) fuel _ b' w' (by omega) (by omega) (by simpa using hsz) (fun x hx => by
     rw [getD_set (by omega),hL x hx]
     by_cases hxi:x=i
     ·subst hxi; simp
     ·rw [if_neg hxi]
      by_cases h2:x < i
      ·simp [h2]; omega
      ·simp [h2]; omega) (by omega) h'
   unfold wpOp
   rw [ho]
   simp only
   split
   ·rename_i hw
    rw [if_pos hw] at h
    exact .inl (Oper.wp_mono next h)
   ·rename_i hw
    rw [if_neg hw] at h
    exact next _ _ h
theorem inv_main (ok:InvOk ops I) (hnb:I.nb≤ops.size) (htl:I.tl=ops.toList.drop I.nb) (htb:tailB ops I.nb=true) (hS:∀ b ∈ I.S,b < I.w0.heap.size)
 (hof:OfOk ops I) (hR:∀ j p v (w w':World) T,Upd I.S I.w0 w→I.R j p v w→Upd T w w'→(∀ b ∈ T,b ∉ I.fp j v)→(∀ b ∈ T,b ∈ I.S∨I.w0.heap.size≤b)→((∀ j,I.con j=[]∧I.ch j=false)→T=[])→I.R j p v w')
 (hK:∀ s (w w':World) T,I.K s w→Upd T w w'→(∀ b ∈ T,I.w0.heap.size≤b)→I.K s w')
 (hadm:∀ j p v w,I.R j p v w→I.adm j v) (hflat:∀ e:Nat→Value,(∀ h,lightAt ops h=false→I.adm h (e h))→∃ V,(∀ h,h < I.nb→lightAt ops h=false→V h=e h)∧Flat P ops I (NoPanic Q) a V) :
 ∀ (fuel:Nat) (L:Array Bool) (u:Nat→Value) (w:World),StI P ops I (NoPanic Q) a L u w→((List.range ops.size).filter (fun x => !L.getD x false)).length≤fuel→wpAny P .any ops (NoPanic Q) fuel L (Bat ops a u L) w:=by
 intro fuel
 have tb:∀ j,j < ops.size→I.nb≤j→floatAt ops j=false∧∀ x,x < j→floatAt ops x=false→ancB ops j x=true:=by
  intro j hj hjn
  unfold tailB at htb
  rw [Bool.and_eq_true] at htb
  have:=List.all_eq_true.1 htb.2 j (List.mem_range.2 hj)
  simp only [Bool.or_eq_true,Bool.and_eq_true,decide_eq_true_eq,List.all_eq_true,List.mem_range,Bool.not_eq_true'] at this
  rcases this with h | h
  ·omega
  ·exact ⟨h.1,fun x hx hf => (h.2 x hx).resolve_left (by rw [hf]; simp)⟩
 have last:∀ (fuel:Nat) (L:Array Bool) (u:Nat→Value) (w:World),StI P ops I (NoPanic Q) a L u w→(∀ m,m < I.nb→L.getD m false=true)→ops.size - I.nb≤fuel→wpAny P .any ops (NoPanic Q) fuel L (Bat ops a u L) w:=by
  intro fuel L u w st hall hfu
  obtain ⟨V,hV,hf,he⟩:=hflat u st.i7
  have hVu:∀ x,x < I.nb→V x=u x:=fun x hx => by
   cases hl:lightAt ops x with
   | false => exact hV x hx hl
   | true => exact st.i6 x hx hl (hall x hx) V ⟨hf,he⟩ fun h hh hhl _ => hV h hh hhl
  have hL:∀ x,x < ops.size→L.getD x false=decide (x < I.nb):=fun x hx => by
   by_cases h:x < I.nb
   ·rw [hall x h]; simp [h]
   ·rw [st.tl x (by omega)]; simp [h]
  have hb:Bat ops a u L=Aat ops a V I.nb:=by
   unfold Bat Aat
   exact putX_congr' _ _ (fun x hx => hL x (List.mem_range.1 hx)) (fun x hx hx2 => (hVu x (by rw [hL x (List.mem_range.1 hx)] at hx2; simpa using hx2)).symm)
  rw [hb]
  refine tail_main ok tb (ops.size - I.nb) I.nb fuel L _ w (by omega) (Nat.le_refl _) st.sz hL hfu ?_
  rw [← htl]
  refine he w st.i1 ?_ (facts_of _ fun p hp hok => ?_)
  ·have:(List.range I.nb).filter (fun x => I.ch x && L.getD x false)=(List.range I.nb).filter I.ch:=List.filter_congr fun x hx => by rw [hall x (List.mem_range.1 hx),Bool.and_true]
   have h2:=st.i2
   rw [this] at h2
   exact h2
  ·obtain ⟨h1,h2,h3⟩:=mem_Gat hp
   have hpar:parV I (Gat ops V I.nb) p.1 p.2=u (I.of p.1):=by
    unfold parV
    rcases hof p.1 (by omega) with e | ⟨e1,e2,e3,e4⟩
    ·rw [if_pos e,h3,e,hVu _ h1]
    ·rw [if_neg (by omega),look_Gat e1 e3,hVu _ e1]
   rw [hpar,h3,hVu _ h1]
   refine st.i3 _ ⟨h1,h2,hall _ h1,fun y hy _ => ?_⟩
   unfold endB at hok
   have:=List.all_eq_true.1 hok y (List.mem_range.2 (by omega))
   simpa using this
 induction fuel with
 | zero =>
   intro L u w st hf
   have hno:∀ x,x < ops.size→L.getD x false=true:=by
    intro x hx
    have h0:(List.range ops.size).filter (fun x => !L.getD x false)=[]:=List.length_eq_zero_iff.1 (by omega)
    rw [List.filter_eq_nil_iff] at h0
    have:=h0 x (List.mem_range.2 hx)
    simpa using this
   refine last 0 L u w st (fun m hm => hno m (by omega)) ?_
   rcases Nat.lt_or_ge I.nb ops.size with h | h
   ·have h1:=hno I.nb h
    rw [st.tl I.nb (Nat.le_refl _)] at h1
    cases h1
   ·omega
 | succ fuel ih =>
   intro L u w st hf
   by_cases hbody:∀ m,m < I.nb→L.getD m false=true
   ·refine last (fuel + 1) L u w st hbody (Nat.le_trans ?_ hf)
    have h1:List.range ops.size=List.range I.nb ++ (List.range (ops.size - I.nb)).map (I.nb + ·):=by
     rw [← List.range_add]; congr 1; omega
    have h2:((List.range (ops.size - I.nb)).map (I.nb + ·)).filter (fun x => !L.getD x false)=(List.range (ops.size - I.nb)).map (I.nb + ·):=List.filter_eq_self.2 (fun x hx => by
     obtain ⟨y,_,rfl⟩:=List.mem_map.1 hx
     show (!L.getD (I.nb + y) false)=true
     rw [st.tl _ (by omega)]; rfl)
    rw [h1,List.filter_append,List.length_append,h2]
    simp
   refine ⟨fun hr => ?_,fun j hj => ?_⟩
   ·exfalso
    apply hbody
    intro m
    induction m using Nat.strongRecOn with
    | _ m ihm =>
      intro hm
      cases hc:L.getD m false with
      | true => rfl
      | false =>
        exfalso
        have:m ∈ Region.ready .any ops L:=mem_ready.2 ⟨by omega,by rw [getD_size (by rw [st.sz]; omega) true false]; exact hc,fun x hx => ihm x (dep_lt ok (by omega) hx) (by have:=dep_lt ok (j:=m) (by omega) hx; omega)⟩
        rw [hr] at this
        simp at this
   obtain ⟨hjn,hun0,hdep⟩:=mem_ready.1 hj
   have hun:L.getD j false=false:=by rw [getD_size (by rw [st.sz]; exact hjn) false true]; exact hun0
   obtain ⟨o,ho⟩:∃ o,ops[j]?=some o:=⟨_,Array.getElem?_eq_getElem hjn⟩
   have hla:=lightAt_some ho
   obtain ⟨V,hV,hF⟩:=hflat u st.i7
   have ancl:=anc_listed ok st.cl (j + 1) j (by omega) hjn hdep
   have hjb:j < I.nb:=by
    rcases Nat.lt_or_ge j I.nb with h | h
    ·exact h
    ·exfalso
     refine hbody fun x hx => ?_
     cases hfx:floatAt ops x with
     | true => exact st.fl x hfx
     | false => exact ancl x ((tb j hjn h).2 x (by omega) hfx)
   have ancl':∀ y,y < ops.size→L.getD y false=true→∀ h,ancB ops y h=true→L.getD h false=true:=fun y hy hyl => anc_listed ok st.cl (y + 1) y (by omega) hy (fun x hx => st.cl y x hy hyl hx)
   have hxb:∀ x,L.getD x false=true→x < I.nb:=fun x hx => by
    rcases Nat.lt_or_ge x I.nb with h | h
    ·exact h
    ·rw [st.tl x h] at hx; cases hx
   have hVu:∀ x,x < ops.size→L.getD x false=true→V x=u x:=fun x hx hxl => by
    cases hl:lightAt ops x with
    | false => exact hV x (hxb x hxl) hl
    | true => exact st.i6 x (hxb x hxl) hl hxl V hF fun h hh hhl _ => hV h hh hhl
   have noAnc:∀ y,y < ops.size→ancB ops y j=true→L.getD y false=false:=fun y hy ha => by
    cases hc:L.getD y false with
    | false => rfl
    | true => have:=ancl' y hy hc j ha; rw [hun] at this; cases this
   have later:∀ x,x < ops.size→(x=j∨depB ops x j=true)→L.getD x false=false:=fun x hx h => by
    rcases h with rfl | h
    ·exact hun
    ·exact noAnc x hx (anc_dep ok hx h)
   have notlt:∀ x,x < ops.size→(x=j∨depB ops x j=true)→¬ x < j:=fun x hx h => by
    rcases h with rfl | h
    ·omega
    ·have:=dep_lt ok hx h; omega
   have agree:=look_same (a:=a) ok ho (V:=V) (V':=u) (X:=fun x => decide (x < j)) (Y:=fun x => L.getD x false)
    (fun x hx hd => ⟨by simpa using dep_lt ok hjn hd,hdep x hd,hVu x hx (hdep x hd)⟩) (fun x hx h => ⟨by simpa using notlt x hx h,later x hx h⟩)
   obtain ⟨hex,hwt⟩:=look_congr agree (fun cs b => ok.sel j o cs b ho)
   change execOp (Aat ops a V j).eval o=execOp (Bat ops a u L).eval o at hex
   change Region.wanted o (yielded ops (Aat ops a V j).tmps)=Region.wanted o (yielded ops (Bat ops a u L).tmps) at hwt
   have h2of:∀ h,Live ops I L h→h≠j→I.of h≠j:=fun h hl hne e => by
    rcases hof h (by have:=hl.1; omega) with e1 | ⟨_,_,_,e4⟩
    ·exact hne (e1.symm.trans e)
    ·have:=anc_listed ok st.cl (h + 1) h (by omega) (by have:=hl.1; omega) (fun x hx => st.cl h x (by have:=hl.1; omega) hl.2.2.1 hx) j (e ▸ e4)
     rw [hun] at this; cases this
   have live_of:∀ (V':Nat→Value),(∀ h,h < I.nb→lightAt ops h=false→ancB ops j h=true→V' h=u h)→factsV I (availB ops I.con j) (Gat ops V' j) w:=by
    intro V' hV'
    refine facts_of _ fun p hp hok => ?_
    obtain ⟨h1,h2,h3⟩:=mem_Gat hp
    unfold availB at hok
    rw [Bool.and_eq_true,List.all_eq_true] at hok
    have hpar:parV I (Gat ops V' j) p.1 p.2=u (I.of p.1):=by
     unfold parV
     rcases hof p.1 (by omega) with e | ⟨e1,e2,e3,e4⟩
     ·rw [if_pos e,h3,e,hV' _ (by omega) h2 hok.1]
     ·rw [if_neg (by omega),look_Gat (by omega) e3,hV' _ e1 e3 (anc_anc ok hjn hok.1 e4)]
    rw [hpar,h3,hV' _ (by omega) h2 hok.1]
    refine st.i3 _ ⟨by omega,h2,ancl _ hok.1,fun y hy hyl hm => ?_⟩
    have:=hok.2 y (List.mem_range.2 (by omega))
    simp only [Bool.or_eq_true,Bool.not_eq_true',beq_iff_eq] at this
    rcases this with (h4 | h4) | h4
    ·simp at h4; exact h4 hm
    ·subst h4; rw [hun] at hyl; cases hyl
    ·rw [noAnc y (by omega) h4] at hyl; cases hyl
   have hfacts:=live_of V (fun h hh hhl _ => hV h hh hhl)
   have hOb:=hF.1 j hjb o ho
   have hsz':(L.setIfInBounds j true).size=ops.size:=by simpa using st.sz
   have hjL:j < L.size:=by rw [st.sz]; exact hjn
   have cl':∀ y x,y < ops.size→(L.setIfInBounds j true).getD y false=true→depB ops y x=true→(L.setIfInBounds j true).getD x false=true:=by
    intro y x hy h1 h2
    rw [getD_set hjL] at h1 ⊢
    by_cases hxj:x=j
    ·rw [if_pos hxj]
    ·rw [if_neg hxj]
     by_cases hyj:y=j
     ·subst hyj; exact hdep x h2
     ·rw [if_neg hyj] at h1
      exact st.cl y x hy h1 h2
   have hfuel:((List.range ops.size).filter (fun x => !(L.setIfInBounds j true).getD x false)).length≤fuel:=by
    have h1:(List.range ops.size).filter (fun x => !(L.setIfInBounds j true).getD x false)=((List.range ops.size).filter (fun x => !L.getD x false)).filter (fun x => x != j):=by
     rw [List.filter_filter]
     apply List.filter_congr
     intro x _
     rw [getD_set hjL]
     by_cases h:x=j
     ·subst h; simp
     ·simp [h]
    have hmem:j ∈ (List.range ops.size).filter (fun x => !L.getD x false):=List.mem_filter.2 ⟨List.mem_range.2 hjn,by simp [hun]⟩
    have h2:(((List.range ops.size).filter (fun x => !L.getD x false)).filter (fun x => x != j)).length < ((List.range ops.size).filter (fun x => !L.getD x false)).length:=by
     rw [List.length_filter_lt_length_iff_exists]
     exact ⟨j,hmem,by simp⟩
    rw [h1]
    omega
   have i6':∀ v,(lightAt ops j=true→∀ V',Flat P ops I (NoPanic Q) a V'→(∀ h,h < I.nb→lightAt ops h=false→ancB ops j h=true→V' h=u h)→V' j=v) →
    ∀ i,i < I.nb→lightAt ops i=true→(L.setIfInBounds j true).getD i false=true→∀ V',Flat P ops I (NoPanic Q) a V'→(∀ h,h < I.nb→lightAt ops h=false→ancB ops i h=true→V' h=(if h=j then v else u h))→V' i=(if i=j then v else u i):=by
    intro v hv i hi hil hl V' hV' hag
    rw [getD_set hjL] at hl
    by_cases hij:i=j
    ·subst hij
     rw [if_pos rfl]
     refine hv hil V' hV' fun h hh hhl ha => ?_
     have:=hag h hh hhl ha
     rwa [if_neg (fun e => by subst e; rw [hil] at hhl; cases hhl)] at this
    ·rw [if_neg hij] at hl ⊢
     refine st.i6 i hi hil hl V' hV' fun h hh hhl ha => ?_
     have:=hag h hh hhl ha
     rwa [if_neg (fun e => by subst e; have:=ancl' i (by omega) hl h ha; rw [hun] at this; cases this)] at this
   cases hlo:lightOp o.op with
   | true =>
     rw [hlo] at hOb hla
     simp only [if_true] at hOb
     have hcj:=ok.light j hjn hla
     have hrun:=hOb w st.i1 hfacts
     have hlive:∀ h,Live ops I (L.setIfInBounds j true) h→Live ops I L h∧h≠j:=by
      rintro h ⟨h1,h2,h3,h4⟩
      have hne:h≠j:=fun e => by subst e; rw [hla] at h2; cases h2
      rw [getD_set hjL,if_neg hne] at h3
      refine ⟨⟨h1,h2,h3,fun y hy hyl => h4 y hy ?_⟩,hne⟩
      rw [getD_set hjL]
      split
      ·rfl
      ·exact hyl
     have next:wpAny P .any ops (NoPanic Q) fuel (L.setIfInBounds j true) ((Bat ops a u L).put o.dst (V j)) w:=by
      rw [Bat_set ok ho st.sz hun]
      refine ih _ _ w ⟨hsz',cl',st.i1,?_,fun h hh => ?_,fun h hh => ?_,fun h h' hh hh' => ?_,fun h hl => by simp only [if_neg (fun (e:h=j) => by subst e; rw [hla] at hl; cases hl)]; exact st.i7 h hl,fun i hi => by rw [getD_set hjL,if_neg (by omega)]; exact st.tl i hi,fun i hi => by rw [getD_set hjL]; split; (· rfl); (· exact st.fl i hi),i6' (V j) ?_⟩ hfuel
      ·have:(List.range I.nb).filter (fun x => I.ch x && (L.setIfInBounds j true).getD x false)=(List.range I.nb).filter (fun x => I.ch x && L.getD x false):=List.filter_congr fun x _ => by
        rw [getD_set hjL]
        by_cases h:x=j
        ·subst h; simp [hcj.2]
        ·rw [if_neg h]
       have h2:=st.i2
       rw [← this] at h2
       exact h2
      ·obtain ⟨h1,h2⟩:=hlive h hh
       have hofj:I.of h≠j:=fun e => h2of h h1 h2 e
       simp only [if_neg h2,if_neg hofj]
       exact st.i3 h h1
      ·obtain ⟨h1,h2⟩:=hlive h hh
       simp only [if_neg h2]
       exact st.i4 h h1
      ·obtain ⟨h1,h2⟩:=hlive h hh
       obtain ⟨h3,h4⟩:=hlive h' hh'
       simp only [if_neg h2,if_neg h4]
       exact st.i5 h h' h1 h3
      ·intro _ V' hV' hag
       have hrun':=hV'.1 j hjb o ho
       rw [hlo] at hrun'
       simp only [if_true] at hrun'
       have hrun':=hrun' w st.i1 (live_of V' hag)
       have hVV:∀ x,x < ops.size→depB ops j x=true→V' x=V x:=fun x hx hd => by
        rw [hVu x hx (hdep x hd)]
        cases hl:lightAt ops x with
        | false => exact hag x (hxb x (hdep x hd)) hl (anc_dep ok hjn hd)
        | true => exact st.i6 x (hxb x (hdep x hd)) hl (hdep x hd) V' hV' fun h hh hhl ha => hag h hh hhl (anc_trans ok hjn hd ha)
       have agree':=look_same (a:=a) ok ho (V:=V') (V':=V) (X:=fun x => decide (x < j)) (Y:=fun x => decide (x < j))
        (fun x hx hd => ⟨by simpa using dep_lt ok hjn hd,by simpa using dep_lt ok hjn hd,hVV x hx hd⟩) (fun x hx h => ⟨by simpa using notlt x hx h,by simpa using notlt x hx h⟩)
       obtain ⟨hex',hwt'⟩:=look_congr agree' (fun cs b => ok.sel j o cs b ho)
       change execOp (Aat ops a V' j).eval o=execOp (Aat ops a V j).eval o at hex'
       change Region.wanted o (yielded ops (Aat ops a V' j).tmps)=Region.wanted o (yielded ops (Aat ops a V j).tmps) at hwt'
       rw [hex',hwt'] at hrun'
       cases hw:Region.wanted o (yielded ops (Aat ops a V j).tmps) with
       | false =>
         rw [hw] at hrun hrun'
         simp only [Bool.false_eq_true,if_false] at hrun hrun'
         rw [hrun,hrun']
       | true =>
         rw [hw] at hrun hrun'
         simp only [if_true] at hrun hrun'
         unfold litStep at hrun hrun'
         cases hr:(execOp (Aat ops a V j).eval o).run P w with
         | ok n w' =>
           rw [hr] at hrun hrun'
           cases n with
           | value v => exact hrun'.2.symm.trans hrun.2
           | _ => exact hrun.elim
         | halt x w' => rw [hr] at hrun; exact hrun.elim
     unfold wpOp
     rw [ho]
     simp only
     rw [← hwt]
     cases hw:Region.wanted o (yielded ops (Aat ops a V j).tmps) with
     | false =>
       rw [hw] at hrun
       simp only [Bool.false_eq_true,if_false] at hrun ⊢
       rw [hrun] at next
       exact next
     | true =>
       rw [hw] at hrun
       simp only [if_true] at hrun ⊢
       left
       unfold litStep at hrun
       unfold Oper.wp
       rw [← hex]
       cases hr:(execOp (Aat ops a V j).eval o).run P w with
       | ok n w' =>
         rw [hr] at hrun
         cases n with
         | value v =>
           obtain ⟨rfl,rfl⟩:=hrun
           exact next
         | _ => exact hrun.elim
       | halt x w' => rw [hr] at hrun; exact hrun.elim
   | false =>
     rw [hlo] at hOb hla
     simp only [Bool.false_eq_true,if_false] at hOb
     have hcnt:I.ch j=true→((List.range I.nb).filter (fun x => I.ch x && L.getD x false)).length=sat I j:=by
      intro hc
      unfold sat
      have h1:(List.range I.nb).filter (fun x => I.ch x && L.getD x false)=(List.range I.nb).filter (fun x => I.ch x && decide (x < j)):=List.filter_congr fun x hx => by
       cases hcx:I.ch x with
       | false => rfl
       | true =>
         simp only [Bool.true_and]
         have hxn:=List.mem_range.1 hx
         rcases Nat.lt_trichotomy x j with h | h | h
         ·rw [ancl x (ok.chain j hjn x h hcx hc)]
          simpa using h
         ·subst h; rw [hun]; simp
         ·rw [noAnc x (by omega) (ok.chain x (by omega) j h hc hcx)]
          simp; omega
      rw [h1]
      have h2:List.range I.nb=List.range j ++ (List.range (I.nb - j)).map (j + ·):=by
       rw [← List.range_add]; congr 1; omega
      rw [h2,List.filter_append,List.length_append]
      have h3:((List.range (I.nb - j)).map (j + ·)).filter (fun x => I.ch x && decide (x < j))=[]:=by
       rw [List.filter_eq_nil_iff]
       intro x hx
       obtain ⟨y,_,rfl⟩:=List.mem_map.1 hx
       simp
      rw [h3]
      simp only [List.length_nil,Nat.add_zero]
      congr 1
      apply List.filter_congr
      intro x hx
      rw [decide_eq_true (List.mem_range.1 hx),Bool.and_true]
     have hob:=hOb w st.i1 (fun hc => by rw [← hcnt hc]; exact st.i2) hfacts
     have used:∀ b ∈ usedV I j (Gat ops V j),∃ h,h ∈ I.con j∧Live ops I L h∧b ∈ I.fp h (u h):=by
      intro b hb
      obtain ⟨p,hp,hc,hbp⟩:=mem_used hb
      obtain ⟨h1,h2,h3⟩:=mem_Gat hp
      obtain ⟨c1,c2,c3⟩:=ok.con j hjn _ hc
      refine ⟨p.1,hc,⟨hxb _ (ancl _ c3),c2,ancl _ c3,fun y hy hyl hm => ?_⟩,?_⟩
      ·exact ok.once j hjn y (by omega) (fun e => by subst e; rw [hun] at hyl; cases hyl) _ hc hm
      ·rw [h3,hV _ (hxb _ (ancl _ c3)) c2] at hbp
       exact hbp
     have uge:∀ b ∈ usedV I j (Gat ops V j),I.w0.heap.size≤b∧b < w.heap.size:=fun b hb => by
      obtain ⟨h,_,hl,hbf⟩:=used b hb
      exact st.i4 h hl b hbf
     have next:∀ v w',outV I j (sat I j) (Gat ops V j) w v w'→wpAny P .any ops (NoPanic Q) fuel (L.setIfInBounds j true) ((Bat ops a u L).put o.dst v) w':=by
      rintro v w' ⟨r1,r2,r3,r4⟩
      have hT:∀ b ∈ (if I.ch j=true then I.S ++ usedV I j (Gat ops V j) else usedV I j (Gat ops V j)),b ∈ I.S∨I.w0.heap.size≤b:=by
       intro b hb
       split at hb
       ·rcases List.mem_append.1 hb with h | h
        ·exact .inl h
        ·exact .inr (uge b h).1
       ·exact .inr (uge b hb).1
      have hT2:∀ b ∈ (if I.ch j=true then I.S ++ usedV I j (Gat ops V j) else usedV I j (Gat ops V j)),b ∈ usedV I j (Gat ops V j)∨b ∈ I.S:=by
       intro b hb
       split at hb
       ·exact (List.mem_append.1 hb).symm
       ·exact .inl hb
      have hlive:∀ h,Live ops I (L.setIfInBounds j true) h→h=j∨(Live ops I L h∧h≠j∧h ∉ I.con j):=by
       rintro h ⟨h1,h2,h3,h4⟩
       by_cases hne:h=j
       ·exact .inl hne
       ·rw [getD_set hjL,if_neg hne] at h3
        refine .inr ⟨⟨h1,h2,h3,fun y hy hyl => h4 y hy ?_⟩,hne,h4 j hjb (by rw [getD_set hjL,if_pos rfl])⟩
        rw [getD_set hjL]
        split
        ·rfl
        ·exact hyl
      have apart:∀ h,Live ops I L h→h ∉ I.con j→∀ b ∈ usedV I j (Gat ops V j),b ∉ I.fp h (u h):=by
       intro h hl hnc b hb
       obtain ⟨h',hc',hl',hbf⟩:=used b hb
       exact st.i5 h' h hl' hl (fun e => by subst e; exact hnc hc') b hbf
      rw [Bat_set ok ho st.sz hun]
      refine ih _ _ w' ⟨hsz',cl',st.i1.trans' r3 hT,?_,fun h hh => ?_,fun h hh => ?_,fun h h' hh hh' hne => ?_,fun h hl => ?_,fun i hi => by rw [getD_set hjL,if_neg (by omega)]; exact st.tl i hi,fun i hi => by rw [getD_set hjL]; split; (· rfl); (· exact st.fl i hi),i6' v ?_⟩ hfuel
      ·cases hc:I.ch j with
       | true =>
         have:((List.range I.nb).filter (fun x => I.ch x && (L.setIfInBounds j true).getD x false)).length=((List.range I.nb).filter (fun x => I.ch x && L.getD x false)).length + 1:=by
          have h2:List.range I.nb=List.range j ++ j :: (List.range (I.nb - j - 1)).map (j + 1 + ·):=by
           have e1:List.range I.nb=List.range (j + 1) ++ (List.range (I.nb - j - 1)).map (j + 1 + ·):=by
            rw [← List.range_add]; congr 1; omega
           rw [e1,List.range_succ,List.append_assoc]; rfl
          rw [h2]
          simp only [List.filter_append,List.filter_cons,List.length_append]
          rw [getD_set hjL,if_pos rfl,hc,hun]
          simp only [Bool.and_true,if_true,Bool.and_false,Bool.false_eq_true,if_false,List.length_cons]
          have h3:∀ (l:List Nat),j ∉ l→l.filter (fun x => I.ch x && (L.setIfInBounds j true).getD x false)=l.filter (fun x => I.ch x && L.getD x false):=fun l hl => List.filter_congr fun x hx => by
           rw [getD_set hjL,if_neg (fun (e:x=j) => hl (e ▸ hx))]
          rw [h3 _ (by simp),h3 _ (by simp; omega)]
          omega
         rw [this,hcnt hc]
         exact r4 hc
       | false =>
         have:(List.range I.nb).filter (fun x => I.ch x && (L.setIfInBounds j true).getD x false)=(List.range I.nb).filter (fun x => I.ch x && L.getD x false):=List.filter_congr fun x _ => by
          rw [getD_set hjL]
          by_cases h:x=j
          ·subst h; simp [hc]
          ·rw [if_neg h]
         rw [this]
         rw [hc] at r3
         simp only [Bool.false_eq_true,if_false] at r3
         exact hK _ _ _ _ st.i2 r3 fun b hb => (uge b hb).1
      ·rcases hlive h hh with rfl | ⟨h1,h2,h3⟩
       ·have hpar:parV I (Gat ops V h) h v=(if I.of h=h then v else u (I.of h)):=by
         unfold parV
         rcases hof h hjn with e | ⟨e1,e2,e3,e4⟩
         ·rw [if_pos e,if_pos e]
         ·rw [if_neg (by omega),if_neg (by omega),look_Gat e2 e3,hV _ e1 e3]
        rw [hpar] at r1
        simp only [if_pos]; exact r1
       ·have hofj:I.of h≠j:=fun e => h2of h h1 h2 e
        simp only [if_neg h2,if_neg hofj]
        refine hR h _ _ _ _ _ st.i1 (st.i3 h h1) r3 (fun b hb => ?_) hT (fun hall => by rw [if_neg (by rw [(hall j).2]; simp),usedV_none (hall j).1])
        rcases hT2 b hb with h4 | h4
        ·exact apart h h1 h3 b h4
        ·intro h5
         have:=(st.i4 h h1 b h5).1
         have:=hS b h4
         omega
      ·rcases hlive h hh with rfl | ⟨h1,h2,h3⟩
       ·simp only [if_pos]
        intro b hb
        rcases r2 b hb with h4 | h4
        ·have:=uge b h4
         exact ⟨this.1,Nat.lt_of_lt_of_le this.2 r3.size⟩
        ·exact ⟨Nat.le_trans st.i1.size h4.1,h4.2⟩
       ·simp only [if_neg h2]
        intro b hb
        have:=st.i4 h h1 b hb
        exact ⟨this.1,Nat.lt_of_lt_of_le this.2 r3.size⟩
      ·have sym:∀ h,(Live ops I L h∧h≠j∧h ∉ I.con j)→∀ b ∈ I.fp j v,b ∉ I.fp h (u h):=by
        rintro h ⟨h1,h2,h3⟩ b hb h4
        rcases r2 b hb with h5 | h5
        ·exact apart h h1 h3 b h5 h4
        ·have:=(st.i4 h h1 b h4).2
         omega
       rcases hlive h hh with e | h1
       ·rcases hlive h' hh' with e' | h1'
        ·exact absurd (e.trans e'.symm) hne
        ·subst e
         simp only [if_pos,if_neg h1'.2.1]
         exact sym h' h1'
       ·rcases hlive h' hh' with e' | h1'
        ·subst e'
         simp only [if_pos,if_neg h1.2.1]
         intro b hb hb'
         exact sym h h1 b hb' hb
        ·simp only [if_neg h1.2.1,if_neg h1'.2.1]
         exact st.i5 h h' h1.1 h1'.1 hne
      ·show I.adm h (if h=j then v else u h)
       split
       ·rename_i e; subst e; exact hadm _ _ _ _ r1
       ·exact st.i7 h hl
      ·intro hl
       rw [hla] at hl
       cases hl
     unfold wpOp
     rw [ho]
     simp only
     rw [← hwt]
     cases hw:Region.wanted o (yielded ops (Aat ops a V j).tmps) with
     | false =>
       rw [hw] at hob
       simp only [Bool.false_eq_true,if_false] at hob ⊢
       exact next _ _ hob
     | true =>
       rw [hw] at hob
       simp only [if_true] at hob ⊢
       left
       refine wp_transfer hex (fun v w' hz => next v w' hz) (fun v v' e => ?_) hob
       cases hd:o.dst with
       | none => rfl
       | some t =>
         rw [hd] at e
         simp only [Act.put] at e ⊢
         have e2:=congrArg Act.tmps e
         simp only at e2
         have hsz2:(Aat ops a V j).tmps.size=(Bat ops a u L).tmps.size:=by
          have key:∀ (l:List Nat) (V:Nat→Value) (X:Nat→Bool) (b:Act),(putX ops V X l b).tmps.size=b.tmps.size:=by
           intro l
           induction l with
           | nil => intro V X b; rfl
           | cons i l ihl =>
             intro V X b
             unfold putX
             rw [ihl]
             split
             ·exact put_size _ _ _
             ·rfl
          unfold Aat Bat
          rw [key,key]
         by_cases ht:t < (Aat ops a V j).tmps.size
         ·have e3:((Aat ops a V j).tmps.setIfInBounds t v)[t]?=((Aat ops a V j).tmps.setIfInBounds t v')[t]?:=by rw [e2]
          simp only [Array.getElem?_setIfInBounds_self,ht,if_true] at e3
          rw [Option.some.inj e3]
         ·have h1:∀ x:Value,(Bat ops a u L).tmps.setIfInBounds t x=(Bat ops a u L).tmps:=fun x => by
           rw [Array.setIfInBounds_eq_of_size_le (by rw [← hsz2]; exact Nat.le_of_not_lt ht)]
          rw [h1,h1]
def uF (ops:Array Oper) (a:Act) (i:Nat):Value:=match ops[i]? with | some o => (match o.op with | .move x => a.eval x | _ => undef) | none => undef
theorem float_look (ok:InvOk ops I) {i k:Nat} (hi:i < ops.size) (hk:k < ops.size) (fk:floatAt ops k=true) (t:Tmp) (h:dstOf ops i=some t) (hik:i≠k∧(floatAt ops i=true∨i < k)):(lookOf ops k).contains t=false:=by
 have nodep:∀ {x:Nat} (y:Nat),floatAt ops x=true→depB ops x y=false:=by
  intro x y hx
  unfold floatAt at hx
  unfold depB
  cases ho:ops[x]? with
  | none => rfl
  | some o =>
    rw [ho] at hx
    simp only [Option.map_some,Option.getD_some] at hx
    unfold isFloat at hx
    simp only [Bool.and_eq_true] at hx
    have h7:=hx.2
    simp only
    rw [Array.all_eq_true] at h7
    rw [Array.any_eq_false]
    intro i hi
    have:=h7 i hi
    cases hb:Region.binds .any o.after[i] with
    | false => simp
    | true => rw [hb] at this; cases this
 cases hc:(lookOf ops k).contains t with
 | false => rfl
 | true =>
   exfalso
   rcases Nat.lt_or_gt_of_ne hik.1 with h1 | h1
   ·have hp:=ok.pair k hk i h1
    unfold pairOk at hp
    rw [h] at hp
    simp only [hc,nodep i fk] at hp
    simp at hp
   ·have hf:floatAt ops i=true:=hik.2.resolve_right (by omega)
    have hp:=ok.pair i hi k h1
    unfold pairOk at hp
    rw [h] at hp
    simp only [hc,nodep k hf] at hp
    simp at hp
theorem putX_cons {V:Nat→Value} {X:Nat→Bool} (i:Nat) (l:List Nat) (b:Act):putX ops V X (i :: l) b=putX ops V X l (if X i then b.put (dstOf ops i) (V i) else b):=rfl
theorem putX_filter {V:Nat→Value} {X:Nat→Bool}:∀ (l:List Nat) (b:Act),putX ops V X l b=putX ops V (fun _ => true) (l.filter X) b
 | [],_ => rfl
 | i :: l,b => by
   rw [List.filter_cons,putX_cons]
   cases h:X i with
   | true =>
     simp only [if_true,putX_cons]
     exact putX_filter l _
   | false =>
     simp only [Bool.false_eq_true,if_false]
     exact putX_filter l _
theorem eval_put {b:Act} {d:Option Tmp} {v:Value} {x:Operand} (h:∀ t,d=some t→x≠.tmp t):(b.put d v).eval x=b.eval x:=Act.eval_put h
theorem putM_floats (ok:InvOk ops I):∀ (F:List Nat) (b:Act),F.Nodup→(∀ i ∈ F,floatAt ops i=true)→(∀ i ∈ F,uF ops b i=uF ops a i)→putM ops F b=putX ops (uF ops a) (fun _ => true) F b
 | [],b,_,_,_ => rfl
 | i :: F,b,hnd,hF,hu => by
   rw [List.nodup_cons] at hnd
   have fi:=hF i (List.mem_cons_self ..)
   unfold putM putX
   simp only [if_true]
   have hf2:=fi
   unfold floatAt at hf2
   cases ho:ops[i]? with
   | none => rw [ho] at hf2; cases hf2
   | some o =>
     rw [ho] at hf2
     simp only [Option.map_some,Option.getD_some] at hf2
     have hui:=hu i (List.mem_cons_self ..)
     unfold isFloat at hf2
     simp only [Bool.and_eq_true] at hf2
     cases hop:o.op with
     | move x =>
       have e1:uF ops b i=b.eval x:=by unfold uF; rw [ho]; simp only [hop]
       have hd:dstOf ops i=o.dst:=by simp [dstOf,ho]
       simp only [hop]
       rw [← e1,hui,hd]
       refine putM_floats ok F _ hnd.2 (fun k hk => hF k (List.mem_cons_of_mem _ hk)) fun k hk => ?_
       rw [← hu k (List.mem_cons_of_mem _ hk)]
       have fk:=hF k (List.mem_cons_of_mem _ hk)
       have hil:i < ops.size:=(Array.getElem?_eq_some_iff.1 ho).1
       unfold uF
       cases hok:ops[k]? with
       | none => rfl
       | some ok' =>
         have hkl:k < ops.size:=(Array.getElem?_eq_some_iff.1 hok).1
         simp only
         cases hopk:ok'.op with
         | move y =>
           simp only
           refine eval_put fun t ht hy => ?_
           have:=float_look ok hil hkl fk t (by rw [hd]; exact ht) ⟨fun e => hnd.1 (e ▸ hk),.inl fi⟩
           unfold lookOf at this
           rw [hok] at this
           simp only at this
           have hm:t ∈ Oper.looksAt ops ok':=by
            unfold Oper.looksAt
            refine List.mem_append_left _ (List.mem_filterMap.2 ⟨.tmp t,?_,rfl⟩)
            rw [hopk,← hy]
            simp [Op.operands]
           rw [List.contains_iff_mem.2 hm] at this
           cases this
         | _ => rfl
     | _ => rw [hop] at hf2; simp at hf2
theorem wp_inv {id:Nat} {l:List Oper} {w:World} (I:Inv) (hm:P.follows .mixedOrders=true) (hw0:I.w0=w.drew) (hnb:I.nb≤l.length) (htl:I.tl=l.drop I.nb) (hc:invB l.toArray I.con I.ch=true) (htb:tailB l.toArray I.nb=true) (hS:∀ b ∈ I.S,b < w.heap.size)
 (hof:OfOk l.toArray I) (hR:∀ j p v (w w':World) T,Upd I.S I.w0 w→I.R j p v w→Upd T w w'→(∀ b ∈ T,b ∉ I.fp j v)→(∀ b ∈ T,b ∈ I.S∨I.w0.heap.size≤b)→((∀ j,I.con j=[]∧I.ch j=false)→T=[])→I.R j p v w')
 (hK:∀ s (w w':World) T,I.K s w→Upd T w w'→(∀ b ∈ T,I.w0.heap.size≤b)→I.K s w') (hK0:I.K 0 w.drew)
 (hwit:∀ j,∃ v,I.adm j v) (hadm:∀ j p v w,I.R j p v w→I.adm j v) (h:wpV P l.toArray I (NoPanic Q) (l.take I.nb) 0 0 a []):(Code.region id l.toArray true).wp P Q a w:=by
 refine wp_region_noPanic (wp_region_any hm ?_)
 have ok:=invOk_of hc
 have hA0:∀ V,Aat l.toArray a V 0=a:=fun V => putX_none _ _ (by simp)
 have hflat:∀ e:Nat→Value,(∀ h,lightAt l.toArray h=false→I.adm h (e h))→∃ V,(∀ h,h < I.nb→lightAt l.toArray h=false→V h=e h)∧Flat P l.toArray I (NoPanic Q) a V:=by
  intro e he
  obtain ⟨V,_,h2,h3,h4⟩:=flat_of (a:=a) ok (by simpa using hnb) (l.take I.nb) 0 (fun _ => undef) (fun k o hk => by
   rw [List.getElem?_take] at hk
   split at hk
   ·simpa using hk
   ·cases hk) (by simp; omega) (by rw [hA0]; exact h) (fun h => if lightAt l.toArray h then (hwit h).choose else e h) (fun h => by
   show I.adm h (if lightAt l.toArray h=true then (hwit h).choose else e h)
   split
   ·exact (hwit h).choose_spec
   ·exact he h (Bool.eq_false_iff.2 (by assumption)))
  exact ⟨V,fun x hx hl => (h2 x (Nat.zero_le _) hx hl).trans (by rw [hl]; simp),fun i hi => h3 i (Nat.zero_le _) hi,h4⟩
 rw [show tailB l.toArray I.nb=(floatsOk l.toArray (floats l.toArray) (Array.replicate l.toArray.size false) && (List.range l.toArray.size).all fun j => decide (j < I.nb) || (!floatAt l.toArray j && (List.range j).all fun x => floatAt l.toArray x || ancB l.toArray j x)) from rfl,Bool.and_eq_true] at htb
 have htb0:tailB l.toArray I.nb=true:=by unfold tailB; rw [Bool.and_eq_true]; exact htb
 have hfl:∀ i,i ∈ floats l.toArray↔i < l.toArray.size∧floatAt l.toArray i=true:=fun i => by
  unfold floats floatAt
  rw [List.mem_filter,List.mem_range]
 have hrep:∀ i,i < l.toArray.size→(Array.replicate l.toArray.size false).getD i false=false:=fun i hi => by
  simp only [Array.getD_eq_getD_getElem?,Array.getElem?_replicate,if_pos hi,Option.getD_some]
 have hL0:∀ i,(markAll (floats l.toArray) (Array.replicate l.toArray.size false)).getD i false=floatAt l.toArray i:=by
  intro i
  by_cases hi:i < l.toArray.size
  ·have hg:=markAll_get (floats l.toArray) (Array.replicate l.toArray.size false) i false (by simpa using hi)
   rw [hrep i hi,hfl] at hg
   cases hfi:floatAt l.toArray i with
   | true => exact hg.2 (.inl ⟨hi,hfi⟩)
   | false =>
     rw [← Bool.not_eq_true,hg]
     rintro (h | h)
     ·rw [hfi] at h; cases h.2
     ·cases h
  ·have h1:(markAll (floats l.toArray) (Array.replicate l.toArray.size false)).size=l.toArray.size:=by rw [markAll_size]; simp
   unfold floatAt
   rw [Array.getD_eq_getD_getElem?,Array.getElem?_eq_none (by omega),Array.getElem?_eq_none (by omega)]
   rfl
 have fnb:∀ j,floatAt l.toArray j=true→j < I.nb:=by
  intro j hj
  by_cases hjl:j < l.toArray.size
  ·have:=List.all_eq_true.1 htb.2 j (List.mem_range.2 hjl)
   simp only [Bool.or_eq_true,Bool.and_eq_true,decide_eq_true_eq,Bool.not_eq_true'] at this
   rcases this with h | h
   ·exact h
   ·rw [h.1] at hj; cases hj
  ·unfold floatAt at hj
   rw [Array.getElem?_eq_none (by omega)] at hj
   cases hj
 have lightF:∀ j,floatAt l.toArray j=true→lightAt l.toArray j=true:=by
  intro j hj
  unfold floatAt at hj
  unfold lightAt
  cases ho:l.toArray[j]? with
  | none => rw [ho] at hj; cases hj
  | some o =>
    rw [ho] at hj
    simp only [Option.map_some,Option.getD_some] at hj ⊢
    unfold isFloat at hj
    simp only [Bool.and_eq_true] at hj
    cases hop:o.op with
    | move x => rfl
    | _ => rw [hop] at hj; simp at hj
 let u0:Nat→Value:=fun h => if floatAt l.toArray h then uF l.toArray a h else (hwit h).choose
 have e0:Bat l.toArray a u0 (markAll (floats l.toArray) (Array.replicate l.toArray.size false))=putM l.toArray (floats l.toArray) a:=by
  rw [putM_floats (a:=a) ok (floats l.toArray) a (List.nodup_range.filter _) (fun i hi => ((hfl i).1 hi).2) (fun _ _ => rfl)]
  unfold Bat
  rw [putX_congr' (V':=uF l.toArray a) (Y:=fun x => floatAt l.toArray x) _ _ (fun x _ => hL0 x) (fun x _ hx => by
   rw [hL0] at hx
   show (if floatAt l.toArray x=true then _ else _)=_
   rw [if_pos hx])]
  rw [putX_filter]
  rfl
 have hnf:(floats l.toArray).length≤l.toArray.size:=by
  unfold floats
  have:=List.length_filter_le (fun i => ((l.toArray[i]?).map isFloat).getD false) (List.range l.toArray.size)
  simpa using this
 rw [show l.toArray.size=(l.toArray.size - (floats l.toArray).length) + (floats l.toArray).length by omega]
 rw [show (l.toArray.size - (floats l.toArray).length) + (floats l.toArray).length=l.toArray.size by omega]
 conv => arg 5; rw [show l.toArray.size=(l.toArray.size - (floats l.toArray).length) + (floats l.toArray).length by omega]
 refine floats_first (by unfold invB at hc; rw [Bool.and_eq_true] at hc; exact hc.1) (fun _ _ _ _ _ h => (h:False).elim) _ _ _ _ _ htb.1 ?_
 rw [← e0]
 refine inv_main ok (by simpa using hnb) (by simpa using htl) htb0 (by rw [hw0]; exact hS) hof hR hK hadm hflat _ _ u0 w.drew ?_ ?_
 ·have unl:∀ h,lightAt l.toArray h=false→(markAll (floats l.toArray) (Array.replicate l.toArray.size false)).getD h false=false:=fun h hl => by
   rw [hL0]
   cases hf:floatAt l.toArray h with
   | false => rfl
   | true => rw [lightF h hf] at hl; cases hl
  refine ⟨by rw [markAll_size]; simp,fun y x hy h1 h2 => ?_,by rw [hw0]; exact Upd.refl _ _,?_,fun h hh => ?_,fun h hh => ?_,fun h h' hh => ?_,fun h hl => ?_,fun j hj => ?_,fun j hj => by rw [hL0]; exact hj,fun j hjb hjl h1 V hV _ => ?_⟩
  ·rw [hL0] at h1
   unfold floatAt at h1
   unfold depB at h2
   cases ho:l.toArray[y]? with
   | none => rw [ho] at h2; cases h2
   | some o =>
     rw [ho] at h1 h2
     simp only [Option.map_some,Option.getD_some] at h1 h2
     unfold isFloat at h1
     simp only [Bool.and_eq_true,Array.all_eq_true] at h1
     rw [Array.any_eq_true] at h2
     obtain ⟨i,hi,he⟩:=h2
     rw [Bool.and_eq_true] at he
     have:=h1.2 i hi
     rw [he.1] at this
     cases this
  ·rw [List.filter_eq_nil_iff.2 (fun x hx => ?_)]
   ·exact hK0
   ·rw [hL0]
    cases hf:floatAt l.toArray x with
    | false => simp
    | true =>
      have hxl:x < l.toArray.size:=by have:=fnb x hf; simp at hnb ⊢; omega
      rw [(ok.light x hxl (lightF x hf)).2]
      simp
  ·have:=hh.2.2.1; rw [unl h hh.2.1] at this; cases this
  ·have:=hh.2.2.1; rw [unl h hh.2.1] at this; cases this
  ·have:=hh.2.2.1; rw [unl h hh.2.1] at this; cases this
  ·show I.adm h (if floatAt l.toArray h=true then _ else _)
   rw [if_neg (fun hf => by rw [lightF h hf] at hl; cases hl)]
   exact (hwit h).choose_spec
  ·rw [hL0]
   cases hf:floatAt l.toArray j with
   | false => rfl
   | true => have:=fnb j hf; omega
  ·rw [hL0] at h1
   show V j=(if floatAt l.toArray j=true then _ else _)
   rw [if_pos h1]
   have hjn:j < l.toArray.size:=by simp at hnb ⊢; omega
   obtain ⟨o,ho⟩:∃ o,l.toArray[j]?=some o:=⟨_,Array.getElem?_eq_getElem hjn⟩
   have hob:=hV.1 j hjb o ho
   have hlo:lightOp o.op=true:=by rw [← lightAt_some ho]; exact hjl
   rw [hlo] at hob
   simp only [if_true] at hob
   have hf:=h1
   unfold floatAt at hf
   rw [ho] at hf
   simp only [Option.map_some,Option.getD_some] at hf
   unfold isFloat at hf
   simp only [Bool.and_eq_true] at hf
   obtain ⟨⟨f1,f2⟩,f3⟩:=hf
   have nodep:∀ y,depB l.toArray j y=false:=fun y => by
    unfold depB
    rw [ho]
    simp only
    rw [Array.all_eq_true] at f3
    rw [Array.any_eq_false]
    intro i hi
    have:=f3 i hi
    cases hb:Region.binds .any o.after[i] with
    | false => simp
    | true => rw [hb] at this; cases this
   have hrun:=hob w.drew (by rw [hw0]; exact Upd.refl _ _) (facts_of _ fun p hp hok => by
    exfalso
    unfold availB at hok
    rw [Bool.and_eq_true] at hok
    obtain ⟨x,hx,_⟩:=(anc_iff hjn (ok.back j hjn)).1 hok.1
    rw [nodep x] at hx
    cases hx)
   have hwt:Region.wanted o (yielded l.toArray (Aat l.toArray a V j).tmps)=true:=by
    unfold Region.wanted
    rw [Option.isNone_iff_eq_none.1 f2]
   rw [hwt] at hrun
   simp only [if_true] at hrun
   unfold uF
   rw [ho]
   cases hop:o.op with
   | move x =>
     simp only [hop]
     have he:(execOp (Aat l.toArray a V j).eval o).run P w.drew=.ok (.value ((Aat l.toArray a V j).eval x)) w.drew:=by
      obtain ⟨dst,op,type,pos,after,guard⟩:=o
      simp only at hop
      subst hop
      rfl
     rw [he] at hrun
     rw [← hrun.2]
     cases x with
     | tmp t =>
       have:(Aat l.toArray a V j).tmps[t]?=a.tmps[t]?:=by
        have h2:a=putX l.toArray V (fun _ => false) (List.range l.toArray.size) a:=(putX_none _ _ (fun _ _ => rfl)).symm
        conv => rhs; rw [h2]
        unfold Aat
        refine putX_get _ a a (fun y hy hd => ?_) rfl rfl
        by_cases hyj:y < j
        ·exfalso
         have:=float_look ok (List.mem_range.1 hy) hjn h1 t hd ⟨by omega,.inr hyj⟩
         unfold lookOf at this
         rw [ho] at this
         simp only at this
         have hm:t ∈ Oper.looksAt l.toArray o:=by
          unfold Oper.looksAt
          refine List.mem_append_left _ (List.mem_filterMap.2 ⟨.tmp t,?_,rfl⟩)
          rw [hop]
          simp [Op.operands]
         rw [List.contains_iff_mem.2 hm] at this
         cases this
        ·simp [hyj]
       simp only [Act.eval,Array.getD_eq_getD_getElem?,this]
     | _ => rfl
   | _ => rw [hop] at f1; simp at f1
 ·have h1:(List.range l.toArray.size).filter (fun x => !(markAll (floats l.toArray) (Array.replicate l.toArray.size false)).getD x false)=(List.range l.toArray.size).filter (fun x => !((l.toArray[x]?).map isFloat).getD false):=List.filter_congr fun x _ => by rw [hL0]; rfl
  rw [h1]
  have:=filter_len (fun i => ((l.toArray[i]?).map isFloat).getD false) (List.range l.toArray.size)
  unfold floats
  rw [List.length_range] at this
  omega
end
end Go.Proofs.YtmjnmpifibemjaaGreatDoor

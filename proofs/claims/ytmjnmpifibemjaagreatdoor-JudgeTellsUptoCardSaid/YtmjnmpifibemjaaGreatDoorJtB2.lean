/-
 A region that draws its order, where the order is forced in all that matters: the theorem.
-/
import Derived.Test.YtmjnmpifibemjaaGreatDoorJtB1
import Derived.Deep.RegionHeld3
import Derived.Lib.Hide
import Derived.Test.YtmjnmpifibemjaaGreatDoorJtB0
import Derived.Test.YtmjnmpifibemjaaGreatDoorProg
import Derived.Stop.Asserts
import Derived.RowKitTokens
import Derived.LaidHandle
set_option linter.unusedVariables false
set_option linter.unusedSimpArgs false
set_option maxRecDepth 100000
set_option maxHeartbeats 16000000
namespace Go.Proofs.YtmjnmpifibemjaaGreatDoor
open Go Go.RowKit
section
variable {P:Program} {ops:Array Oper} {Q:Exit→Act→World→Prop}
theorem look_congr {o:Oper} {a b:Act} (h:∀ t ∈ o.looksAt ops,a.tmps[t]?=b.tmps[t]?) (hs:∀ (cs:Array SelectCase) (b:Bool),o.op≠.select cs b) :
 execOp a.eval o=execOp b.eval o∧Region.wanted o (yielded ops a.tmps)=Region.wanted o (yielded ops b.tmps):=by
 constructor
 ·refine execOp_congr o hs fun x hx => ?_
  cases x with
  | tmp t =>
    have:=h t (List.mem_append_left _ (List.mem_filterMap.2 ⟨.tmp t,by simpa using hx,rfl⟩))
    simp only [Act.eval,Array.getD_eq_getD_getElem?,this]
  | _ => rfl
 ·unfold Region.wanted
  cases hg:o.guard with
  | none => rfl
  | some p =>
    obtain ⟨g,want⟩:=p
    simp only
    unfold yielded
    cases hd:(ops[g]?).bind (·.dst) with
    | none => rfl
    | some t =>
      have:=h t (List.mem_append_right _ (by rw [hg]; simp only; rw [hd]; simp))
      simp only [Option.bind_some,this]
theorem mem_ready {L:Array Bool} {j:Nat}:j ∈ Region.ready .any ops L↔j < ops.size∧L.getD j true=false∧∀ x,depB ops j x=true→L.getD x false=true:=by
 unfold Region.ready depB
 rw [List.mem_filter,List.mem_range]
 constructor
 ·rintro ⟨hj,h⟩
  rw [Bool.and_eq_true] at h
  refine ⟨hj,by simpa using h.1,fun x hx => ?_⟩
  rw [Array.getElem?_eq_getElem hj] at h hx
  simp only [Option.map_some,Option.getD_some,Array.all_eq_true,Array.any_eq_true] at h hx
  obtain ⟨i,hi,he⟩:=hx
  rw [Bool.and_eq_true] at he
  have:=h.2 i hi
  rw [Bool.or_eq_true] at this
  have hx:ops[j].after[i].on=x:=by simpa using he.2
  rcases this with h1 | h1
  ·rw [he.1] at h1; simp at h1
  ·rwa [hx] at h1
 ·rintro ⟨hj,h1,h2⟩
  refine ⟨hj,?_⟩
  rw [Array.getElem?_eq_getElem hj] at h2 ⊢
  simp only [Option.map_some,Option.getD_some] at h2 ⊢
  rw [Bool.and_eq_true]
  refine ⟨by simp [h1],?_⟩
  rw [Array.all_eq_true]
  intro i hi
  cases hb:Region.binds .any ops[j].after[i] with
  | false => simp
  | true =>
    have:=h2 ops[j].after[i].on (by
     rw [Array.any_eq_true]
     exact ⟨i,hi,by simp [hb]⟩)
    simp [this]
structure Okay (ops:Array Oper) (R:List Nat):Prop where
 lt:∀ j ∈ R,j < ops.size
 back:∀ j ∈ R,∀ x,depB ops j x=true→x < j
 after:∀ h ∈ R,lightAt ops h=false→∀ j ∈ R,h < j→∃ y ∈ R,h≤y∧depB ops j y=true
 ahead:∀ h ∈ R,lightAt ops h=false→∀ x ∈ R,x < h→∃ y ∈ R,x < y∧y≤h∧depB ops y x=true
 pair:∀ j ∈ R,lightAt ops j=true→∀ x ∈ R,x < j→lightAt ops x=true→pairOk ops x j=true
 sorted:R.Pairwise (· < ·)
theorem okay_of {R:List Nat} (h:okR ops R=true) (hs:R.Pairwise (· < ·)):Okay ops R:=by
 unfold okR at h
 rw [Bool.and_eq_true,Bool.and_eq_true,Bool.and_eq_true] at h
 obtain ⟨⟨⟨h1,h2⟩,h3⟩,h4⟩:=h
 rw [List.all_eq_true] at h1 h2 h3 h4
 refine ⟨fun j hj => ?_,fun j hj x hx => ?_,fun h hh hl j hj hlt => ?_,fun h hh hl x hx hlt => ?_,fun j hj hl x hx hlt hlx => ?_,hs⟩
 ·have:=h1 j hj
  rw [Bool.and_eq_true] at this
  simpa using this.1
 ·have:=h1 j hj
  rw [Bool.and_eq_true] at this
  have h5:=this.2
  unfold depsBack at h5
  unfold depB at hx
  cases ho:ops[j]? with
  | none => rw [ho] at hx; simp at hx
  | some o =>
    rw [ho] at hx h5
    simp only [Array.all_eq_true,Array.any_eq_true] at hx h5
    obtain ⟨i,hi,he⟩:=hx
    rw [Bool.and_eq_true] at he
    have:=h5 i hi
    rw [Bool.or_eq_true] at this
    have hxe:o.after[i].on=x:=by simpa using he.2
    rcases this with h6 | h6
    ·rw [he.1] at h6; simp at h6
    ·rw [hxe] at h6; simpa using h6
 ·have:=h2 h hh
  rw [Bool.or_eq_true,hl] at this
  rcases this with h5 | h5
  ·cases h5
  ·rw [List.all_eq_true] at h5
   have:=h5 j hj
   rw [Bool.or_eq_true] at this
   rcases this with h6 | h6
   ·have:j≤h:=by simpa using h6
    omega
   ·rw [List.any_eq_true] at h6
    obtain ⟨y,hy,he⟩:=h6
    rw [Bool.and_eq_true] at he
    exact ⟨y,hy,by simpa using he.1,he.2⟩
 ·have:=h3 h hh
  rw [Bool.or_eq_true,hl] at this
  rcases this with h5 | h5
  ·cases h5
  ·rw [List.all_eq_true] at h5
   have:=h5 x hx
   rw [Bool.or_eq_true] at this
   rcases this with h6 | h6
   ·have:h≤x:=by simpa using h6
    omega
   ·rw [List.any_eq_true] at h6
    obtain ⟨y,hy,he⟩:=h6
    rw [Bool.and_eq_true,Bool.and_eq_true] at he
    exact ⟨y,hy,by simpa using he.1.1,by simpa using he.1.2,he.2⟩
 ·have:=h4 j hj
  rw [Bool.or_eq_true,hl] at this
  rcases this with h5 | h5
  ·cases h5
  ·rw [List.all_eq_true] at h5
   have:=h5 x hx
   rw [Bool.or_eq_true,Bool.or_eq_true,hlx] at this
   rcases this with (h6 | h6) | h6
   ·simp at h6; omega
   ·cases h6
   ·exact h6
theorem mem_takeWhile_true (p:Nat→Bool):∀ (l:List Nat) (a:Nat),a ∈ l.takeWhile p→p a=true
 | [],a,h => by simp at h
 | b :: l,a,h => by
   rw [List.takeWhile_cons] at h
   split at h
   ·rcases List.mem_cons.1 h with rfl | h
    ·assumption
    ·exact mem_takeWhile_true p l a h
   ·simp at h
theorem getD_size {L:Array Bool} {i:Nat} (h:i < L.size) (b c:Bool):L.getD i b=L.getD i c:=by
 simp [Array.getD_eq_getD_getElem?,Array.getElem?_eq_getElem h]
theorem forced_main {R:List Nat} (ok:Okay ops R) (hsel:∀ (j:Nat) (o:Oper) (cs:Array SelectCase) (b:Bool),ops[j]?=some o→o.op≠.select cs b):∀ (fuel:Nat) (pre seg l':List Nat) (X:Nat→Bool) (L:Array Bool) (a:Act) (w:World) (V:Nat→Value),
 R=pre ++ (seg ++ l')→(∀ x ∈ seg,lightAt ops x=true)→(∀ h l'',l'=h :: l''→lightAt ops h=false)→L.size=ops.size →
 (∀ i,i < ops.size→(L.getD i true=false↔(i ∈ seg∧X i=false)∨i ∈ l')) →
 (∀ y x,y < ops.size→L.getD y true=true→depB ops y x=true→L.getD x false=true) →
 segOK P ops w V seg a→wpI P ops Q l' (putX ops V (fun _ => true) seg a) w →
 (seg.filter (fun x => !X x)).length + l'.length≤fuel→wpAny P .any ops Q fuel L (putX ops V X seg a) w:=by
 intro fuel
 induction fuel with
 | zero =>
   intro pre seg l' X L a w V hR hlit hhv hsz hL hcl hseg hw hf
   have hl0:l'=[]:=List.length_eq_zero_iff.1 (by omega)
   have hf0:seg.filter (fun x => !X x)=[]:=List.length_eq_zero_iff.1 (by omega)
   have hX:∀ x ∈ seg,X x=true:=fun x hx => by
    rw [List.filter_eq_nil_iff] at hf0
    have:=hf0 x hx
    simpa using this
   subst hl0
   refine ⟨?_,?_⟩
   ·rw [List.eq_nil_iff_forall_not_mem]
    intro j hj
    obtain ⟨hjn,hun,_⟩:=mem_ready.1 hj
    rcases (hL j hjn).1 hun with ⟨h1,h2⟩ | h
    ·rw [hX j h1] at h2; cases h2
    ·simp at h
   ·unfold wpI at hw
    rwa [putX_congr (V':=V) (Y:=fun _ => true) seg a hX (fun _ _ => rfl)]
 | succ fuel ih =>
   intro pre seg l' X L a w V hR hlit hhv hsz hL hcl hseg hw hf
   have hsorted:=ok.sorted
   rw [hR,List.pairwise_append] at hsorted
   obtain ⟨_,hs2,_⟩:=hsorted
   rw [List.pairwise_append] at hs2
   obtain ⟨hs3,hs4,hs5⟩:=hs2
   have memR:∀ x,x ∈ seg∨x ∈ l'→x ∈ R:=fun x hx => by
    rw [hR]
    rcases hx with h | h
    ·exact List.mem_append_right _ (List.mem_append_left _ h)
    ·exact List.mem_append_right _ (List.mem_append_right _ h)
   have hnd:seg.Nodup:=hs3.imp (fun h e => by omega)
   have hpre:∀ x ∈ pre,∀ y,y ∈ seg∨y ∈ l'→x < y:=fun x hx y hy => by
    have:=ok.sorted
    rw [hR,List.pairwise_append] at this
    refine this.2.2 x hx y ?_
    rcases hy with h | h
    ·exact List.mem_append_left _ h
    ·exact List.mem_append_right _ h
   have unl:∀ x,x ∈ seg→X x=false→L.getD x true=false:=fun x hx hX => (hL x (ok.lt x (memR x (.inl hx)))).2 (.inl ⟨hx,hX⟩)
   have unl':∀ x,x ∈ l'→L.getD x true=false:=fun x hx => (hL x (ok.lt x (memR x (.inr hx)))).2 (.inr hx)
   have lis:∀ x,x ∈ seg→L.getD x false=true→X x=true:=fun x hx h => by
    cases hX:X x with
    | true => rfl
    | false =>
      have:=unl x hx hX
      rw [getD_size (by rw [hsz]; exact ok.lt x (memR x (.inl hx))) true false,h] at this
      cases this
   have lis2:∀ x,x ∈ seg→X x=true→L.getD x true=true:=fun x hx h => by
    cases hc:L.getD x true with
    | true => rfl
    | false =>
      rcases (hL x (ok.lt x (memR x (.inl hx)))).1 hc with ⟨_,h2⟩ | h2
      ·rw [h] at h2; cases h2
      ·have:=hs5 x hx x h2; omega
   refine ⟨fun hr => ?_,fun j hj => ?_⟩
   ·-- nothing is ready: nothing is left
    have hno:∀ m,m < ops.size→L.getD m true=true:=by
     intro m
     induction m using Nat.strongRecOn with
     | _ m ihm =>
       intro hm
       cases hc:L.getD m true with
       | true => rfl
       | false =>
         exfalso
         have hmR:m ∈ R:=by
          rcases (hL m hm).1 hc with ⟨h,_⟩ | h
          ·exact memR m (.inl h)
          ·exact memR m (.inr h)
         have:m ∈ Region.ready .any ops L:=mem_ready.2 ⟨hm,hc,fun x hx => by
          have hxm:=ok.back m hmR x hx
          have:=ihm x hxm (by omega)
          rwa [getD_size (by rw [hsz]; omega) true false] at this⟩
         rw [hr] at this
         simp at this
    have hl0:l'=[]:=by
     rw [List.eq_nil_iff_forall_not_mem]
     intro x hx
     have h1:=unl' x hx
     rw [hno x (ok.lt x (memR x (.inr hx)))] at h1
     cases h1
    have hX:∀ x ∈ seg,X x=true:=fun x hx => by
     cases hc:X x with
     | true => rfl
     | false =>
       have h1:=unl x hx hc
       rw [hno x (ok.lt x (memR x (.inl hx)))] at h1
       cases h1
    subst hl0
    unfold wpI at hw
    rwa [putX_congr (V':=V) (Y:=fun _ => true) seg a hX (fun _ _ => rfl)]
   ·obtain ⟨hjn,hun,hdep⟩:=mem_ready.1 hj
    obtain ⟨o,ho⟩:∃ o,ops[j]?=some o:=⟨_,Array.getElem?_eq_getElem hjn⟩
    have hsz':(L.setIfInBounds j true).size=ops.size:=by simpa using hsz
    have get':∀ i b,(L.setIfInBounds j true).getD i b=if i=j then true else L.getD i b:=fun i b => by
     simp only [Array.getD_eq_getD_getElem?,Array.getElem?_setIfInBounds]
     by_cases h:j=i
     ·subst h; simp [hsz,hjn]
     ·rw [if_neg h,if_neg (fun e => h e.symm)]
    have hcl':∀ y x,y < ops.size→(L.setIfInBounds j true).getD y true=true→depB ops y x=true→(L.setIfInBounds j true).getD x false=true:=by
     intro y x hy h1 h2
     rw [get'] at h1 ⊢
     by_cases hxj:x=j
     ·rw [if_pos hxj]
     ·rw [if_neg hxj]
      by_cases hyj:y=j
      ·subst hyj; exact hdep x h2
      ·rw [if_neg hyj] at h1
       exact hcl y x hy h1 h2
    rcases (hL j hjn).1 hun with ⟨hjs,hXj⟩ | hjl
    ·-- a light one
     have hjR:=memR j (.inl hjs)
     have hlj:=hlit j hjs
     have agree:∀ t ∈ o.looksAt ops,(putX ops V X seg a).tmps[t]?=(putX ops V (fun x => decide (x < j)) seg a).tmps[t]?:=by
      intro t ht
      refine putX_get seg a a (fun x hx hd => ?_) rfl rfl
      have htj:(lookOf ops j).contains t=true:=by unfold lookOf; rw [ho]; simpa using ht
      rcases Nat.lt_trichotomy x j with h | h | h
      ·have hp:=ok.pair j hjR hlj x (memR x (.inl hx)) h (hlit x hx)
       unfold pairOk at hp
       rw [hd] at hp
       simp only [Bool.and_eq_true,Bool.or_eq_true,htj,Bool.not_true,Bool.false_eq_true,false_or] at hp
       rw [lis x hx (hdep x hp.1.2),decide_eq_true h]
      ·subst h
       rw [hXj]
       simp
      ·have hp:=ok.pair x (memR x (.inl hx)) (hlit x hx) j hjR h hlj
       unfold pairOk at hp
       rw [hd] at hp
       simp only [Bool.and_eq_true,Bool.or_eq_true,htj,Bool.not_true,Bool.false_eq_true,false_or] at hp
       have hxj:=hp.2
       rw [decide_eq_false (by omega)]
       cases hc:X x with
       | false => rfl
       | true =>
         have h1:=hcl x j (ok.lt x (memR x (.inl hx))) (lis2 x hx hc) hxj
         rw [getD_size (by rw [hsz]; exact hjn) false true,hun] at h1
         cases h1
     obtain ⟨he,hwt⟩:=look_congr agree (fun cs b => hsel j o cs b ho)
     have hdj:dstOf ops j=o.dst:=by simp [dstOf,ho]
     have hadd:putX ops V (fun x => X x || x == j) seg a=(putX ops V X seg a).put o.dst (V j):=by
      rw [← hdj]
      refine putX_add hXj seg a hjs hnd fun x hx hne t ht => ?_
      rcases Nat.lt_or_gt_of_ne hne with h | h
      ·have hp:=ok.pair j hjR hlj x (memR x (.inl hx)) h (hlit x hx)
       unfold pairOk at hp
       intro hd
       rw [hd] at hp
       simp only [Bool.and_eq_true,ht] at hp
       simp at hp
      ·have hp:=ok.pair x (memR x (.inl hx)) (hlit x hx) j hjR h hlj
       unfold pairOk at hp
       intro hd
       rw [ht] at hp
       simp only [Bool.and_eq_true,hd] at hp
       simp at hp
     have hlen:(seg.filter (fun x => !(X x || x == j))).length + 1≤(seg.filter (fun x => !X x)).length:=by
      have h1:(seg.filter (fun x => !(X x || x == j))).length=((seg.filter (fun x => !X x)).filter (fun x => x != j)).length:=by
       rw [List.filter_filter]
       congr 1
       apply List.filter_congr
       intro x _
       cases X x <;> cases h:x == j <;> simp [bne,h]
      have hmem:j ∈ seg.filter (fun x => !X x):=List.mem_filter.2 ⟨hjs,by simp [hXj]⟩
      have h2:((seg.filter (fun x => !X x)).filter (fun x => x != j)).length < (seg.filter (fun x => !X x)).length:=by
       rw [List.length_filter_lt_length_iff_exists]
       exact ⟨j,hmem,by simp⟩
      omega
     have next:wpAny P .any ops Q fuel (L.setIfInBounds j true) ((putX ops V X seg a).put o.dst (V j)) w:=by
      rw [← hadd]
      refine ih pre seg l' (fun x => X x || x == j) (L.setIfInBounds j true) a w V hR hlit hhv hsz' (fun i hi => ?_) hcl' hseg hw (by omega)
      rw [get']
      by_cases hij:i=j
      ·subst hij
       rw [if_pos rfl]
       constructor
       ·intro h; cases h
       ·rintro (⟨_,h⟩ | h)
        ·simp at h
        ·have:=hs5 i hjs i h; omega
      ·rw [if_neg hij,hL i hi]
       simp [hij]
     have hs:=hseg j hjs o ho
     unfold wpOp
     rw [ho]
     simp only
     rw [hwt]
     rcases hs with ⟨h1,h2⟩ | ⟨h1,h2⟩
     ·rw [h1]
      simp only [if_true]
      left
      unfold Oper.wp
      rw [he,h2]
      exact next
     ·rw [h1]
      simp only [Bool.false_eq_true,if_false]
      rw [h2] at next
      exact next
    ·-- behind the light ones
     obtain ⟨h,l'',rfl⟩:∃ h l'',l'=h :: l'':=by
      cases l' with
      | nil => simp at hjl
      | cons h l'' => exact ⟨h,l'',rfl⟩
     have hheavy:=hhv h l'' rfl
     have hhR:=memR h (.inr (List.mem_cons_self ..))
     rw [List.pairwise_cons] at hs4
     have ge_l:∀ y ∈ R,h≤y→y ∈ h :: l'':=fun y hy hle => by
      rw [hR] at hy
      rcases List.mem_append.1 hy with h1 | h1
      ·have:=hpre y h1 h (.inr (List.mem_cons_self ..)); omega
      ·rcases List.mem_append.1 h1 with h2 | h2
       ·have:=hs5 y h2 h (List.mem_cons_self ..); omega
       ·exact h2
     obtain rfl:j=h:=by
      rcases List.mem_cons.1 hjl with h1 | h1
      ·exact h1
      ·exfalso
       obtain ⟨y,hy,hle,hd⟩:=ok.after h hhR hheavy j (memR j (.inr hjl)) (hs4.1 j h1)
       have h2:=unl' y (ge_l y hy hle)
       have h3:=hdep y hd
       rw [getD_size (by rw [hsz]; exact ok.lt y hy) false true,h2] at h3
       cases h3
     have hXall:∀ m x,x ∈ seg→j - x≤m→X x=true:=by
      intro m
      induction m with
      | zero => intro x hx hm; have:=hs5 x hx j (List.mem_cons_self ..); omega
      | succ m ihm =>
        intro x hx hm
        have hlt:=hs5 x hx j (List.mem_cons_self ..)
        obtain ⟨y,hy,hxy,hyj,hd⟩:=ok.ahead j hhR hheavy x (memR x (.inl hx)) hlt
        rcases Nat.lt_or_eq_of_le hyj with h1 | h1
        ·have hys:y ∈ seg:=by
          rw [hR] at hy
          rcases List.mem_append.1 hy with h2 | h2
          ·have:=hpre y h2 x (.inl hx); omega
          ·rcases List.mem_append.1 h2 with h3 | h3
           ·exact h3
           ·rcases List.mem_cons.1 h3 with h4 | h4
            ·omega
            ·have:=hs4.1 y h4; omega
         have hXy:=ihm y hys (by omega)
         exact lis x hx (hcl y x (ok.lt y hy) (lis2 y hys hXy) hd)
        ·subst h1
         exact lis x hx (hdep x hd)
     have hXs:∀ x ∈ seg,X x=true:=fun x hx => hXall (j - x) x hx (Nat.le_refl _)
     rw [putX_congr (V':=V) (Y:=fun _ => true) seg a hXs (fun _ _ => rfl)]
     generalize putX ops V (fun _ => true) seg a=b at hw
     have next:∀ a' w',wpI P ops Q l'' a' w'→wpAny P .any ops Q fuel (L.setIfInBounds j true) a' w':=by
      intro a' w' h'
      have hsplit:l''=l''.takeWhile (lightAt ops) ++ l''.dropWhile (lightAt ops):=(List.takeWhile_append_dropWhile (p:=lightAt ops) (l:=l'')).symm
      have hl1:∀ x ∈ l''.takeWhile (lightAt ops),lightAt ops x=true:=fun x hx => by
       exact mem_takeWhile_true _ _ x hx
      have hs6:=hs4.2
      rw [hsplit] at hs6 h'
      obtain ⟨V',hseg',hw'⟩:=seg_of _ a' (List.pairwise_append.1 hs6).1 hl1 h'
      have e0:putX ops V' (fun _ => false) (l''.takeWhile (lightAt ops)) a'=a':=putX_none _ _ (fun _ _ => rfl)
      rw [← e0]
      refine ih (pre ++ (seg ++ [j])) (l''.takeWhile (lightAt ops)) (l''.dropWhile (lightAt ops)) (fun _ => false) (L.setIfInBounds j true) a' w' V' ?_ hl1 ?_ hsz' (fun i hi => ?_) hcl' hseg' hw' ?_
      ·rw [← hsplit,hR]; simp
      ·intro h2 l3 e
       have:=List.head_dropWhile_not (lightAt ops) (l:=l'') (by rw [e]; simp)
       simp only [e,List.head_cons] at this
       exact this
      ·rw [get']
       have hmem:(i ∈ l''.takeWhile (lightAt ops)∧(fun _:Nat => false) i=false)∨i ∈ l''.dropWhile (lightAt ops)↔i ∈ l'':=by
        conv => rhs; rw [hsplit]
        rw [List.mem_append]
        simp
       rw [hmem]
       by_cases hij:i=j
       ·subst hij
        rw [if_pos rfl]
        constructor
        ·intro h; cases h
        ·intro h; have:=hs4.1 i h; omega
       ·rw [if_neg hij,hL i hi]
        constructor
        ·rintro (⟨h1,h2⟩ | h1)
         ·rw [hXs i h1] at h2; cases h2
         ·rcases List.mem_cons.1 h1 with h2 | h2
          ·exact absurd h2 hij
          ·exact h2
        ·intro h1; exact .inr (List.mem_cons_of_mem _ h1)
      ·have h1:((l''.takeWhile (lightAt ops)).filter (fun x => !(fun _:Nat => false) x)).length=(l''.takeWhile (lightAt ops)).length:=by simp
       rw [h1,← List.length_append,← hsplit]
       simp only [List.length_cons] at hf
       omega
     unfold wpI at hw
     rw [ho] at hw
     simp only at hw
     unfold lightAt at hheavy
     rw [ho] at hheavy
     simp only at hheavy
     unfold wpOp
     rw [ho]
     simp only
     split
     ·rename_i hwt
      rw [hwt,hheavy] at hw
      simp only [if_true,Bool.false_eq_true,if_false] at hw
      exact .inl (Oper.wp_mono next hw)
     ·rename_i hwt
      rw [if_neg hwt] at hw
      exact next _ _ hw
def putM (ops:Array Oper):List Nat→Act→Act
 | [],a => a
 | i :: l,a => putM ops l (match ops[i]? with | some o => (match o.op with | .move x => a.put o.dst (a.eval x) | _ => a) | none => a)
theorem floats_first (hsel:Region.noSelect ops=true) (hQ:∀ c a d v w,Q (.panic c) (Act.put a d v) w→Q (.panic c) a w):∀ (F:List Nat) (L:Array Bool) (a:Act) (w:World) (fuel:Nat),floatsOk ops F L=true →
 wpAny P .any ops Q fuel (markAll F L) (putM ops F a) w→wpAny P .any ops Q (fuel + F.length) L a w
 | [],L,a,w,fuel,_,h => h
 | i :: F,L,a,w,fuel,hok,h => by
   unfold floatsOk at hok
   simp only [Bool.and_eq_true] at hok
   obtain ⟨⟨⟨h1,h2⟩,h3⟩,h4⟩:=hok
   cases ho:ops[i]? with
   | none => rw [ho] at h1; cases h1
   | some o =>
     rw [ho] at h1
     simp only at h1
     unfold isFloat at h1
     simp only [Bool.and_eq_true] at h1
     obtain ⟨⟨h5,h6⟩,h7⟩:=h1
     cases hop:o.op with
     | move x =>
       refine wpAny_take (v:=a.eval x) ho hsel h2 h3 (fun c b w h => hQ c b o.dst _ w h) (.inl ⟨?_,fun W => ?_⟩) ?_
       ·unfold Region.wanted
        rw [Option.isNone_iff_eq_none.1 h6]
       ·obtain ⟨dst,op,type,pos,after,guard⟩:=o
        simp only at hop
        subst hop
        rfl
       ·refine floats_first hsel hQ F _ _ w fuel h4 ?_
        unfold markAll putM at h
        rw [ho] at h
        simp only [hop] at h
        exact h
     | _ => rw [hop] at h5; cases h5
theorem wpF_I:∀ (l:List Oper) (r:List Nat) (a:Act) (w:World),r.map (fun i => ops[i]?)=l.map some→wpF P ops Q l a w→wpI P ops Q r a w
 | [],r,a,w,hr,h => by
   have:r=[]:=by cases r with
    | nil => rfl
    | cons x r => simp at hr
   subst this
   exact h
 | o :: l,[],a,w,hr,h => by simp at hr
 | o :: l,i :: r,a,w,hr,h => by
   simp only [List.map_cons,List.cons.injEq] at hr
   unfold wpF at h
   unfold wpI
   rw [hr.1]
   simp only
   split
   ·rename_i hw
    rw [if_pos hw] at h
    split
    ·rename_i hl
     rw [if_pos hl] at h
     unfold litStep at h ⊢
     split
     ·rename_i v w' hr'
      rw [hr'] at h
      exact ⟨h.1,wpF_I l r _ _ hr.2 h.2⟩
     ·rename_i hno
      revert h
      split
      ·rename_i v w' hr'
       exact absurd hr' (hno v w')
      ·exact fun h => h
    ·rename_i hl
     rw [if_neg hl] at h
     exact Oper.wp_mono (fun a' w' h' => wpF_I l r a' w' hr.2 h') h
   ·rename_i hw
    rw [if_neg hw] at h
    exact wpF_I l r _ _ hr.2 h
def ordered (l:List Oper):List Oper:=l.filter isFloat ++ l.filter (fun o => !isFloat o)
theorem wpF_floats (w:World) (l:List Oper):∀ (F:List Oper) (r:List Nat) (a:Act),r.map (fun i => ops[i]?)=F.map some→(∀ o ∈ F,isFloat o=true)→wpF P ops Q (F ++ l) a w→wpF P ops Q l (putM ops r a) w
 | [],r,a,hr,_,h => by
   have:r=[]:=by cases r with
    | nil => rfl
    | cons x r => simp at hr
   subst this
   exact h
 | o :: F,[],a,hr,_,h => by simp at hr
 | o :: F,i :: r,a,hr,hF,h => by
   simp only [List.map_cons,List.cons.injEq] at hr
   have hf:=hF o (List.mem_cons_self ..)
   unfold isFloat at hf
   simp only [Bool.and_eq_true] at hf
   obtain ⟨⟨h5,h6⟩,h7⟩:=hf
   rw [List.cons_append] at h
   unfold wpF at h
   unfold putM
   rw [hr.1]
   simp only
   have hw:Region.wanted o (yielded ops a.tmps)=true:=by
    unfold Region.wanted
    rw [Option.isNone_iff_eq_none.1 h6]
   rw [hw] at h
   cases hop:o.op with
   | move x =>
     rw [hop] at h
     have he:(execOp a.eval o).run P w=.ok (.value (a.eval x)) w:=by
      obtain ⟨dst,op,type,pos,after,guard⟩:=o
      simp only at hop
      subst hop
      rfl
     rw [he] at h
     simp only [lightOp,if_true] at h
     exact wpF_floats w l F r _ hr.2 (fun o' h' => hF o' (List.mem_cons_of_mem _ h')) h.2
   | _ => rw [hop] at h5; cases h5
theorem markAll_size:∀ (F:List Nat) (L:Array Bool),(markAll F L).size=L.size
 | [],_ => rfl
 | i :: F,L => by unfold markAll; rw [markAll_size F]; simp
theorem markAll_get:∀ (F:List Nat) (L:Array Bool) (i:Nat) (b:Bool),i < L.size→((markAll F L).getD i b=true↔i ∈ F∨L.getD i b=true)
 | [],L,i,b,hi => by simp [markAll]
 | j :: F,L,i,b,hi => by
   unfold markAll
   rw [markAll_get F _ i b (by simpa using hi)]
   simp only [Array.getD_eq_getD_getElem?,Array.getElem?_setIfInBounds]
   by_cases h:j=i
   ·subst h; simp [hi]
   ·rw [if_neg h]
    have:¬ i=j:=fun e => h e.symm
    simp [this]
theorem filter_map_get (l:List Oper) (p:Oper→Bool):((List.range l.length).filter (fun i => ((l[i]?).map p).getD false)).map (fun i => l[i]?)=(l.filter p).map some:=by
 induction l with
 | nil => rfl
 | cons o l ih =>
   rw [List.length_cons,List.range_succ_eq_map,List.filter_cons,List.filter_cons]
   have e:(List.filter (fun i => (Option.map p (o :: l)[i]?).getD false) (List.map Nat.succ (List.range l.length))).map (fun i => (o :: l)[i]?)=(l.filter p).map some:=by
    rw [List.filter_map,List.map_map]
    rw [← ih]
    rfl
   simp only [List.getElem?_cons_zero,Option.map_some,Option.getD_some]
   split
   ·rw [List.map_cons,List.map_cons,e]; rfl
   ·exact e
theorem filter_len (p:Nat→Bool):∀ l:List Nat,(l.filter p).length + (l.filter (fun x => !p x)).length=l.length
 | [] => rfl
 | x :: l => by
   have:=filter_len p l
   rw [List.filter_cons,List.filter_cons]
   cases p x <;> simp <;> omega
theorem wp_region_forced {id:Nat} {l:List Oper} {a:Act} {w:World} (hm:P.follows .mixedOrders=true) (hc:forcedB l.toArray=true) (hQ:∀ c a d v w,Q (.panic c) (Act.put a d v) w→Q (.panic c) a w)
 (h:wpF P l.toArray Q (ordered l) a w.drew):(Code.region id l.toArray true).wp P Q a w:=by
 unfold forcedB at hc
 simp only [Bool.and_eq_true] at hc
 obtain ⟨⟨h1,h2⟩,h3⟩:=hc
 refine wp_region_any hm ?_
 have hfl:(floats l.toArray).map (fun i => l.toArray[i]?)=(l.filter isFloat).map some:=by
  have:=filter_map_get l isFloat
  simpa [floats] using this
 have hol:(others l.toArray).map (fun i => l.toArray[i]?)=(l.filter (fun o => !isFloat o)).map some:=by
  have h0:=filter_map_get l (fun o => !isFloat o)
  have e:others l.toArray=(List.range l.length).filter (fun i => ((l[i]?).map (fun o => !isFloat o)).getD false):=by
   unfold others
   simp only [List.size_toArray,List.getElem?_toArray]
   apply List.filter_congr
   intro i hi
   rw [List.getElem?_eq_getElem (by simpa using hi)]
   rfl
  rw [e]
  simpa using h0
 have hw:wpI P l.toArray Q (others l.toArray) (putM l.toArray (floats l.toArray) a) w.drew :=
  wpF_I _ _ _ _ hol (wpF_floats w.drew _ _ _ a hfl (fun o ho => (List.mem_filter.1 ho).2) h)
 have hsorted:(others l.toArray).Pairwise (· < ·):=List.Pairwise.filter _ List.pairwise_lt_range
 have ok:=okay_of h2 hsorted
 have hnum:(floats l.toArray).length + (others l.toArray).length=l.toArray.size:=by
  unfold floats others
  have:=filter_len (fun i => ((l.toArray[i]?).map isFloat).getD false) (List.range l.toArray.size)
  rw [List.length_range] at this
  exact this
 rw [show l.toArray.size=(others l.toArray).length + (floats l.toArray).length by omega]
 rw [show (others l.toArray).length + (floats l.toArray).length=l.toArray.size by omega]
 conv => arg 5; rw [show l.toArray.size=(others l.toArray).length + (floats l.toArray).length by omega]
 refine floats_first h1 hQ _ _ _ _ _ h3 ?_
 generalize putM l.toArray (floats l.toArray) a=b at hw
 have hsplit:others l.toArray=(others l.toArray).takeWhile (lightAt l.toArray) ++ (others l.toArray).dropWhile (lightAt l.toArray):=(List.takeWhile_append_dropWhile (p:=lightAt l.toArray)).symm
 have hl1:∀ x ∈ (others l.toArray).takeWhile (lightAt l.toArray),lightAt l.toArray x=true:=fun x hx => mem_takeWhile_true _ _ x hx
 have hs6:=hsorted
 rw [hsplit] at hs6 hw
 obtain ⟨V',hseg',hw'⟩:=seg_of _ b (List.pairwise_append.1 hs6).1 hl1 hw
 have e0:putX l.toArray V' (fun _ => false) ((others l.toArray).takeWhile (lightAt l.toArray)) b=b:=putX_none _ _ (fun _ _ => rfl)
 have hrep:∀ (i:Nat) (c:Bool),i < l.toArray.size→(Array.replicate l.toArray.size false).getD i c=false:=fun i c hi => by
  simp only [Array.getD_eq_getD_getElem?,Array.getElem?_replicate,if_pos hi,Option.getD_some]
 rw [← e0]
 refine forced_main ok (Region.noSelect_spec h1) _ [] _ _ (fun _ => false) _ b w.drew V' (by rw [List.nil_append,← hsplit]) hl1 ?_ ?_ ?_ ?_ hseg' hw' ?_
 ·intro h2 l3 e
  have:=List.head_dropWhile_not (lightAt l.toArray) (l:=others l.toArray) (by rw [e]; simp)
  simp only [e,List.head_cons] at this
  exact this
 ·rw [markAll_size]; simp
 ·intro i hi
  have hmem:(i ∈ (others l.toArray).takeWhile (lightAt l.toArray)∧(fun _:Nat => false) i=false)∨i ∈ (others l.toArray).dropWhile (lightAt l.toArray)↔i ∈ others l.toArray:=by
   conv => rhs; rw [hsplit]
   rw [List.mem_append]
   simp
  rw [hmem]
  have hg:=markAll_get (floats l.toArray) (Array.replicate l.toArray.size false) i true (by simpa using hi)
  rw [hrep i true hi] at hg
  have hfo:i ∈ others l.toArray↔¬ i ∈ floats l.toArray:=by
   unfold floats others
   rw [List.mem_filter,List.mem_filter,List.mem_range]
   simp only [hi,true_and]
   cases ((l.toArray[i]?).map isFloat).getD false <;> simp
  rw [hfo]
  constructor
  ·intro h4 h5
   rw [hg.2 (.inl h5)] at h4
   cases h4
  ·intro h4
   cases hc:(markAll (floats l.toArray) (Array.replicate l.toArray.size false)).getD i true with
   | false => rfl
   | true =>
     rcases hg.1 hc with h5 | h5
     ·exact absurd h5 h4
     ·cases h5
 ·intro y x hy h4 h5
  have hg:=markAll_get (floats l.toArray) (Array.replicate l.toArray.size false) y true (by simpa using hy)
  rw [hrep y true hy] at hg
  rcases hg.1 h4 with h6 | h6
  ·-- a copy waits for nothing
   exfalso
   unfold floats at h6
   rw [List.mem_filter] at h6
   have h7:=h6.2
   unfold depB at h5
   cases ho:l.toArray[y]? with
   | none => rw [ho] at h5; cases h5
   | some o =>
     rw [ho] at h5 h7
     simp only [Option.map_some,Option.getD_some] at h5 h7
     unfold isFloat at h7
     simp only [Bool.and_eq_true,Array.all_eq_true] at h7
     rw [Array.any_eq_true] at h5
     obtain ⟨i,hi,he⟩:=h5
     have:=h7.2 i hi
     rw [Bool.and_eq_true] at he
     rw [he.1] at this
     cases this
  ·cases h6
 ·have h1:(((others l.toArray).takeWhile (lightAt l.toArray)).filter (fun x => !(fun _:Nat => false) x)).length=((others l.toArray).takeWhile (lightAt l.toArray)).length:=by simp
  rw [h1,← List.length_append,← hsplit]
  exact Nat.le_refl _
theorem wpF_light {o:Oper} {l:List Oper} {a:Act} {w:World} (hl:lightOp o.op=true)
 (h:∀ K:Value→Prop,(∀ v,wpF P ops Q l (a.put o.dst v) w→K v)→if Region.wanted o (yielded ops a.tmps) then litStep ((execOp a.eval o).run P w) w K else K undef):wpF P ops Q (o :: l) a w:=by
 have:=h (fun v => wpF P ops Q l (a.put o.dst v) w) (fun _ h => h)
 unfold wpF
 rw [hl]
 simpa using this
theorem wpF_heavy {o:Oper} {l:List Oper} {a:Act} {w:World} (hl:lightOp o.op=false)
 (h:∀ K:Act→World→Prop,(∀ a' w',wpF P ops Q l a' w'→K a' w')→if Region.wanted o (yielded ops a.tmps) then o.wp P a w K Q else K (a.put o.dst undef) w):wpF P ops Q (o :: l) a w:=by
 have:=h (wpF P ops Q l) (fun _ _ h => h)
 unfold wpF
 rw [hl]
 simpa using this
theorem wp_forced {id:Nat} {l:List Oper} {a:Act} {w:World} (hm:P.follows .mixedOrders=true) (hc:forcedB l.toArray=true) (h:wpF P l.toArray (NoPanic Q) (ordered l) a w.drew):(Code.region id l.toArray true).wp P Q a w :=
 wp_region_noPanic (wp_region_forced hm hc (fun _ _ _ _ _ h => (h:False).elim) h)
theorem wpF_end {a:Act} {w:World} (h:Q .normal a w):wpF P ops (NoPanic Q) [] a w:=h
theorem wpF_call {o:Oper} {l:List Oper} {a:Act} {w:World} (hl:lightOp o.op=false) (hw:Region.wanted o (yielded ops a.tmps)=true)
 (h:∀ K:Act→World→Prop,Hid (∀ a' w',wpF P ops Q l a' w'→K a' w')→o.wp P a w K Q):wpF P ops Q (o :: l) a w :=
 wpF_heavy hl fun K hK => by rw [if_pos hw]; exact h K hK
theorem wpF_no {o:Oper} {l:List Oper} {a:Act} {w:World} (hw:Region.wanted o (yielded ops a.tmps)=false) (h:wpF P ops Q l (a.put o.dst undef) w):wpF P ops Q (o :: l) a w:=by
 unfold wpF
 rw [if_neg (by rw [hw]; simp)]
 exact h
end
end Go.Proofs.YtmjnmpifibemjaaGreatDoor
namespace Go.Proofs.YtmjnmpifibemjaaGreatDoor
open Go.RowKit
attribute [local go_sem] litStep_value
def walkF {σ:Type} (step:σ→Nat→Nat→Stm→Bool × σ):List (Stm × Nat)→σ→Nat→Bool × σ × Nat
 | [],s,n => (true,s,n)
 | (x,d) :: l,s,n => match step s (n + 1) d x with
   | (true,s') => walkF step l s' (n + 1)
   | (false,s') => (false,s',n + 1)
theorem walkF_append {σ:Type} {step:σ→Nat→Nat→Stm→Bool × σ} (l m:List (Stm × Nat)):∀ (s:σ) (n:Nat),walkF step (l ++ m) s n=match walkF step l s n with
 | (true,s',n') => walkF step m s' n'
 | (false,s',n') => (false,s',n'):=by
 induction l with
 | nil => intro s n; rfl
 | cons x l ih =>
   intro s n
   obtain ⟨x,d⟩:=x
   simp only [List.cons_append,walkF]
   cases step s (n + 1) d x with
   | mk b s' =>
     cases b with
     | true => simp only; exact ih s' (n + 1)
     | false => rfl
theorem walkF_count {σ:Type} {step:σ→Nat→Nat→Stm→Bool × σ} (l:List (Stm × Nat)):∀ (s:σ) (n:Nat),(walkF step l s n).2.2≤n + l.length:=by
 induction l with
 | nil => intro s n; exact Nat.le_refl _
 | cons x l ih =>
   intro s n
   obtain ⟨x,d⟩:=x
   unfold walkF
   cases step s (n + 1) d x with
   | mk b s' =>
     cases b with
     | true => have:=ih s' (n + 1); simp only [List.length_cons]; omega
     | false => simp
structure UpdP (O:Nat→Prop) (w w':World):Prop where
 os:w'.os=w.os
 tape:w'.tape=w.tape
 output:w'.output=w.output
 size:w.heap.size≤w'.heap.size
 keep:∀ k,k < w.heap.size→¬ O k→w'.heap[k]?=w.heap[k]?
theorem UpdP.refl (O:Nat→Prop) (w:World):UpdP O w w:=⟨rfl,rfl,rfl,Nat.le_refl _,fun _ _ _ => rfl⟩
theorem UpdP.trans {O O':Nat→Prop} {a b c:World} (h:UpdP O a b) (k:UpdP O' b c) (hO:∀ x,O' x→O x∨a.heap.size≤x):UpdP O a c :=
 ⟨k.os.trans h.os,k.tape.trans h.tape,k.output.trans h.output,Nat.le_trans h.size k.size,fun i hi hn =>
   (k.keep i (Nat.lt_of_lt_of_le hi h.size) (fun hm => (hO i hm).elim hn (by omega))).trans (h.keep i hi hn)⟩
theorem UpdP.of_upd {S:List Nat} {O:Nat→Prop} {w w':World} (h:Upd S w w') (hS:∀ x ∈ S,O x∨w.heap.size≤x):UpdP O w w' :=
 ⟨h.os,h.tape,h.output,h.size,fun k hk hn => h.keep k hk (fun hm => (hS k hm).elim hn (by omega))⟩
theorem UpdP.below {O:Nat→Prop} {B:Nat} {w w':World} (h:UpdP O w w') (hB:B≤w.heap.size) (hO:∀ x,O x→B≤x):Below B w w' :=
 ⟨h.os,h.tape,h.output,h.size,fun k hk => h.keep k (by omega) (fun hm => by have:=hO k hm; omega)⟩
theorem Blk.updP {O:Nat→Prop} {w w':World} {g:Nat} {t:TypeId} {cs:Array Value} (h:Blk w g t cs) (hu:UpdP O w w') (hg:¬ O g):Blk w' g t cs:=(hu.keep g h.lt hg).trans h
structure Visitor (σ:Type) (fid:FuncId) (caps:Array Value) (B p:Nat) (St:World→σ→Prop) (own:World→Nat→Prop) (step:σ→Nat→Nat→Stm→Bool × σ):Prop where
 enter:∀ args w,(callFunc fid args).run Tryz.prog w=.ok (.enter fid args) w
 keep:∀ w w' s,St w s→Upd [p] w w'→St w' s
 keepOwn:∀ w w' s k,St w s→Upd [p] w w'→own w' k→own w k
 ownB:∀ w s k,St w s→own w k→B≤k∧k≠p∧k < w.heap.size
 visit:∀ w s (n d:Nat) x v,St w s→StmV w B x v→B≤w.heap.size→n≤1000000→d≤1000000→Calls Tryz.prog fid (#[.int .i64 n,.int .i64 d,v] ++ caps) w fun e w' =>
  e=.returned (.bool (step s n d x).1)∧St w' (step s n d x).2∧UpdP (own w) w w'∧∀ k,own w' k→own w k∨w.heap.size≤k
def WalkPost {σ:Type} (St:World→σ→Prop) (own:World→Nat→Prop) (p:Nat) (fv:Value) (w:World) (r:Bool × σ × Nat) (e:Ending) (w':World):Prop :=
 e=.returned (.bool r.1)∧St w' r.2.1∧Blk w' p 202 #[.int .i64 r.2.2,fv]∧UpdP (fun k => own w k∨k=p) w w'∧∀ k,own w' k→own w k∨w.heap.size≤k
theorem walkF_step {σ:Type} {step:σ→Nat→Nat→Stm→Bool × σ} {l:List Stm} {k d:Nat} {s sk:σ} {n nk:Nat} {a1 a2 a3 a4 a5 a6 a7:Int} {bo el:List Stm} (hx:l[k]?=some (.mk a1 a2 a3 a4 a5 a6 a7 bo el))
 (h:walkF step (linesOf d (l.take k)) s n=(true,sk,nk)):walkF step (linesOf d (l.take (k + 1))) s n =
   match step sk (nk + 1) d (.mk a1 a2 a3 a4 a5 a6 a7 bo el) with
   | (false,s') => (false,s',nk + 1)
   | (true,s') => match walkF step (linesOf (d + 1) bo) s' (nk + 1) with
     | (false,s2,n2) => (false,s2,n2)
     | (true,s2,n2) => walkF step (linesOf (d + 1) el) s2 n2:=by
 rw [lines_take d hx,walkF_append,h]
 simp only
 rw [line_mk]
 simp only [walkF]
 cases step sk (nk + 1) d (.mk a1 a2 a3 a4 a5 a6 a7 bo el) with
 | mk b s' =>
   cases b with
   | false => rfl
   | true =>
     simp only
     rw [walkF_append]
     cases walkF step (linesOf (d + 1) bo) s' (nk + 1) with
     | mk b r => cases b <;> rfl
theorem walkF_end {σ:Type} {step:σ→Nat→Nat→Stm→Bool × σ} {l:List Stm} {k d:Nat} {s s':σ} {n n':Nat} (h:walkF step (linesOf d (l.take k)) s n=(false,s',n')):walkF step (linesOf d l) s n=(false,s',n'):=by
 conv => lhs; rw [← List.take_append_drop k l,lines_append,walkF_append,h]
theorem lines_sizes:∀ (m:Nat) (l:List Stm) (d:Nat),sizes l≤m→(linesOf d l).length=sizes l:=by
 intro m
 induction m with
 | zero =>
   intro l d h
   cases l with
   | nil => rfl
   | cons s l => rw [sizes_cons] at h; cases s; rw [size_mk] at h; omega
 | succ m ih =>
   intro l
   induction l with
   | nil => intro d _; rfl
   | cons s l ihl =>
     intro d h
     rw [sizes_cons] at h
     rw [lines_cons,sizes_cons,List.length_append]
     cases s with
     | mk a1 a2 a3 a4 a5 a6 a7 b e =>
       rw [size_mk] at h ⊢
       rw [line_mk,List.length_cons,List.length_append,ih b _ (by omega),ih e _ (by omega),ihl d (by omega)]
       omega
theorem walk_ok {σ:Type} {fid:FuncId} {caps:Array Value} {B p:Nat} {St:World→σ→Prop} {own:World→Nat→Prop} {step:σ→Nat→Nat→Stm→Bool × σ} (V:Visitor σ fid caps B p St own step) (hp:B≤p) :
 ∀ (m:Nat) (l:List Stm) (v:Value) (w:World) (s:σ) (n d:Nat),sizes l < m→Stms w B v l→St w s→Blk w p 202 #[.int .i64 n,.func (.func fid) #[] caps]→B≤w.heap.size→n + sizes l≤1000000→d + sizes l≤1000000 →
 Calls Tryz.prog 105 #[.pointer (some ⟨p,0,none⟩),v,.int .i64 d] w (WalkPost St own p (.func (.func fid) #[] caps) w (walkF step (linesOf d l) s n)):=by
 intro m
 induction m with
 | zero => intro l v w s n d hm; omega
 | succ m ih =>
   intro l v w s n d hm hl hs hb hB hn hd
   have HL:=Zh hl
   cases hl with
   | mk A nn c l vb ve hln hc hcm hcell hbb hee =>
   have hnn:nn≤9223372036854775807:=by omega
   have HS:=Zh hs
   have HB:=Zh hb
   clear hs hb
   have HLN:=Zh hln
   have HCE:=Zh hcell
   have HBB:=Zh hbb
   have HEE:=Zh hee
   have IH:=Zh ih
   have VV:=Zh V
   have OB:Hid (∀ W s x,St W s→own W x∨x=p→B≤x):=Zh (fun W s x h1 h2 => h2.elim (fun h => (V.ownB W s x h1 h).1) (fun h => h ▸ hp))
   have ent:=V.enter
   clear hln hcell hbb hee ih V
   go_enter Tryz.func105,Tryz.ntmps105
   go_wp2_with fail
   go_loopw [11] (fun u wr => ∃ (k:Nat) (sk:σ) (nk:Nat),u=.int .i64 k∧k≤nn∧nk≤n + sizes (l.take k)∧Hid (walkF step (linesOf d (l.take k)) s n=(true,sk,nk))∧Hid (St wr sk)∧Hid (Blk wr p 202 #[.int .i64 nk,.func (.func fid) #[] caps])∧Hid (UpdP (fun k => own w k∨k=p) w wr)∧Hid (∀ k,own wr k→own w k∨w.heap.size≤k)∧w.heap.size≤wr.heap.size) (fun u _ => nn - (intOf u).toNat)
   case atStart => exact ⟨0,s,n,rfl,by omega,by omega,Zh rfl,HS,HB,Zh (.refl _ _),Zh (fun k h => .inl h),Nat.le_refl _⟩
   case round =>
    obtain ⟨k,sk,nk,rfl,hk,hnk,KF,KS,KB,KU,KO,kz⟩:=hrel
    have KL:Hid (Below B w wr):=Zh (KU.out.below hB (fun x hx => OB.out w s x HS.out hx))
    by_cases hkn:k < nn
    ·obtain ⟨x,hx⟩:∃ x,l[k]?=some x:=⟨_,List.getElem?_eq_getElem (by rw [HLN.out]; exact hkn)⟩
     obtain ⟨a1,a2,a3,a4,a5,a6,a7,bo,el⟩:=x
     obtain ⟨ad,rfl,hlt,hcc⟩:=HCE.out k a1 a2 a3 a4 a5 a6 a7 bo el hx
     have c0:wr.cell? (ad.add (k * 9))=some (.int .i64 a1):=(KL.out.cell (by rw [block_add]; exact hlt)).trans (hcc 0 _ rfl)
     have cj:∀ j u,(stmCells a1 a2 a3 a4 a5 a6 a7 (vb k) (ve k))[j + 1]?=some u→wr.cell? ⟨(ad.add (k * 9)).block,(ad.add (k * 9)).off + (j + 1),none⟩=some u:=fun j u hu => by
      rw [← add_more]; exact (KL.out.cell (by rw [block_add]; exact hlt)).trans (hcc (j + 1) _ hu)
     have c1:=cj 0 _ rfl
     have c2:=cj 1 _ rfl
     have c3:=cj 2 _ rfl
     have c4:=cj 3 _ rfl
     have c5:=cj 4 _ rfl
     have c6:=cj 5 _ rfl
     have c7:=cj 6 _ rfl
     have c8:=cj 7 _ rfl
     have hsb:=HBB.out k a1 a2 a3 a4 a5 a6 a7 bo el hx
     have hse:=HEE.out k a1 a2 a3 a4 a5 a6 a7 bo el hx
     obtain ⟨Ab,nb,cb,hvb⟩:=hsb.slice
     obtain ⟨Ae,ne,ce,hve⟩:=hse.slice
     rw [hvb] at c7 hsb
     rw [hve] at c8 hse
     have HSB:=Zh hsb
     have HSE:=Zh hse
     clear hvb hve hsb hse
     have p0:wr.cell? ⟨p,0,none⟩=some (.int .i64 nk):=KB.out.cell 0
     have p1:wr.cell? ⟨p,1,none⟩=some (.func (.func fid) #[] caps):=KB.out.cell 1
     have pf:wr.frozen? ⟨p,0,none⟩=false:=KB.out.frozen 0
     have pl:p < wr.heap.size:=KB.out.lt
     have hsz:=sizes_get hx
     rw [size_mk] at hsz
     have hst:=sizes_take hx
     rw [size_mk] at hst
     have htl:=sizes_take_le l (k + 1)
     have HX:=Zh hx
     have HST:=Zh (walkF_step hx KF.out)
     obtain ⟨X,hX⟩:∃ X,X=Stm.mk a1 a2 a3 a4 a5 a6 a7 bo el:=⟨_,rfl⟩
     rw [← hX] at HST
     have HXX:=Zh hX
     clear hcc cj hx hX
     go_wp2_with fail
     have UQ:Hid (Upd [p] wr (((wr.setCell ⟨p,0,none⟩ (.int .i64 (nk + 1))).alloc (.cells #[.int .i64 a1,.int .i64 a2,.int .i64 a3,.int .i64 a4,.int .i64 a5,.int .i64 a6,.int .i64 a7,.slice Ab nb cb,.slice Ae ne ce] 62)).drew)):=Zh ((((Upd.refl [p] wr).setCell (.inl (by simp)) _).alloc _).drew)
     have BQ:Hid (Blk (((wr.setCell ⟨p,0,none⟩ (.int .i64 (nk + 1))).alloc (.cells #[.int .i64 a1,.int .i64 a2,.int .i64 a3,.int .i64 a4,.int .i64 a5,.int .i64 a6,.int .i64 a7,.slice Ab nb cb,.slice Ae ne ce] 62)).drew) wr.heap.size 62 #[.int .i64 a1,.int .i64 a2,.int .i64 a3,.int .i64 a4,.int .i64 a5,.int .i64 a6,.int .i64 a7,.slice Ab nb cb,.slice Ae ne ce]):=Zh (by
      have:=(Blk.new (wr.setCell ⟨p,0,none⟩ (.int .i64 (nk + 1))) 62 #[.int .i64 a1,.int .i64 a2,.int .i64 a3,.int .i64 a4,.int .i64 a5,.int .i64 a6,.int .i64 a7,.slice Ab nb cb,.slice Ae ne ce]).drew
      rw [show (wr.setCell ⟨p,0,none⟩ (.int .i64 (nk + 1))).heap.size=wr.heap.size by simp [World.setCell]] at this
      exact this)
     have BP:Hid (Blk (((wr.setCell ⟨p,0,none⟩ (.int .i64 (nk + 1))).alloc (.cells #[.int .i64 a1,.int .i64 a2,.int .i64 a3,.int .i64 a4,.int .i64 a5,.int .i64 a6,.int .i64 a7,.slice Ab nb cb,.slice Ae ne ce] 62)).drew) p 202 #[.int .i64 ((nk:Int) + 1),.func (.func fid) #[] caps]):=Zh (((KB.out.set_eq rfl).alloc _).drew)
     refine wp_forced (by kernel_rfl) (by kernel_rfl) ?_
     simp only [ordered,List.filter_cons,List.filter_nil,isFloat,Option.isNone_none,Option.isNone_some,Bool.true_and,Bool.and_true,Bool.false_and,Bool.and_false,List.all_toArray,List.all_cons,List.all_nil,Region.binds,Bool.not_true,Bool.not_false,if_true,if_false,Bool.false_eq_true,List.cons_append,List.nil_append,ite_true,ite_false]
     repeat (refine wpF_light ?_ (fun K hK => ?_); (· simp only [lightOp]; done); go_simp; refine hK _ ?_; clear hK K; simp only [aP])
     refine wpF_call (by simp only [lightOp]) (by rfl) (fun K hK => ?_)
     go_wp2_with fail
     have KU0:Hid (UpdP (fun k => own w k∨k=p) w (((wr.setCell ⟨p,0,none⟩ (.int .i64 (nk + 1))).alloc (.cells #[.int .i64 a1,.int .i64 a2,.int .i64 a3,.int .i64 a4,.int .i64 a5,.int .i64 a6,.int .i64 a7,.slice Ab nb cb,.slice Ae ne ce] 62)).drew)):=Zh (KU.out.trans (UpdP.of_upd (O:=fun x => x=p) UQ.out (by simp)) (fun x hx => .inl (.inr hx)))
     generalize (((wr.setCell ⟨p,0,none⟩ (.int .i64 (nk + 1))).alloc (.cells #[.int .i64 a1,.int .i64 a2,.int .i64 a3,.int .i64 a4,.int .i64 a5,.int .i64 a6,.int .i64 a7,.slice Ab nb cb,.slice Ae ne ce] 62)).drew)=w0 at *
     have S0:=Zh (VV.out.keep _ _ _ KS.out UQ.out)
     have KL0:Hid (Below B w w0):=Zh (KU0.out.below hB (fun x hx => OB.out w s x HS.out hx))
     have z0:B≤w0.heap.size:=Nat.le_trans hB KU0.out.size
     have KO0:Hid (∀ k,own w0 k→own w k∨w.heap.size≤k):=Zh (fun k hk => KO.out k (VV.out.keepOwn _ _ _ k KS.out UQ.out hk))
     have hstep:∃ b s',step sk (nk + 1) d X=(b,s'):=⟨_,_,rfl⟩
     obtain ⟨b,s',hstep⟩:=hstep
     have hc:=VV.out.visit w0 sk (nk + 1) d X (.agg (stmCells a1 a2 a3 a4 a5 a6 a7 (.slice Ab nb cb) (.slice Ae ne ce)).toArray) S0.out (by rw [HXX.out]; exact ⟨_,_,rfl,HSB.out.belowW KL0.out,HSE.out.belowW KL0.out⟩) z0 (by omega) (by omega)
     rw [hstep] at hc HST
     rw [show ((nk + 1:Nat):Int)=(nk:Int) + 1 by omega] at hc
     refine hc.mono ?_; clear hc; rintro e w1 ⟨rfl,s1,u1,o1⟩
     have BQ1:=Zh (BQ.out.updP u1 (fun h => by have:=(VV.out.ownB wr sk _ KS.out (VV.out.keepOwn _ _ _ _ KS.out UQ.out h)).2.2; omega))
     have BP1:=Zh (BP.out.updP u1 (fun h => (VV.out.ownB w0 sk _ S0.out h).2.1 rfl))
     have S1:=Zh s1
     have KU1:=Zh (KU0.out.trans u1 (fun x hx => (KO0.out x hx).elim (fun h => .inl (.inl h)) .inr))
     have KO1:Hid (∀ k,own w1 k→own w k∨w.heap.size≤k):=Zh (fun k hk => (o1 k hk).elim (KO0.out k) (fun h => .inr (by have:=KU0.out.size; omega)))
     have NQ:Hid (¬ own w1 wr.heap.size∧wr.heap.size≠p):=Zh ⟨fun h => by
      rcases o1 _ h with h | h
      ·have:=(VV.out.ownB wr sk _ KS.out (VV.out.keepOwn _ _ _ _ KS.out UQ.out h)).2.2; omega
      ·have:=BQ.out.lt; omega,by omega⟩
     have q7:w1.cell? ⟨wr.heap.size,7,none⟩=some (.slice Ab nb cb):=BQ1.out.cell 7
     have q8:w1.cell? ⟨wr.heap.size,8,none⟩=some (.slice Ae ne ce):=BQ1.out.cell 8
     have z1:B≤w1.heap.size:=Nat.le_trans hB KU1.out.size
     have KL1:Hid (Below B w w1):=Zh (KU1.out.below hB (fun x hx => OB.out w s x HS.out hx))
     have ZW:Hid (w.heap.size≤w1.heap.size):=Zh KU1.out.size
     clear s1 u1 o1 c0 c1 c2 c3 c4 c5 c6 c7 c8 p0 p1 pf pl UQ BP BQ KO0 KL0 S0 KU0 z0 KB KU KL KO
     have HSTEP:=Zh hstep
     clear hstep
     cases b with
     | false =>
       go_wp2_with fail
       refine hK.out _ _ ?_
       clear hK K
       try simp only [aP]
       repeat (first | ((with_reducible refine wpF_no ?_ ?_); (· rfl); simp only [aP]) | ((with_reducible refine wpF_light ?_ (fun K hK => ?_)); (· simp only [lightOp]; done); go_simp; refine hK _ ?_; clear hK K; simp only [aP]))
       refine wpF_end ?_
       go_wp2_with fail
       go_ret
       rw [walkF_end (k:=k + 1) HST.out]
       exact ⟨rfl,S1.out,BP1.out,KU1.out,KO1.out⟩
     | true =>
       go_wp2_with fail
       refine hK.out _ _ ?_
       clear hK K
       try simp only [aP]
       repeat (first | ((with_reducible refine wpF_no ?_ ?_); (· rfl); simp only [aP]) | ((with_reducible refine wpF_light ?_ (fun K hK => ?_)); (· simp only [lightOp]; done); go_simp; refine hK _ ?_; clear hK K; simp only [aP]))
       refine wpF_call (by simp only [lightOp]) (by rfl) (fun K hK => ?_)
       go_wp2_with fail
       have hc:=IH.out bo (.slice Ab nb cb) w1 s' (nk + 1) (d + 1) (by omega) (HSB.out.belowW KL1.out) S1.out BP1.out z1 (by omega) (by omega)
       rw [show ((d + 1:Nat):Int)=(d:Int) + 1 by omega] at hc
       have hst1:=HST.out
       try simp only at hst1
       have hcnt:=walkF_count (step:=step) (linesOf (d + 1) bo) s' (nk + 1)
       rw [lines_sizes _ bo (d + 1) (Nat.le_refl _)] at hcnt
       obtain ⟨b2,s2,n2,hw2⟩:∃ b2 s2 n2,walkF step (linesOf (d + 1) bo) s' (nk + 1)=(b2,s2,n2):=⟨_,_,_,rfl⟩
       rw [hw2] at hst1 hc hcnt
       refine hc.mono ?_; clear hc; rintro e w2 ⟨rfl,t2,bp2,u2,o2⟩
       try dsimp only at bp2 t2 hcnt ⊢
       have hle2:nk + 1 + sizes bo≤n + sizes (l.take (k + 1)):=by omega
       have HST2:=Zh hst1
       have S2:=Zh t2
       have BP2:=Zh bp2
       have KU2:=Zh (KU1.out.trans u2 (fun x hx => hx.elim (fun h => (KO1.out x h).elim (fun h => .inl (.inl h)) .inr) (fun h => .inl (.inr h))))
       have KO2:Hid (∀ k,own w2 k→own w k∨w.heap.size≤k):=Zh (fun k hk => (o2 k hk).elim (KO1.out k) (fun h => .inr (by have:=ZW.out; omega)))
       have BQ2:=Zh (BQ1.out.updP u2 (fun h => h.elim NQ.out.1 NQ.out.2))
       have q8':w2.cell? ⟨wr.heap.size,8,none⟩=some (.slice Ae ne ce):=BQ2.out.cell 8
       have z2:B≤w2.heap.size:=Nat.le_trans hB KU2.out.size
       have KL2:Hid (Below B w w2):=Zh (KU2.out.below hB (fun x hx => OB.out w s x HS.out hx))
       have ZW2:Hid (w.heap.size≤w2.heap.size):=Zh KU2.out.size
       clear q7 q8 bp2 t2 u2 o2 hst1 hw2
       cases b2 with
       | false =>
         go_wp2_with fail
         refine hK.out _ _ ?_
         clear hK K
         try simp only [aP]
         repeat (first | ((with_reducible refine wpF_no ?_ ?_); (· rfl); simp only [aP]) | ((with_reducible refine wpF_light ?_ (fun K hK => ?_)); (· simp only [lightOp]; done); go_simp; refine hK _ ?_; clear hK K; simp only [aP]))
         refine wpF_end ?_
         go_wp2_with fail
         go_ret
         rw [walkF_end (k:=k + 1) HST2.out]
         exact ⟨rfl,S2.out,BP2.out,KU2.out,KO2.out⟩
       | true =>
         go_wp2_with fail
         refine hK.out _ _ ?_
         clear hK K
         try simp only [aP]
         repeat (first | ((with_reducible refine wpF_no ?_ ?_); (· rfl); simp only [aP]) | ((with_reducible refine wpF_light ?_ (fun K hK => ?_)); (· simp only [lightOp]; done); go_simp; refine hK _ ?_; clear hK K; simp only [aP]))
         refine wpF_call (by simp only [lightOp]) (by rfl) (fun K hK => ?_)
         go_wp2_with fail
         have hc:=IH.out el (.slice Ae ne ce) w2 s2 n2 (d + 1) (by omega) (HSE.out.belowW KL2.out) S2.out BP2.out z2 (by omega) (by omega)
         rw [show ((d + 1:Nat):Int)=(d:Int) + 1 by omega] at hc
         have hst3:=HST2.out
         try simp only at hst3
         have hcnt3:=walkF_count (step:=step) (linesOf (d + 1) el) s2 n2
         rw [lines_sizes _ el (d + 1) (Nat.le_refl _)] at hcnt3
         obtain ⟨b3,s3,n3,hw3⟩:∃ b3 s3 n3,walkF step (linesOf (d + 1) el) s2 n2=(b3,s3,n3):=⟨_,_,_,rfl⟩
         rw [hw3] at hst3 hc hcnt3
         refine hc.mono ?_; clear hc; rintro e w3 ⟨rfl,t3,bp3,u3,o3⟩
         try dsimp only at bp3 t3 hcnt3 ⊢
         have HST3:=Zh hst3
         have S3:=Zh t3
         have BP3:=Zh bp3
         have KU3:=Zh (KU2.out.trans u3 (fun x hx => hx.elim (fun h => (KO2.out x h).elim (fun h => .inl (.inl h)) .inr) (fun h => .inl (.inr h))))
         have KO3:Hid (∀ k,own w3 k→own w k∨w.heap.size≤k):=Zh (fun k hk => (o3 k hk).elim (KO2.out k) (fun h => .inr (by have:=ZW2.out; omega)))
         clear q8' bp3 t3 u3 o3 hst3 hw3
         cases b3 with
         | false =>
           go_wp2_with fail
           refine hK.out _ _ ?_
           clear hK K
           try simp only [aP]
           repeat (first | ((with_reducible refine wpF_no ?_ ?_); (· rfl); simp only [aP]) | ((with_reducible refine wpF_light ?_ (fun K hK => ?_)); (· simp only [lightOp]; done); go_simp; refine hK _ ?_; clear hK K; simp only [aP]))
           refine wpF_end ?_
           go_wp2_with fail
           go_ret
           rw [walkF_end (k:=k + 1) HST3.out]
           exact ⟨rfl,S3.out,BP3.out,KU3.out,KO3.out⟩
         | true =>
           go_wp2_with fail
           refine hK.out _ _ ?_
           clear hK K
           try simp only [aP]
           repeat (first | ((with_reducible refine wpF_no ?_ ?_); (· rfl); simp only [aP]) | ((with_reducible refine wpF_light ?_ (fun K hK => ?_)); (· simp only [lightOp]; done); go_simp; refine hK _ ?_; clear hK K; simp only [aP]))
           refine wpF_end ?_
           go_wp2_with fail
           go_roundw
           case rel => exact ⟨k + 1,s3,n3,by go_num,by omega,by omega,HST3,S3,BP3,KU3,KO3,KU3.out.size⟩
           case measure => simp [intOf]; omega
    ·obtain rfl:nn=k:=by omega
     go_wp2_with fail
     go_ret
     have hf:=KF.out
     rw [List.take_of_length_le (by rw [HLN.out]; exact Nat.le_refl _)] at hf
     rw [hf]
     exact ⟨rfl,KS.out,KB.out,KU.out,KO.out⟩
end Go.Proofs.YtmjnmpifibemjaaGreatDoor
namespace Go.Proofs.YtmjnmpifibemjaaGreatDoor
open Go.RowKit Go.Extern.Stop Go.Stop Go.Extern
def cmpEntry:Array Value→Sem Value:=Extern.ReflectliteType.method fun t => do Extern.Rtype.noPackHeld "Comparable" t; pure (.bool (← typeInfo t).comparable)
theorem errnoTypeOf (v:Value) (w:World):(Extern.ReflectliteType.typeOf #[.iface 40 v]).run Tryz.prog w=.ok (.iface 164 (.agg #[.pointer (some ⟨1,40,none⟩)])) w:=by kernel_rfl
theorem errnoComparable (w:World):(cmpEntry #[.agg #[.pointer (some ⟨1,40,none⟩)]]).run Tryz.prog w=.ok (.bool true) w:=by kernel_rfl
theorem errnoComp:(Tryz.prog.info? 40).map (·.comparable)=some true:=by kernel_rfl
theorem errnoNoIs (v:Value) (xT:TypeId) (w:World):(Instr.typeAssert (.iface 40 v) xT 166 true).run Tryz.prog w=.ok (.tuple #[.nilIface,.bool false]) w:=run_typeAssert_lacksB Tryz.underlying166 (by kernel_rfl) (by kernel_rfl) v xT w
theorem errnoNoUnwrap (v:Value) (xT:TypeId) (w:World):(Instr.typeAssert (.iface 40 v) xT 169 true).run Tryz.prog w=.ok (.tuple #[.nilIface,.bool false]) w:=run_typeAssert_lacksB Tryz.underlying169 (by kernel_rfl) (by kernel_rfl) v xT w
theorem errnoNoUnwraps (v:Value) (xT:TypeId) (w:World):(Instr.typeAssert (.iface 40 v) xT 170 true).run Tryz.prog w=.ok (.tuple #[.nilIface,.bool false]) w:=run_typeAssert_lacksB Tryz.underlying170 (by kernel_rfl) (by kernel_rfl) v xT w
theorem faultNoIs (v:Value) (xT:TypeId) (w:World):(Instr.typeAssert (.iface 96 v) xT 166 true).run Tryz.prog w=.ok (.tuple #[.nilIface,.bool false]) w:=run_typeAssert_lacksB Tryz.underlying166 (by kernel_rfl) (by kernel_rfl) v xT w
theorem faultHasUnwrap (v:Value) (xT:TypeId) (w:World):(Instr.typeAssert (.iface 96 v) xT 169 true).run Tryz.prog w=.ok (.tuple #[.iface 96 v,.bool true]) w:=run_typeAssert_hasB Tryz.underlying169 (by kernel_rfl) v xT w
theorem is_errno (a b:Int) (w:World) :
 Calls Tryz.prog 23 #[.iface 40 (.int .i64 a),.iface 40 (.int .i64 b)] w fun e w' => e=.returned (.bool (a == b))∧w=w':=by
 obtain ⟨i,hi,hcmp⟩:=Option.map_eq_some_iff.1 errnoComp
 have h8:=@run_callFunc_extern Tryz.prog 49 _ Extern.ReflectliteType.typeOf Tryz.func49 (by kernel_rfl) (by kernel_rfl) (by kernel_rfl) (by kernel_rfl)
 have h32:=@run_callFunc_extern Tryz.prog 182 _ cmpEntry Tryz.func182 (by kernel_rfl) (by kernel_rfl) (by kernel_rfl) (by kernel_rfl)
 have tT:=errnoTypeOf
 have cT:=errnoComparable
 have heq:=run_eql_iface_int (P:=Tryz.prog) w a b Tryz.underlying45 Tryz.underlying40 hi hcmp
 have n1:=errnoNoIs
 have n2:=errnoNoUnwrap
 have n3:=errnoNoUnwraps
 by_cases hab:a=b
 ·subst hab
  have hb:(a == a)=true:=by simp
  go_enter Tryz.func23,Tryz.ntmps23
  go_wp2
  refine wp_loop_rounds 1 ?_
  rw [rounds_succ]
  go_wp2
  go_ret
  exact ⟨by rw [hb]; rfl,rfl⟩
 ·have hb:(a == b)=false:=by simpa using hab
  clear hab
  go_enter Tryz.func23,Tryz.ntmps23
  go_wp2
  refine wp_loop_rounds 1 ?_
  rw [rounds_succ]
  go_wp2
  go_ret
  exact ⟨by rw [hb]; rfl,rfl⟩
theorem is_fault (g:Nat) (a b:Int) (w:World) (hc:w.cell? ⟨g,1,none⟩=some (.int .i64 a)) :
 Calls Tryz.prog 23 #[.iface 96 (.pointer (some ⟨g,0,none⟩)),.iface 40 (.int .i64 b)] w fun e w' => e=.returned (.bool (a == b))∧w=w':=by
 obtain ⟨i,hi,hcmp⟩:=Option.map_eq_some_iff.1 errnoComp
 have h8:=@run_callFunc_extern Tryz.prog 49 _ Extern.ReflectliteType.typeOf Tryz.func49 (by kernel_rfl) (by kernel_rfl) (by kernel_rfl) (by kernel_rfl)
 have h32:=@run_callFunc_extern Tryz.prog 182 _ cmpEntry Tryz.func182 (by kernel_rfl) (by kernel_rfl) (by kernel_rfl) (by kernel_rfl)
 have tT:=errnoTypeOf
 have cT:=errnoComparable
 have heq:=run_eql_iface_int (P:=Tryz.prog) w a b Tryz.underlying45 Tryz.underlying40 hi hcmp
 have hty:=run_eql_iface_types (P:=Tryz.prog) 96 40 (.pointer (some ⟨g,0,none⟩)) (.int .i64 b) Tryz.underlying45 (by decide) w
 have n1:=errnoNoIs
 have n2:=errnoNoUnwrap
 have n3:=errnoNoUnwraps
 have m1:=faultNoIs
 have m2:=faultHasUnwrap
 by_cases hab:a=b
 ·subst hab
  have hb:(a == a)=true:=by simp
  go_enter Tryz.func23,Tryz.ntmps23
  go_wp2
  refine wp_loop_rounds 2 ?_
  rw [rounds_succ]
  go_wp2
  rw [rounds_succ]
  go_wp2
  go_ret
  exact ⟨by rw [hb]; rfl,rfl⟩
 ·have hb:(a == b)=false:=by simpa using hab
  clear hab
  go_enter Tryz.func23,Tryz.ntmps23
  go_wp2
  refine wp_loop_rounds 2 ?_
  rw [rounds_succ]
  go_wp2
  rw [rounds_succ]
  go_wp2
  go_ret
  exact ⟨by rw [hb]; rfl,rfl⟩
end Go.Proofs.YtmjnmpifibemjaaGreatDoor
namespace Go.Proofs.YtmjnmpifibemjaaGreatDoor
open Go.RowKit
theorem no_nil (w:World):Calls Tryz.prog 10 #[.nilIface] w fun e w' => e=.returned (.int .i64 0)∧w=w':=by
 go_enter Tryz.func10,Tryz.ntmps10
 go_wp2_with fail
 go_ret
 exact ⟨rfl,rfl⟩
theorem no_errno (k:Int) (h1:1≤k) (h2:k≤17) (w:World):Calls Tryz.prog 10 #[.iface 40 (.int .i64 k)] w fun e w' => e=.returned (.int .i64 k)∧w=w':=by
 go_enter Tryz.func10,Tryz.ntmps10
 go_wp2_with fail
 go_loop [3] (fun n => ∃ j:Int,1≤j∧j≤k∧n=.int .i64 j) (fun n => (17 - intOf n).toNat)
 case atStart => exact ⟨1,by omega,by omega,rfl⟩
 case round =>
  obtain ⟨j,hj1,hj2,rfl⟩:=hrel
  by_cases hjk:j=k
  ·subst hjk
   go_wp2_with ((go_at_call 23); (refine (is_errno _ _ _).mono ?_); (rintro e w' ⟨rfl,rfl⟩); (simp only [beq_self_eq_true]))
   go_ret
   exact ⟨rfl,rfl⟩
  ·have hne:(k == j)=false:=by simp; omega
   have hlt:j < k:=by omega
   clear hjk hj2
   go_wp2_with ((go_at_call 23); (refine (is_errno _ _ _).mono ?_); (rintro e w' ⟨rfl,rfl⟩); (simp only [hne]))
   go_round
   case rel => exact ⟨j + 1,by omega,by omega,rfl⟩
   case measure => simp [intOf]; omega
theorem no_fault (g:Nat) (k:Int) (h1:1≤k) (h2:k≤17) (w:World) (hc:w.cell? ⟨g,1,none⟩=some (.int .i64 k)):Calls Tryz.prog 10 #[.iface 96 (.pointer (some ⟨g,0,none⟩))] w fun e w' => e=.returned (.int .i64 k)∧w=w':=by
 go_enter Tryz.func10,Tryz.ntmps10
 go_wp2_with fail
 go_loop [3] (fun n => ∃ j:Int,1≤j∧j≤k∧n=.int .i64 j) (fun n => (17 - intOf n).toNat)
 case atStart => exact ⟨1,by omega,by omega,rfl⟩
 case round =>
  obtain ⟨j,hj1,hj2,rfl⟩:=hrel
  by_cases hjk:j=k
  ·subst hjk
   go_wp2_with ((go_at_call 23); (refine (is_fault _ _ _ _ hc).mono ?_); (rintro e w' ⟨rfl,rfl⟩); (simp only [beq_self_eq_true]))
   go_ret
   exact ⟨rfl,rfl⟩
  ·have hne:(k == j)=false:=by simp; omega
   have hlt:j < k:=by omega
   clear hjk hj2
   go_wp2_with ((go_at_call 23); (refine (is_fault _ _ _ _ hc).mono ?_); (rintro e w' ⟨rfl,rfl⟩); (simp only [hne]))
   go_round
   case rel => exact ⟨j + 1,by omega,by omega,rfl⟩
   case measure => simp [intOf]; omega
end Go.Proofs.YtmjnmpifibemjaaGreatDoor
namespace Go.Proofs.YtmjnmpifibemjaaGreatDoor
open Go.RowKit
def ErrV (w:World) (v:Value) (no at_:Int):Prop :=
 (v=.nilIface∧no=0∧at_=0)∨(v=.iface 40 (.int .i64 no)∧(1≤no∧no≤17)∧at_=0) ∨
 ∃ g,v=.iface 96 (.pointer (some ⟨g,0,none⟩))∧Blk w g 100 #[.int .i64 at_,.int .i64 no]∧1≤no∧no≤17
theorem ErrV.nil (w:World):ErrV w .nilIface 0 0:=.inl ⟨rfl,rfl,rfl⟩
theorem ErrV.errno (w:World) (k:Int) (h1:1≤k) (h2:k≤17):ErrV w (.iface 40 (.int .i64 k)) k 0:=.inr (.inl ⟨rfl,⟨h1,h2⟩,rfl⟩)
theorem ErrV.fault {w:World} {g:Nat} {no at_:Int} (h:Blk w g 100 #[.int .i64 at_,.int .i64 no]) (h1:1≤no) (h2:no≤17):ErrV w (.iface 96 (.pointer (some ⟨g,0,none⟩))) no at_:=.inr (.inr ⟨g,rfl,h,h1,h2⟩)
theorem ErrV.upd {w w':World} {v:Value} {no at_:Int} (h:ErrV w v no at_) (hu:Upd [] w w'):ErrV w' v no at_:=by
 rcases h with h | h | ⟨g,h1,h2,h3⟩
 ·exact .inl h
 ·exact .inr (.inl h)
 ·exact .inr (.inr ⟨g,h1,h2.upd hu (by simp),h3⟩)
theorem no_err {w:World} {v:Value} {no at_:Int} (h:ErrV w v no at_):Calls Tryz.prog 10 #[v] w fun e w' => e=.returned (.int .i64 no)∧w=w':=by
 rcases h with ⟨rfl,rfl,_⟩ | ⟨rfl,⟨h1,h2⟩,_⟩ | ⟨g,rfl,hb,h1,h2⟩
 ·exact no_nil w
 ·exact no_errno no h1 h2 w
 ·exact no_fault g no h1 h2 w (hb.cell 1)
end Go.Proofs.YtmjnmpifibemjaaGreatDoor
namespace Go.Proofs.YtmjnmpifibemjaaGreatDoor
open Go.RowKit Go.Extern.Stop Go.Stop Go.Extern
def Typed (w:World):Prop:=w.cell? ⟨0,0,none⟩=some (.iface 164 (.agg #[.pointer (some ⟨1,45,none⟩)]))∧0 < w.heap.size
theorem Typed.upd {S:List Nat} {w w':World} (h:Typed w) (hu:Upd S w w') (hS:0 ∉ S):Typed w':=⟨(World.cell?_of_block (hu.keep _ h.2 hS)).trans h.1,Nat.lt_of_lt_of_le h.2 hu.size⟩
theorem valueOfPP (t:Addr) (w:World):(ReflectliteValue.unpack (.iface 98 (.pointer (some t)))).run Tryz.prog w
 = .ok (.agg #[.pointer (some ⟨1,98,none⟩),.pointer (some ⟨w.heap.size,0,none⟩),.int .u64 150]) (w.alloc (.cells #[.pointer (some t)] 98)):=by kernel_rfl
theorem typePP (a:Addr) (w:World):(ReflectliteValue.methodAny (ReflectliteValue.valueError "reflectlite.Value.Type" 0) (fun t _ _ _ => ReflectliteType.toType t) #[.agg #[.pointer (some ⟨1,98,none⟩),.pointer (some a),.int .u64 150]]).run Tryz.prog w
 = .ok (.iface 164 (.agg #[.pointer (some ⟨1,98,none⟩)])) w:=by kernel_rfl
def kindEntry:Array Value→Sem Value:=ReflectliteType.abiMethod fun t => do pure (.int .u8 (← Rtype.kind t))
theorem kindPP (w:World):(kindEntry #[.pointer (some ⟨1,98,none⟩)]).run Tryz.prog w=.ok (.int .u8 22) w:=by kernel_rfl
theorem kindP (w:World):(kindEntry #[.pointer (some ⟨1,96,none⟩)]).run Tryz.prog w=.ok (.int .u8 22) w:=by kernel_rfl
theorem rlm (z:Sem Value) (f:TypeId→Addr→Nat→Nat→Sem Value) (v:Value) :
 ReflectliteValue.method z f #[v]=(do match ← ReflectliteValue.parts v with | none => z | some (t,a,fl) => f t a fl (fl % 32)):=rfl
theorem partsPP (a:Addr) (w:World):(ReflectliteValue.parts (.agg #[.pointer (some ⟨1,98,none⟩),.pointer (some a),.int .u64 150])).run Tryz.prog w=.ok (some (98,a,150)) w:=by kernel_rfl
theorem isNilPP (a p:Addr) (W:World) (ha:W.cell? a=some (.pointer (some p))) :
 (ReflectliteValue.method (ReflectliteValue.valueError "reflectlite.Value.IsNil" 0) ReflectliteValue.isNil #[.agg #[.pointer (some ⟨1,98,none⟩),.pointer (some a),.int .u64 150]]).run Tryz.prog W=.ok (.bool false) W:=by
 rw [rlm]
 simp only [Sem.run_bind,partsPP,Result.andThen]
 simp [ReflectliteValue.isNil,loadVar,isAgg,underlying,Tryz.underlying98,ha,Result.andThen]
theorem elemPP (w:World):(ReflectliteType.method ReflectliteType.elem #[.agg #[.pointer (some ⟨1,98,none⟩)]]).run Tryz.prog w=.ok (.iface 164 (.agg #[.pointer (some ⟨1,96,none⟩)])) w:=by kernel_rfl
theorem implementsP (w:World):(ReflectliteType.relation "Implements" ReflectliteType.implements_ #[.agg #[.pointer (some ⟨1,96,none⟩)],.iface 164 (.agg #[.pointer (some ⟨1,45,none⟩)])]).run Tryz.prog w=.ok (.bool true) w:=by kernel_rfl
theorem typeOfP (v:Value) (w:World):(ReflectliteType.typeOf #[.iface 96 v]).run Tryz.prog w=.ok (.iface 164 (.agg #[.pointer (some ⟨1,96,none⟩)])) w:=by kernel_rfl
theorem assignableP (w:World):(ReflectliteType.relation "AssignableTo" ReflectliteType.assignableTo #[.agg #[.pointer (some ⟨1,96,none⟩)],.iface 164 (.agg #[.pointer (some ⟨1,96,none⟩)])]).run Tryz.prog w=.ok (.bool true) w:=by kernel_rfl
theorem assignableE (w:World):(ReflectliteType.relation "AssignableTo" ReflectliteType.assignableTo #[.agg #[.pointer (some ⟨1,40,none⟩)],.iface 164 (.agg #[.pointer (some ⟨1,96,none⟩)])]).run Tryz.prog w=.ok (.bool false) w:=by kernel_rfl
theorem valueOfP (e:Addr) (w:World):(ReflectliteValue.unpack (.iface 96 (.pointer (some e)))).run Tryz.prog w
 = .ok (.agg #[.pointer (some ⟨1,96,none⟩),.pointer (some ⟨w.heap.size,0,none⟩),.int .u64 150]) (w.alloc (.cells #[.pointer (some e)] 96)):=by kernel_rfl
theorem elemOfPP (w:World):(Rtype.elem? 98).run Tryz.prog w=.ok (some 96) w:=by kernel_rfl
theorem mkP (p:Addr) (w:World):(ReflectliteValue.mk 96 p ReflectliteValue.flagAddr).run Tryz.prog w=.ok (.agg #[.pointer (some ⟨1,96,none⟩),.pointer (some p),.int .u64 406]) w:=by kernel_rfl
theorem elemVPP (a p:Addr) (W:World) (ha:W.cell? a=some (.pointer (some p))) :
 (ReflectliteValue.method (ReflectliteValue.valueError "reflectlite.Value.Elem" 0) ReflectliteValue.elem #[.agg #[.pointer (some ⟨1,98,none⟩),.pointer (some a),.int .u64 150]]).run Tryz.prog W
   = .ok (.agg #[.pointer (some ⟨1,96,none⟩),.pointer (some p),.int .u64 406]) W:=by
 rw [rlm]
 simp only [Sem.run_bind,partsPP,Result.andThen]
 simp [ReflectliteValue.elem,loadVar,isAgg,underlying,Tryz.underlying98,ha,Result.andThen,elemOfPP,mkP]
theorem rls (v x:Value):ReflectliteValue.set #[v,x]=(do
 let (some (dst,a,fl),some (src,b,_)):=(← ReflectliteValue.parts v,← ReflectliteValue.parts x)
  | unsupported (.noEntry "extern/(internal/reflectlite.Value).Set.zeroValue")
 if fl / ReflectliteValue.flagAddr % 2 == 0 then unsupported (.noEntry "extern/(internal/reflectlite.Value).Set.unaddressable")
 let val ← loadVar src b
 if ← Rtype.directlyAssignable dst src then storeVar dst a val
 else if ← Rtype.implements dst src then
  if (← Rtype.kind src) == 20 then
   match val with
   | .nilIface => unsupported (.noEntry "extern/reflectlite: a nil value of one interface type handed on as a value of another")
   | _ => storeVar dst a val
  else storeVar dst a (.iface src val)
 else panicString ("reflectlite.Set: value of type " ++ (← Rtype.spelt src) ++ " is not assignable to type " ++ (← Rtype.spelt dst))
 pure (.tuple #[])):=rfl
theorem partsPa (a:Addr) (w:World):(ReflectliteValue.parts (.agg #[.pointer (some ⟨1,96,none⟩),.pointer (some a),.int .u64 406])).run Tryz.prog w=.ok (some (96,a,406)) w:=by kernel_rfl
theorem partsP (a:Addr) (w:World):(ReflectliteValue.parts (.agg #[.pointer (some ⟨1,96,none⟩),.pointer (some a),.int .u64 150])).run Tryz.prog w=.ok (some (96,a,150)) w:=by kernel_rfl
theorem directP (w:World):(Rtype.directlyAssignable 96 96).run Tryz.prog w=.ok true w:=by kernel_rfl
theorem setP (ta b e:Addr) (old:Value) (W:World) (hb:W.cell? b=some (.pointer (some e))) (ht:W.cell? ta=some old) (hf:W.frozen? ta=false) :
 (ReflectliteValue.set #[.agg #[.pointer (some ⟨1,96,none⟩),.pointer (some ta),.int .u64 406],.agg #[.pointer (some ⟨1,96,none⟩),.pointer (some b),.int .u64 150]]).run Tryz.prog W
   = .ok (.tuple #[]) (W.setCell ta (.pointer (some e))):=by
 rw [rls]
 simp only [Sem.run_bind,partsPa,partsP,Result.andThen]
 simp [ReflectliteValue.flagAddr,loadVar,isAgg,underlying,Tryz.underlying96,hb,Result.andThen,directP,storeVar,Value.cells,storeCells,Addr.add]
 rw [run_store Tryz.prog W ta _ _ (by rfl)]
 simp [ht,hf]
theorem as_nil (t:Value) (w:World):Calls Tryz.prog 38 #[.nilIface,t] w fun e w' => e=.returned (.bool false)∧w=w':=by
 go_enter Tryz.func38,Tryz.ntmps38
 go_wp2_with fail
 go_ret
 exact ⟨rfl,rfl⟩
theorem errnoTypeOf' (v:Value) (w:World):(ReflectliteType.typeOf #[.iface 40 v]).run Tryz.prog w=.ok (.iface 164 (.agg #[.pointer (some ⟨1,40,none⟩)])) w:=by kernel_rfl
theorem errnoNoAs (v:Value) (xT:TypeId) (w:World):(Instr.typeAssert (.iface 40 v) xT 189 true).run Tryz.prog w=.ok (.tuple #[.nilIface,.bool false]) w:=run_typeAssert_lacksB Tryz.underlying189 (by kernel_rfl) (by kernel_rfl) v xT w
def asWorld (w:World) (t:Nat):World:=((w.alloc (.cells #[.pointer (some ⟨t,0,none⟩)] 98)).alloc (.cells #[.pointer (some ⟨1,98,none⟩),.pointer (some ⟨w.heap.size,0,none⟩),.int .u64 150] 138)).alloc (.cells #[.pointer (some ⟨1,98,none⟩),.pointer (some ⟨w.heap.size,0,none⟩),.int .u64 150] 138)
theorem as_fault (g t:Nat) (w:World) (hg:Typed w) (ht0:Blk w t 96 #[.pointer none]) :
 Calls Tryz.prog 38 #[.iface 96 (.pointer (some ⟨g,0,none⟩)),.iface 98 (.pointer (some ⟨t,0,none⟩))] w fun ev w' => ev=.returned (.bool true)∧w'=((asWorld w t).alloc (.cells #[.pointer (some ⟨g,0,none⟩)] 96)).setCell ⟨t,0,none⟩ (.pointer (some ⟨g,0,none⟩)):=by
 have h6:=@run_callFunc_extern Tryz.prog 66 _ (fun args => ReflectliteValue.unpack (args.getD 0 (.tuple #[]))) Tryz.func66 (by kernel_rfl) (by kernel_rfl) (by kernel_rfl) (by kernel_rfl)
 have h7:=@run_callFunc_extern Tryz.prog 67 _ (ReflectliteValue.methodAny (ReflectliteValue.valueError "reflectlite.Value.Type" 0) (fun t _ _ _ => ReflectliteType.toType t)) Tryz.func67 (by kernel_rfl) (by kernel_rfl) (by kernel_rfl) (by kernel_rfl)
 have h8:=@run_callFunc_extern Tryz.prog 68 _ (ReflectliteValue.method (ReflectliteValue.valueError "reflectlite.Value.IsNil" 0) ReflectliteValue.isNil) Tryz.func68 (by kernel_rfl) (by kernel_rfl) (by kernel_rfl) (by kernel_rfl)
 have h27:=@run_callFunc_extern Tryz.prog 165 _ kindEntry Tryz.func165 (by kernel_rfl) (by kernel_rfl) (by kernel_rfl) (by kernel_rfl)
 have h37:=@run_callFunc_extern Tryz.prog 183 _ (ReflectliteType.method ReflectliteType.elem) Tryz.func183 (by kernel_rfl) (by kernel_rfl) (by kernel_rfl) (by kernel_rfl)
 have h38:=@run_callFunc_extern Tryz.prog 184 _ (ReflectliteType.relation "Implements" ReflectliteType.implements_) Tryz.func184 (by kernel_rfl) (by kernel_rfl) (by kernel_rfl) (by kernel_rfl)
 have h10:=@run_callFunc_extern Tryz.prog 49 _ ReflectliteType.typeOf Tryz.func49 (by kernel_rfl) (by kernel_rfl) (by kernel_rfl) (by kernel_rfl)
 have h35:=@run_callFunc_extern Tryz.prog 181 _ (ReflectliteType.relation "AssignableTo" ReflectliteType.assignableTo) Tryz.func181 (by kernel_rfl) (by kernel_rfl) (by kernel_rfl) (by kernel_rfl)
 have h11:=@run_callFunc_extern Tryz.prog 90 _ (ReflectliteValue.method (ReflectliteValue.valueError "reflectlite.Value.Elem" 0) ReflectliteValue.elem) Tryz.func90 (by kernel_rfl) (by kernel_rfl) (by kernel_rfl) (by kernel_rfl)
 have h12:=@run_callFunc_extern Tryz.prog 91 _ ReflectliteValue.set Tryz.func91 (by kernel_rfl) (by kernel_rfl) (by kernel_rfl) (by kernel_rfl)
 have tO:=typeOfP
 have a25:=assignableP
 have v25:=valueOfP
 have f6:=valueOfPP
 have f7:=typePP
 have k27:=kindPP
 have k25:=kindP
 have e27:=elemPP
 have i25:=implementsP
 have b0:Blk ((w.alloc (.cells #[.pointer (some ⟨t,0,none⟩)] 98)).alloc (.cells #[.pointer (some ⟨1,98,none⟩),.pointer (some ⟨w.heap.size,0,none⟩),.int .u64 150] 138)) w.heap.size 98 #[.pointer (some ⟨t,0,none⟩)]:=(Blk.new w _ _).alloc _
 have n8:=isNilPP ⟨w.heap.size,0,none⟩ ⟨t,0,none⟩ _ (by rw [b0.cell]; rfl)
 have hg2:=((hg.upd ((Upd.refl [] w).alloc (.cells #[.pointer (some ⟨t,0,none⟩)] 98)) (by simp)).upd ((Upd.refl [] _).alloc (.cells #[.pointer (some ⟨1,98,none⟩),.pointer (some ⟨w.heap.size,0,none⟩),.int .u64 150] 138)) (by simp)).1
 have b1:Blk (asWorld w t) w.heap.size 98 #[.pointer (some ⟨t,0,none⟩)]:=b0.alloc _
 have el:=elemVPP ⟨w.heap.size,0,none⟩ ⟨t,0,none⟩ (asWorld w t) (by rw [b1.cell]; rfl)
 have hT:Blk ((asWorld w t).alloc (.cells #[.pointer (some ⟨g,0,none⟩)] 96)) t 96 #[.pointer none]:=(((ht0.alloc _).alloc _).alloc _).alloc _
 have st:=setP ⟨t,0,none⟩ ⟨w.heap.size + 1 + 1 + 1,0,none⟩ ⟨g,0,none⟩ (.pointer none) ((asWorld w t).alloc (.cells #[.pointer (some ⟨g,0,none⟩)] 96))
  (by have:=(Blk.new (asWorld w t) 96 #[.pointer (some ⟨g,0,none⟩)]).cell 0; simpa [asWorld] using this) (by rw [hT.cell]; rfl) (hT.frozen 0)
 simp only [asWorld] at el st ⊢
 clear hT b0 b1 ht0 hg
 go_enter Tryz.func38,Tryz.ntmps38
 go_wp2
 refine wp_loop_rounds 1 ?_
 rw [rounds_succ]
 go_wp2
 go_ret
 exact ⟨rfl,rfl⟩
theorem as_errno (k:Int) (t:Nat) (w:World) (hg:Typed w) :
 Calls Tryz.prog 38 #[.iface 40 (.int .i64 k),.iface 98 (.pointer (some ⟨t,0,none⟩))] w fun ev w' => ev=.returned (.bool false)∧w'=asWorld w t:=by
 have h6:=@run_callFunc_extern Tryz.prog 66 _ (fun args => ReflectliteValue.unpack (args.getD 0 (.tuple #[]))) Tryz.func66 (by kernel_rfl) (by kernel_rfl) (by kernel_rfl) (by kernel_rfl)
 have h7:=@run_callFunc_extern Tryz.prog 67 _ (ReflectliteValue.methodAny (ReflectliteValue.valueError "reflectlite.Value.Type" 0) (fun t _ _ _ => ReflectliteType.toType t)) Tryz.func67 (by kernel_rfl) (by kernel_rfl) (by kernel_rfl) (by kernel_rfl)
 have h8:=@run_callFunc_extern Tryz.prog 68 _ (ReflectliteValue.method (ReflectliteValue.valueError "reflectlite.Value.IsNil" 0) ReflectliteValue.isNil) Tryz.func68 (by kernel_rfl) (by kernel_rfl) (by kernel_rfl) (by kernel_rfl)
 have h27:=@run_callFunc_extern Tryz.prog 165 _ kindEntry Tryz.func165 (by kernel_rfl) (by kernel_rfl) (by kernel_rfl) (by kernel_rfl)
 have h37:=@run_callFunc_extern Tryz.prog 183 _ (ReflectliteType.method ReflectliteType.elem) Tryz.func183 (by kernel_rfl) (by kernel_rfl) (by kernel_rfl) (by kernel_rfl)
 have h38:=@run_callFunc_extern Tryz.prog 184 _ (ReflectliteType.relation "Implements" ReflectliteType.implements_) Tryz.func184 (by kernel_rfl) (by kernel_rfl) (by kernel_rfl) (by kernel_rfl)
 have h10:=@run_callFunc_extern Tryz.prog 49 _ ReflectliteType.typeOf Tryz.func49 (by kernel_rfl) (by kernel_rfl) (by kernel_rfl) (by kernel_rfl)
 have h35:=@run_callFunc_extern Tryz.prog 181 _ (ReflectliteType.relation "AssignableTo" ReflectliteType.assignableTo) Tryz.func181 (by kernel_rfl) (by kernel_rfl) (by kernel_rfl) (by kernel_rfl)
 have tE:=errnoTypeOf'
 have aE:=assignableE
 have f6:=valueOfPP
 have f7:=typePP
 have k27:=kindPP
 have k25:=kindP
 have e27:=elemPP
 have i25:=implementsP
 have n0:=errnoNoAs
 have n2:=errnoNoUnwrap
 have n3:=errnoNoUnwraps
 have b0:Blk ((w.alloc (.cells #[.pointer (some ⟨t,0,none⟩)] 98)).alloc (.cells #[.pointer (some ⟨1,98,none⟩),.pointer (some ⟨w.heap.size,0,none⟩),.int .u64 150] 138)) w.heap.size 98 #[.pointer (some ⟨t,0,none⟩)]:=(Blk.new w _ _).alloc _
 have n8:=isNilPP ⟨w.heap.size,0,none⟩ ⟨t,0,none⟩ _ (by rw [b0.cell]; rfl)
 have hg2:=((hg.upd ((Upd.refl [] w).alloc (.cells #[.pointer (some ⟨t,0,none⟩)] 98)) (by simp)).upd ((Upd.refl [] _).alloc (.cells #[.pointer (some ⟨1,98,none⟩),.pointer (some ⟨w.heap.size,0,none⟩),.int .u64 150] 138)) (by simp)).1
 simp only [asWorld]
 clear b0 hg
 go_enter Tryz.func38,Tryz.ntmps38
 go_wp2
 refine wp_loop_rounds 1 ?_
 rw [rounds_succ]
 go_wp2
 go_ret
 exact ⟨rfl,rfl⟩
theorem asWorld_upd (w:World) (t:Nat):Upd [] w (asWorld w t):=(((Upd.refl [] w).alloc _).alloc _).alloc _
theorem place_nil (w:World):Calls Tryz.prog 16 #[.nilIface] w fun e w' => e=.returned (.int .i64 0)∧Upd [] w w':=by
 go_enter Tryz.func16,Tryz.ntmps16
 go_wp2_with fail
 refine (as_nil _ _).mono ?_; rintro e w' ⟨rfl,rfl⟩
 go_wp2_with fail
 go_ret
 exact ⟨rfl,(Upd.refl [] w).alloc _⟩
theorem place_errno (k:Int) (w:World) (hg:Typed w):Calls Tryz.prog 16 #[.iface 40 (.int .i64 k)] w fun e w' => e=.returned (.int .i64 0)∧Upd [] w w':=by
 have hg':=hg.upd ((Upd.refl [] w).alloc (.cells #[.pointer none] 96)) (by simp)
 go_enter Tryz.func16,Tryz.ntmps16
 go_wp2_with fail
 refine (as_errno k _ _ hg').mono ?_; rintro e w' ⟨rfl,rfl⟩
 go_wp2_with fail
 go_ret
 exact ⟨rfl,((Upd.refl [] w).alloc _).trans (asWorld_upd _ _)⟩
theorem place_fault (g:Nat) (at_ k:Int) (w:World) (hg:Typed w) (hf:Blk w g 100 #[.int .i64 at_,.int .i64 k]):Calls Tryz.prog 16 #[.iface 96 (.pointer (some ⟨g,0,none⟩))] w fun e w' => e=.returned (.int .i64 at_)∧Upd [] w w':=by
 have hg':=hg.upd ((Upd.refl [] w).alloc (.cells #[.pointer none] 96)) (by simp)
 have hb:=Blk.new w 96 #[.pointer none]
 go_enter Tryz.func16,Tryz.ntmps16
 go_wp2_with fail
 refine (as_fault g _ _ hg' hb).mono ?_; rintro e w1 ⟨rfl,hw⟩
 have hu:Upd [w.heap.size] (w.alloc (.cells #[.pointer none] 96)) w1:=by
  rw [hw]; exact (((asWorld_upd _ _).mono (by simp)).alloc _).setCell (by simp) _
 have h1:w1.cell? ⟨w.heap.size,0,none⟩=some (.pointer (some ⟨g,0,none⟩)):=by
  rw [hw]
  have h0:Blk (asWorld (w.alloc (.cells #[.pointer none] 96)) w.heap.size) w.heap.size 96 #[.pointer none]:=hb.upd (asWorld_upd _ _) (by simp)
  rw [((h0.alloc (.cells #[.pointer (some ⟨g,0,none⟩)] 96)).set_ 0 (.pointer (some ⟨g,0,none⟩))).cell]; rfl
 have h2:w1.cell? ⟨g,0,none⟩=some (.int .i64 at_):=by
  have hne:g≠w.heap.size:=by have:=hf.lt; omega
  rw [((hf.alloc (.cells #[.pointer none] 96)).upd hu (by simpa using hne)).cell]; rfl
 clear hw hb hf
 go_wp2_with fail
 go_ret
 refine ⟨rfl,((Upd.refl [] w).alloc _).trans' hu ?_⟩
 simp
end Go.Proofs.YtmjnmpifibemjaaGreatDoor
namespace Go.Proofs.YtmjnmpifibemjaaGreatDoor
open Go.RowKit
theorem place_err {w:World} {v:Value} {no at_:Int} (h:ErrV w v no at_) (ht:Typed w):Calls Tryz.prog 16 #[v] w fun e w' => e=.returned (.int .i64 at_)∧Upd [] w w':=by
 rcases h with ⟨rfl,_,rfl⟩ | ⟨rfl,_,rfl⟩ | ⟨g,rfl,hb,_⟩
 ·exact place_nil w
 ·exact place_errno no w ht
 ·exact place_fault g at_ no w ht hb
end Go.Proofs.YtmjnmpifibemjaaGreatDoor

/-
 concordref08.State: what it keeps; There, Find, Get, Ceil, Range.
-/
import Derived.Test.YtmjnmpifibemjaaGreatDoorJtB12
import Derived.Test.YtmjnmpifibemjaaGreatDoorJtB13
import Derived.Test.YtmjnmpifibemjaaGreatDoorJtB10
import Derived.Test.YtmjnmpifibemjaaGreatDoorJtB2
import Derived.BigRegion
import Derived.Test.YtmjnmpifibemjaaGreatDoorJtB4
import Derived.Test.YtmjnmpifibemjaaGreatDoorJtB8
set_option linter.unusedVariables false
set_option linter.unusedSimpArgs false
set_option maxRecDepth 100000
set_option maxHeartbeats 16000000
namespace Go.Proofs.YtmjnmpifibemjaaGreatDoor
open Go.RowKit Assoc MP
attribute [local go_sem] litStep_value
structure RMSt (B rb:Nat) (vk vl:Value) (ms:List Value) (w:World) (s:MS):Prop where
 box:Blk w rb 65 #[vk,vl]
 k:Ow encK 3 w B vk s.K
 l:w.ownsRow B 103 1 vl s.L.length ms
 each:∀ (i:Nat) (v:Value) (l:AL),ms[i]?=some v→s.L[i]?=some l→Ow encPr 157 w B v l
 b:B≤rb
def ownsOf (ms:List Value):List Nat:=ms.flatMap (fun v => v.ownBlock.toList)
theorem mem_owns {ms:List Value} {b:Nat}:b ∈ ownsOf ms↔∃ v ∈ ms,v.ownBlock=some b:=by
 unfold ownsOf
 simp [List.mem_flatMap]
def fpRM (rb:Nat) (vk vl:Value) (ms:List Value):List Nat:=rb :: (vk.ownBlock.toList ++ vl.ownBlock.toList ++ ownsOf ms)
def RMdl (B rb:Nat) (F:List Nat) (w:World) (s:MS):Prop:=MP.Good s∧∃ vk vl ms,F=fpRM rb vk vl ms∧RMSt B rb vk vl ms w s
section
variable {B rb:Nat} {vk vl:Value} {ms:List Value} {w w':World} {s:MS} {F T:List Nat}
theorem RMSt.mlen (h:RMSt B rb vk vl ms w s):ms.length=s.L.length:=by have:=own_len h.l; omega
theorem RMSt.mem (h:RMSt B rb vk vl ms w s) {v:Value} (hv:v ∈ ms):∃ l,l ∈ s.L∧Ow encPr 157 w B v l:=by
 obtain ⟨i,hi,rfl⟩:=List.getElem_of_mem hv
 have hi':i < s.L.length:=by rw [← h.mlen]; exact hi
 exact ⟨s.L[i],List.getElem_mem _,h.each i _ _ (List.getElem?_eq_getElem hi) (List.getElem?_eq_getElem hi')⟩
theorem RMSt.upd (h:RMSt B rb vk vl ms w s) (hu:Upd T w w') (hT:∀ k ∈ fpRM rb vk vl ms,k ∉ T):RMSt B rb vk vl ms w' s:=by
 unfold fpRM at hT
 simp only [List.mem_cons,List.mem_append,Option.mem_toList] at hT
 refine ⟨h.box.upd hu (hT _ (.inl rfl)),h.k.upd hu fun b hb => hT b (.inr (.inl (.inl hb))),own_upd h.l hu fun b hb => hT b (.inr (.inl (.inr hb))),fun i v l hv hl => (h.each i v l hv hl).upd hu fun b hb => hT b (.inr (.inr (mem_owns.2 ⟨v,List.mem_of_getElem? hv,hb⟩))),h.b⟩
theorem RMdl.upd (h:RMdl B rb F w s) (hu:Upd T w w') (hT:Disj F T):RMdl B rb F w' s:=by
 obtain ⟨g,vk,vl,ms,rfl,h⟩:=h
 exact ⟨g,vk,vl,ms,rfl,h.upd hu hT⟩
theorem RMdl.upd0 (h:RMdl B rb F w s) (hu:Upd [] w w'):RMdl B rb F w' s:=h.upd hu (fun k _ => by simp)
theorem RMSt.lt (h:RMSt B rb vk vl ms w s):∀ k ∈ fpRM rb vk vl ms,B≤k∧k < w.heap.size:=by
 intro k hk
 unfold fpRM at hk
 simp only [List.mem_cons,List.mem_append,Option.mem_toList] at hk
 rcases hk with rfl | (hk | hk) | hk
 ·exact ⟨h.b,h.box.lt⟩
 ·exact own_lt h.k hk
 ·exact own_lt h.l hk
 ·obtain ⟨v,hv,hb⟩:=mem_owns.1 hk
  obtain ⟨l,_,ho⟩:=h.mem hv
  exact own_lt ho hb
theorem RMdl.lt (h:RMdl B rb F w s):∀ k ∈ F,B≤k∧k < w.heap.size:=by
 obtain ⟨g,vk,vl,ms,rfl,h⟩:=h
 exact h.lt
theorem RMSt.at_ (h:RMSt B rb vk vl ms w s) {i:Nat} (hi:i < s.L.length):∃ gl cl Ai ci,vl=.slice (some ⟨gl,0,none⟩) s.L.length cl∧w.cell? ⟨gl,i,none⟩=some (.slice Ai (coll s i).length ci)∧Ow encPr 157 w B (.slice Ai (coll s i).length ci) (coll s i)∧ms[i]?=some (.slice Ai (coll s i).length ci):=by
 obtain ⟨gl,cl,cur,rfl,_⟩:=own_form h.l (by omega)
 have hm:i < ms.length:=by rw [h.mlen]; exact hi
 have ho:=h.each i _ _ (List.getElem?_eq_getElem hm) (coll_get hi)
 obtain ⟨Ai,ci,e,_⟩:=own_slice ho
 have hc:=own_cell h.l i _ (List.getElem?_eq_getElem hm)
 rw [e] at ho hc
 exact ⟨gl,cl,Ai,ci,rfl,hc,ho,by rw [List.getElem?_eq_getElem hm,e]⟩
end
theorem rm_there (B rb:Nat) (F:List Nat) (s:MS) (c:Int) (w:World) (h:RMdl B rb F w s) :
 Calls Tryz.prog 110 #[.pointer (some ⟨rb,0,none⟩),.int .i64 c] w fun e w' => e=.returned (.bool (isC s c))∧w=w':=by
 obtain ⟨g,vk,vl,ms,hF,h⟩:=h
 obtain ⟨Al,cl,rfl,_,_⟩:=own_slice h.l
 obtain ⟨n,hn⟩:∃ n,s.L.length=n:=⟨_,rfl⟩
 have c1:w.cell? ⟨rb,1,none⟩=some (.slice Al n cl):=by rw [← hn]; exact h.box.cell 1
 have hn8:n≤8:=by rw [← hn,← g.kl]; exact g.k8
 obtain ⟨r,hr⟩:∃ r,isC s c=r:=⟨_,rfl⟩
 have HR:Hid (r=decide (0≤c∧c < (n:Int))):=Zh (by rw [← hr]; unfold isC; rw [hn])
 rw [hr]
 clear h g hF hn hr
 go_enter Tryz.func110,Tryz.ntmps110
 by_cases h0:0≤c
 ·have d0:decide (0≤c)=true:=by simpa using h0
  by_cases h1:c < (n:Int)
  ·have d1:decide (c < (n:Int))=true:=by simpa using h1
   have HZ:Hid (r=true):=Zh (by rw [HR.out,decide_eq_true_iff]; exact ⟨h0,h1⟩)
   clear h0 h1
   go_wp2_with fail
   go_ret
   exact ⟨by rw [HZ.out]; rfl,rfl⟩
  ·have d1:decide (c < (n:Int))=false:=by simpa using h1
   have HZ:Hid (r=false):=Zh (by rw [HR.out,decide_eq_false_iff_not]; exact fun h => h1 h.2)
   clear h0 h1
   go_wp2_with fail
   go_ret
   exact ⟨by rw [HZ.out]; rfl,rfl⟩
 ·have d0:decide (0≤c)=false:=by simpa using h0
  have HZ:Hid (r=false):=Zh (by rw [HR.out,decide_eq_false_iff_not]; exact fun h => h0 h.1)
  clear h0
  go_wp2_with fail
  go_ret
  exact ⟨by rw [HZ.out]; rfl,rfl⟩
theorem rm_find (B rb:Nat) (F:List Nat) (s:MS) (i:Nat) (k:Int) (w:World) (h:RMdl B rb F w s) (hi:i < s.L.length) :
 Calls Tryz.prog 111 #[.pointer (some ⟨rb,0,none⟩),.int .i64 i,.int .i64 k] w fun e w' => e=.returned (.int .i64 (posW (coll s i) k))∧w=w':=by
 obtain ⟨hgd,vk,vl,ms,hF,hst⟩:=h
 obtain ⟨gl,cl,Ai,ci,rfl,hcell,hoi,_⟩:=hst.at_ hi
 obtain ⟨N,hN⟩:∃ N,s.L.length=N:=⟨_,rfl⟩
 obtain ⟨n,hn⟩:∃ n,(coll s i).length=n:=⟨_,rfl⟩
 have hn1:n≤100:=hn ▸ hgd.len _ (coll_mem hi)
 have hi2:i < N:=hN ▸ hi
 have c1:w.cell? ⟨rb,1,none⟩=some (.slice (some ⟨gl,0,none⟩) N cl):=by rw [← hN]; exact hst.box.cell 1
 have e0:w.cell? ⟨gl,i,none⟩=some (.slice Ai n ci):=by rw [← hn]; exact hcell
 have ON:Hid (w.ownsRow B 157 2 (.slice Ai n ci) n (flat encPr (coll s i))):=Zh (by have:=hoi; unfold Ow at this; rw [hn] at this; exact this)
 have HN:=Zh hn
 have OI:Hid (Ow encPr 157 w B (.slice Ai n ci) (coll s i)):=Zh (by rw [← hn]; exact hoi)
 have q1:(0:Int)≤(i:Int):=by omega
 have q2:(i:Int) < (N:Int):=by omega
 clear hcell hoi hN hn
 obtain ⟨r,hr⟩:∃ r,posW (coll s i) k=r:=⟨_,rfl⟩
 have HR:=Zh hr
 rw [hr]
 clear hgd hst hF hi hr
 go_enter Tryz.func111,Tryz.ntmps111
 go_wp2_with fail
 go_loop [7] (fun v => ∃ j:Nat,v=.int .i64 j∧j≤n∧Hid (∀ p,p < j→((coll s i).getD p default).1≠k)) (fun v => n - (intOf v).toNat)
 case atStart => exact ⟨0,rfl,by omega,Zh (fun j hj => by omega)⟩
 case round =>
  obtain ⟨j,rfl,hj,HA⟩:=hrel
  by_cases hjn:j < n
  ·obtain ⟨⟨xc,xv⟩,hx⟩:∃ x,(coll s i)[j]?=some x:=⟨_,List.getElem?_eq_getElem (by rw [HN.out]; omega)⟩
   obtain ⟨gw,cg,cur,e1,_⟩:=own_form ON.out (by omega)
   injection e1 with e1 _ e1'
   subst e1 e1'
   have f0:w.cell? ⟨gw,j * 2,none⟩=some (.int .i64 xc):=OI.out.at_ hx 0 _ rfl
   have HX:=Zh hx
   have q3:(0:Int)≤(j:Int):=by omega
   have q4:(j:Int) < (n:Int):=by omega
   clear hx
   by_cases hid:xc=k
   ·have d1:(xc == k)=true:=by simpa using hid
    have HZ:Hid (r=j):=Zh (by rw [← HR.out]; unfold posW; rw [idx_at HA.out HX.out hid])
    clear hid
    go_wp2_with fail
    go_ret
    exact ⟨by rw [HZ.out]; rfl,rfl⟩
   ·have d1:(xc == k)=false:=by simpa using hid
    have HZ:Hid (∀ p,p < j + 1→((coll s i).getD p default).1≠k):=Zh (fun p hp => by
     by_cases e:p=j
     ·rw [e,List.getD_eq_getElem?_getD,HX.out]; exact hid
     ·exact HA.out p (by omega))
    clear hid
    go_wp2_with fail
    go_round
    case rel => exact ⟨j + 1,by go_num,by omega,HZ⟩
    case measure => simp [intOf]; omega
  ·have:j=n:=by omega
   subst this
   have HZ:Hid (r=-1):=Zh (by rw [← HR.out]; unfold posW; rw [idx_no (by rw [HN.out]; exact HA.out)])
   go_wp2_with fail
   go_ret
   exact ⟨by rw [HZ.out]; rfl,rfl⟩
end Go.Proofs.YtmjnmpifibemjaaGreatDoor
namespace Go.Proofs.YtmjnmpifibemjaaGreatDoor
open Go.RowKit Assoc MP
attribute [local go_sem] litStep_value
theorem rm_get (B rb:Nat) (F:List Nat) (s:MS) (c k:Int) (w:World) (h:RMdl B rb F w s) :
 Calls Tryz.prog 95 #[.pointer (some ⟨rb,0,none⟩),.int .i64 c,.int .i64 k] w fun e w' => e=.returned (.tuple #[.int .i64 (if isC s c then (get (coll s c.toNat) k).getD 0 else 0),.bool (if isC s c then (get (coll s c.toNat) k).isSome else false),.int .i64 (if isC s c then 0 else 3)])∧w=w':=by
 have H:=Zh h
 cases hc:isC s c with
 | false =>
   have HC:=Zh hc
   clear h hc
   go_enter Tryz.func95,Tryz.ntmps95
   go_wp2_with fail
   refine (rm_there B rb F s c w H.out).mono ?_; rintro e w' ⟨rfl,rfl⟩
   rw [HC.out]
   go_wp2_with fail
   go_ret3
   exact ⟨rfl,rfl⟩
 | true =>
   have HC:=Zh hc
   obtain ⟨i,rfl,hi⟩:=isC_form hc
   obtain ⟨hgd,vk,vl,ms,hF,hst⟩:=h
   obtain ⟨gl,cl,Ai,ci,rfl,hcell,hoi,_⟩:=hst.at_ hi
   obtain ⟨N,hN⟩:∃ N,s.L.length=N:=⟨_,rfl⟩
   obtain ⟨n,hn⟩:∃ n,(coll s i).length=n:=⟨_,rfl⟩
   have hn1:n≤100:=hn ▸ hgd.len _ (coll_mem hi)
   have hi2:i < N:=hN ▸ hi
   have c1:w.cell? ⟨rb,1,none⟩=some (.slice (some ⟨gl,0,none⟩) N cl):=by rw [← hN]; exact hst.box.cell 1
   have e0:w.cell? ⟨gl,i,none⟩=some (.slice Ai n ci):=by rw [← hn]; exact hcell
   have ON:Hid (w.ownsRow B 157 2 (.slice Ai n ci) n (flat encPr (coll s i))):=Zh (by have:=hoi; unfold Ow at this; rw [hn] at this; exact this)
   have HN:=Zh hn
   have OI:Hid (Ow encPr 157 w B (.slice Ai n ci) (coll s i)):=Zh (by rw [← hn]; exact hoi)
   have q1:(0:Int)≤(i:Int):=by omega
   have q2:(i:Int) < (N:Int):=by omega
   clear hcell hoi hN hn
   rw [Int.toNat_natCast]
   have HII:=Zh hi
   obtain ⟨ov,hov⟩:∃ ov,(get (coll s i) k).getD 0=ov:=⟨_,rfl⟩
   obtain ⟨is,his⟩:∃ is,(get (coll s i) k).isSome=is:=⟨_,rfl⟩
   have HR:Hid ((get (coll s i) k).getD 0=ov∧(get (coll s i) k).isSome=is):=Zh ⟨hov,his⟩
   simp only [if_true]
   rw [hov,his]
   clear hov his hc hgd hst hF hi
   go_enter Tryz.func95,Tryz.ntmps95
   go_wp2_with fail
   refine (rm_there B rb F s i w H.out).mono ?_; rintro e w' ⟨rfl,rfl⟩
   rw [HC.out]
   go_wp2_with fail
   refine (rm_find B rb F s i k w H.out HII.out).mono ?_; rintro e w' ⟨rfl,rfl⟩
   cases hg:get (coll s i) k with
   | none =>
     obtain ⟨pv,hpv⟩:∃ p,posW (coll s i) k=p:=⟨_,rfl⟩
     have q0:pv < 0:=by rw [← hpv,posW_none hg]; omega
     have HZ:Hid (ov=0∧is=false):=Zh (by have:=HR.out; rw [hg] at this; exact ⟨this.1.symm,this.2.symm⟩)
     rw [hpv]
     clear hg hpv
     go_wp2_with fail
     go_ret3
     rw [HZ.out.1,HZ.out.2]
     exact ⟨rfl,rfl⟩
   | some v =>
     obtain ⟨j,hp1,hp2⟩:=posW_some hg
     have hjn:j < n:=by rw [← HN.out]; exact (List.getElem?_eq_some_iff.1 hp2).1
     have HZ:Hid (ov=v∧is=true):=Zh (by have:=HR.out; rw [hg] at this; exact ⟨this.1.symm,this.2.symm⟩)
     rw [hp1]
     have q0:(0:Int)≤(j:Int):=by omega
     obtain ⟨⟨xc,xv⟩,hx⟩:∃ x,(coll s i)[j]?=some x:=⟨_,List.getElem?_eq_getElem (by rw [HN.out]; omega)⟩
     obtain ⟨gw,cgw,curw,e1,_⟩:=own_form ON.out (by omega)
     injection e1 with e1 _ e1'
     subst e1 e1'
     have f0:w.cell? ⟨gw,j * 2,none⟩=some (.int .i64 xc):=OI.out.at_ hx 0 _ rfl
     have f1:w.cell? ⟨gw,j * 2 + 1,none⟩=some (.int .i64 xv):=OI.out.at_ hx 1 _ rfl
     have HX:=Zh hx
     have q3:(0:Int)≤(j:Int):=by omega
     have q4:(j:Int) < (n:Int):=by omega
     clear hx
     obtain ⟨rfl,rfl⟩:xc=k∧xv=v:=by have:=HX.out; rw [hp2] at this; injection this with this; injection this with h1 h2; exact ⟨h1.symm,h2.symm⟩
     clear hg hp1 hp2
     go_wp2_with fail
     go_ret3
     rw [HZ.out.1,HZ.out.2]
     exact ⟨rfl,rfl⟩
theorem ceil_first {l:AL} {k:Int} {j:Nat} (h:∀ p,p < j→(l.getD p default).1 < k) {x:Int × Int} (hx:l[j]?=some x) (hk:k≤x.1):ceilL l k=some x.1:=by
 unfold ceilL
 obtain ⟨hj,rfl⟩:=List.getElem?_eq_some_iff.1 hx
 have:l.find? (fun p => decide (k≤p.1))=some l[j]:=by
  rw [List.find?_eq_some_iff_getElem]
  refine ⟨by simpa using hk,j,hj,rfl,fun p hp => ?_⟩
  have:=h p hp
  rw [List.getD_eq_getElem?_getD,List.getElem?_eq_getElem (by omega)] at this
  simpa using this
 rw [this]
 rfl
theorem ceil_no {l:AL} {k:Int} (h:∀ p,p < l.length→(l.getD p default).1 < k):ceilL l k=none:=by
 unfold ceilL
 rw [Option.map_eq_none_iff,List.find?_eq_none]
 intro x hx
 obtain ⟨j,hj,rfl⟩:=List.getElem_of_mem hx
 have:=h j hj
 rw [List.getD_eq_getElem?_getD,List.getElem?_eq_getElem hj] at this
 simpa using this
theorem rm_ceil (B rb:Nat) (F:List Nat) (s:MS) (c k:Int) (w:World) (h:RMdl B rb F w s) :
 Calls Tryz.prog 99 #[.pointer (some ⟨rb,0,none⟩),.int .i64 c,.int .i64 k] w fun e w' => e=.returned (.tuple #[.int .i64 ((ceilC s c k).getD 0),.bool (ceilC s c k).isSome,.int .i64 (oErr s c)])∧w=w':=by
 have H:=Zh h
 obtain ⟨r,hr⟩:∃ r,ceilC s c k=r:=⟨_,rfl⟩
 obtain ⟨oe,hoe⟩:∃ oe,oErr s c=oe:=⟨_,rfl⟩
 have HR:=Zh hr
 have HOE:=Zh hoe
 rw [hr,hoe]
 clear hr hoe
 cases hc:isC s c with
 | false =>
   have HC:=Zh hc
   have HZ:Hid (oe=3∧r=none):=Zh (by
    have h1:oErr s c=3:=by unfold oErr; rw [hc]; rfl
    exact ⟨by rw [← HOE.out,h1],by rw [← HR.out]; unfold ceilC; rw [h1]; rfl⟩)
   clear h hc
   go_enter Tryz.func99,Tryz.ntmps99
   go_wp2_with fail
   refine (rm_there B rb F s c w H.out).mono ?_; rintro e w' ⟨rfl,rfl⟩
   rw [HC.out]
   go_wp2_with fail
   go_ret3
   rw [HZ.out.1,HZ.out.2]
   exact ⟨rfl,rfl⟩
 | true =>
   have HC:=Zh hc
   obtain ⟨i,rfl,hi⟩:=isC_form hc
   obtain ⟨hgd,vk,vl,ms,hF,hst⟩:=h
   obtain ⟨Ak,ck,rfl,hnk,_⟩:=own_slice hst.k
   obtain ⟨NK,hNK⟩:∃ NK,s.K.length=NK:=⟨_,rfl⟩
   have hik:i < NK:=by rw [← hNK,hgd.kl]; exact hi
   have OK:Hid (w.ownsRow B 3 1 (.slice Ak NK ck) NK (flat encK s.K)):=Zh (by have:=hst.k; unfold Ow at this; rw [hNK] at this; exact this)
   obtain ⟨gk,cg,cur,e1,_⟩:=own_form OK.out (by omega)
   injection e1 with e1 _ e1'
   subst e1 e1'
   obtain ⟨y,hy⟩:∃ y,s.K[i]?=some y:=⟨_,List.getElem?_eq_getElem (by rw [hNK]; exact hik)⟩
   have k0:w.cell? ⟨gk,i,none⟩=some (.int .i64 y):=by
    have:=own_cell OK.out _ _ ((flat_get (E:=encK) hy (j:=0) (by decide)).trans rfl)
    rwa [show i * encK.s + 0=i by simp [encI]] at this
   have c0:w.cell? ⟨rb,0,none⟩=some (.slice (some ⟨gk,0,none⟩) NK ck):=by rw [← hNK]; exact hst.box.cell 0
   have q5:(i:Int) < (NK:Int):=by omega
   have HE:Hid (oErr s i=if y=3 then 0 else 17):=Zh (by unfold oErr; rw [isC_nat hi,Int.toNat_natCast,List.getD_eq_getElem?_getD,hy]; rfl)
   clear hNK hy
   obtain ⟨gl,cl,Ai,ci,rfl,hcell,hoi,_⟩:=hst.at_ hi
   obtain ⟨N,hN⟩:∃ N,s.L.length=N:=⟨_,rfl⟩
   obtain ⟨n,hn⟩:∃ n,(coll s i).length=n:=⟨_,rfl⟩
   have hn1:n≤100:=hn ▸ hgd.len _ (coll_mem hi)
   have hi2:i < N:=hN ▸ hi
   have c1:w.cell? ⟨rb,1,none⟩=some (.slice (some ⟨gl,0,none⟩) N cl):=by rw [← hN]; exact hst.box.cell 1
   have e0:w.cell? ⟨gl,i,none⟩=some (.slice Ai n ci):=by rw [← hn]; exact hcell
   have ON:Hid (w.ownsRow B 157 2 (.slice Ai n ci) n (flat encPr (coll s i))):=Zh (by have:=hoi; unfold Ow at this; rw [hn] at this; exact this)
   have HN:=Zh hn
   have OI:Hid (Ow encPr 157 w B (.slice Ai n ci) (coll s i)):=Zh (by rw [← hn]; exact hoi)
   have q1:(0:Int)≤(i:Int):=by omega
   have q2:(i:Int) < (N:Int):=by omega
   clear hcell hoi hN hn
   clear hc hgd hst hF hi
   go_enter Tryz.func99,Tryz.ntmps99
   go_wp2_with fail
   refine (rm_there B rb F s i w H.out).mono ?_; rintro e w' ⟨rfl,rfl⟩
   rw [HC.out]
   by_cases h3:y=3
   ·have d3:(y != 3)=false:=by simpa using h3
    have HE0:Hid (oErr s i=0):=Zh (by rw [HE.out,if_pos h3])
    have HRC:Hid (r=ceilL (coll s i) k):=Zh (by rw [← HR.out]; unfold ceilC; rw [HE0.out,if_pos rfl,Int.toNat_natCast])
    have HO0:Hid (oe=0):=Zh (by rw [← HOE.out,HE0.out])
    clear h3
    go_wp2_with fail
    clear k0 c0
    go_loop [9] (fun v => ∃ j:Nat,v=.int .i64 j∧j≤n∧Hid (∀ p,p < j→((coll s i).getD p default).1 < k)) (fun v => n - (intOf v).toNat)
    case atStart => exact ⟨0,rfl,by omega,Zh (fun j hj => by omega)⟩
    case round =>
     obtain ⟨j,rfl,hj,HA⟩:=hrel
     by_cases hjn:j < n
     ·
      obtain ⟨⟨xc,xv⟩,hx⟩:∃ x,(coll s i)[j]?=some x:=⟨_,List.getElem?_eq_getElem (by rw [HN.out]; omega)⟩
      obtain ⟨gw,cgw,curw,e1,_⟩:=own_form ON.out (by omega)
      injection e1 with e1 _ e1'
      subst e1 e1'
      have f0:w.cell? ⟨gw,j * 2,none⟩=some (.int .i64 xc):=OI.out.at_ hx 0 _ rfl
      have f1:w.cell? ⟨gw,j * 2 + 1,none⟩=some (.int .i64 xv):=OI.out.at_ hx 1 _ rfl
      have HX:=Zh hx
      have q3:(0:Int)≤(j:Int):=by omega
      have q4:(j:Int) < (n:Int):=by omega
      clear hx
      by_cases hid:k≤xc
      ·have d1:decide (k≤xc)=true:=by simpa using hid
       have HZ:Hid (r=some xc):=Zh (by rw [HRC.out]; exact ceil_first HA.out HX.out hid)
       clear hid
       go_wp2_with fail
       go_ret3
       rw [HZ.out,HO0.out]
       exact ⟨rfl,rfl⟩
      ·have d1:decide (k≤xc)=false:=by simpa using hid
       have HZ:Hid (∀ p,p < j + 1→((coll s i).getD p default).1 < k):=Zh (fun p hp => by
        by_cases e:p=j
        ·rw [e,List.getD_eq_getElem?_getD,HX.out]; show xc < k; omega
        ·exact HA.out p (by omega))
       clear hid
       go_wp2_with fail
       go_round
       case rel => exact ⟨j + 1,by go_num,by omega,HZ⟩
       case measure => simp [intOf]; omega
     ·have:j=n:=by omega
      subst this
      have HZ:Hid (r=none):=Zh (by rw [HRC.out]; exact ceil_no (by rw [HN.out]; exact HA.out))
      go_wp2_with fail
      go_ret3
      rw [HZ.out,HO0.out]
      exact ⟨rfl,rfl⟩
   ·have d3:(y != 3)=true:=by simpa using h3
    have HZ:Hid (oe=17∧r=none):=Zh (by
     have h1:oErr s i=17:=by rw [HE.out,if_neg h3]
     exact ⟨by rw [← HOE.out,h1],by rw [← HR.out]; unfold ceilC; rw [h1]; rfl⟩)
    clear h3
    go_wp2_with fail
    go_ret3
    rw [HZ.out.1,HZ.out.2]
    exact ⟨rfl,rfl⟩
theorem rm_range (B rb:Nat) (F:List Nat) (s:MS) (c a b:Int) (w:World) (h:RMdl B rb F w s) :
 Calls Tryz.prog 100 #[.pointer (some ⟨rb,0,none⟩),.int .i64 c,.int .i64 a,.int .i64 b] w fun e w' => e=.returned (.tuple #[.int .i64 (rangeC s c a b:Nat),.int .i64 (oErr s c)])∧w=w':=by
 have H:=Zh h
 obtain ⟨r,hr⟩:∃ r,rangeC s c a b=r:=⟨_,rfl⟩
 obtain ⟨oe,hoe⟩:∃ oe,oErr s c=oe:=⟨_,rfl⟩
 have HR:=Zh hr
 have HOE:=Zh hoe
 rw [hr,hoe]
 clear hr hoe
 cases hc:isC s c with
 | false =>
   have HC:=Zh hc
   have HZ:Hid (oe=3∧r=0):=Zh (by
    have h1:oErr s c=3:=by unfold oErr; rw [hc]; rfl
    exact ⟨by rw [← HOE.out,h1],by rw [← HR.out]; unfold rangeC; rw [h1]; rfl⟩)
   clear h hc
   go_enter Tryz.func100,Tryz.ntmps100
   go_wp2_with fail
   refine (rm_there B rb F s c w H.out).mono ?_; rintro e w' ⟨rfl,rfl⟩
   rw [HC.out]
   go_wp2_with fail
   go_ret2
   rw [HZ.out.1,HZ.out.2]
   exact ⟨rfl,rfl⟩
 | true =>
   have HC:=Zh hc
   obtain ⟨i,rfl,hi⟩:=isC_form hc
   obtain ⟨hgd,vk,vl,ms,hF,hst⟩:=h
   obtain ⟨Ak,ck,rfl,hnk,_⟩:=own_slice hst.k
   obtain ⟨NK,hNK⟩:∃ NK,s.K.length=NK:=⟨_,rfl⟩
   have hik:i < NK:=by rw [← hNK,hgd.kl]; exact hi
   have OK:Hid (w.ownsRow B 3 1 (.slice Ak NK ck) NK (flat encK s.K)):=Zh (by have:=hst.k; unfold Ow at this; rw [hNK] at this; exact this)
   obtain ⟨gk,cg,cur,e1,_⟩:=own_form OK.out (by omega)
   injection e1 with e1 _ e1'
   subst e1 e1'
   obtain ⟨y,hy⟩:∃ y,s.K[i]?=some y:=⟨_,List.getElem?_eq_getElem (by rw [hNK]; exact hik)⟩
   have k0:w.cell? ⟨gk,i,none⟩=some (.int .i64 y):=by
    have:=own_cell OK.out _ _ ((flat_get (E:=encK) hy (j:=0) (by decide)).trans rfl)
    rwa [show i * encK.s + 0=i by simp [encI]] at this
   have c0:w.cell? ⟨rb,0,none⟩=some (.slice (some ⟨gk,0,none⟩) NK ck):=by rw [← hNK]; exact hst.box.cell 0
   have q5:(i:Int) < (NK:Int):=by omega
   have HE:Hid (oErr s i=if y=3 then 0 else 17):=Zh (by unfold oErr; rw [isC_nat hi,Int.toNat_natCast,List.getD_eq_getElem?_getD,hy]; rfl)
   clear hNK hy
   obtain ⟨gl,cl,Ai,ci,rfl,hcell,hoi,_⟩:=hst.at_ hi
   obtain ⟨N,hN⟩:∃ N,s.L.length=N:=⟨_,rfl⟩
   obtain ⟨n,hn⟩:∃ n,(coll s i).length=n:=⟨_,rfl⟩
   have hn1:n≤100:=hn ▸ hgd.len _ (coll_mem hi)
   have hi2:i < N:=hN ▸ hi
   have c1:w.cell? ⟨rb,1,none⟩=some (.slice (some ⟨gl,0,none⟩) N cl):=by rw [← hN]; exact hst.box.cell 1
   have e0:w.cell? ⟨gl,i,none⟩=some (.slice Ai n ci):=by rw [← hn]; exact hcell
   have ON:Hid (w.ownsRow B 157 2 (.slice Ai n ci) n (flat encPr (coll s i))):=Zh (by have:=hoi; unfold Ow at this; rw [hn] at this; exact this)
   have HN:=Zh hn
   have OI:Hid (Ow encPr 157 w B (.slice Ai n ci) (coll s i)):=Zh (by rw [← hn]; exact hoi)
   have q1:(0:Int)≤(i:Int):=by omega
   have q2:(i:Int) < (N:Int):=by omega
   clear hcell hoi hN hn
   clear hc hgd hst hF hi
   go_enter Tryz.func100,Tryz.ntmps100
   go_wp2_with fail
   refine (rm_there B rb F s i w H.out).mono ?_; rintro e w' ⟨rfl,rfl⟩
   rw [HC.out]
   by_cases h3:y=3
   ·have d3:(y != 3)=false:=by simpa using h3
    have HE0:Hid (oErr s i=0):=Zh (by rw [HE.out,if_pos h3])
    have HRC:Hid (r=rangeK ((coll s i).map (·.1)) a b):=Zh (by rw [← HR.out]; unfold rangeC; rw [HE0.out,if_pos rfl,Int.toNat_natCast,rangeL_eq])
    have HO0:Hid (oe=0):=Zh (by rw [← HOE.out,HE0.out])
    clear h3
    go_wp2_with fail
    clear k0 c0
    go_loop [10,11] (fun vm v => ∃ j:Nat,v=.int .i64 j∧vm=.int .i64 (rangeK (((coll s i).map (·.1)).take j) a b:Nat)∧j≤n∧Hid (rangeK (((coll s i).map (·.1)).take j) a b≤j)) (fun _ v => n - (intOf v).toNat)
    case atStart => exact ⟨0,rfl,rfl,by omega,Zh (by simp [rangeK])⟩
    case round =>
     obtain ⟨j,rfl,rfl,hj,HJ⟩:=hrel
     obtain ⟨m,hm⟩:∃ m,rangeK (((coll s i).map (·.1)).take j) a b=m:=⟨_,rfl⟩
     have HM:=Zh hm
     have hmj:m≤j:=hm ▸ HJ.out
     rw [hm]
     clear hm
     by_cases hjn:j < n
     ·
      obtain ⟨⟨xc,xv⟩,hx⟩:∃ x,(coll s i)[j]?=some x:=⟨_,List.getElem?_eq_getElem (by rw [HN.out]; omega)⟩
      obtain ⟨gw,cgw,curw,e1,_⟩:=own_form ON.out (by omega)
      injection e1 with e1 _ e1'
      subst e1 e1'
      have f0:w.cell? ⟨gw,j * 2,none⟩=some (.int .i64 xc):=OI.out.at_ hx 0 _ rfl
      have f1:w.cell? ⟨gw,j * 2 + 1,none⟩=some (.int .i64 xv):=OI.out.at_ hx 1 _ rfl
      have HX:=Zh hx
      have q3:(0:Int)≤(j:Int):=by omega
      have q4:(j:Int) < (n:Int):=by omega
      clear hx
      have HT:Hid (((coll s i).map (·.1)).take (j + 1)=((coll s i).map (·.1)).take j ++ [xc]):=Zh (take_snoc_ (by rw [List.getElem?_map,HX.out]; rfl))
      by_cases h1:a≤xc
      ·have d1:decide (a≤xc)=true:=by simpa using h1
       by_cases h2:xc≤b
       ·have d2:decide (xc≤b)=true:=by simpa using h2
        have HZ:Hid (rangeK (((coll s i).map (·.1)).take (j + 1)) a b=m + 1):=Zh (by rw [HT.out,rangeK_snoc,HM.out,if_pos ⟨h1,h2⟩])
        go_wp2_with fail
        go_round
        case rel => exact ⟨j + 1,by go_num,by rw [HZ.out]; go_num,by omega,Zh (by rw [HZ.out]; omega)⟩
        case measure => simp [intOf]; omega
       ·have d2:decide (xc≤b)=false:=by simpa using h2
        have HZ:Hid (rangeK (((coll s i).map (·.1)).take (j + 1)) a b=m + 0):=Zh (by rw [HT.out,rangeK_snoc,HM.out,if_neg (fun h => h2 h.2)])
        go_wp2_with fail
        go_round
        case rel => exact ⟨j + 1,by go_num,by rw [HZ.out]; go_num,by omega,Zh (by rw [HZ.out]; omega)⟩
        case measure => simp [intOf]; omega
      ·have d1:decide (a≤xc)=false:=by simpa using h1
       have HZ:Hid (rangeK (((coll s i).map (·.1)).take (j + 1)) a b=m + 0):=Zh (by rw [HT.out,rangeK_snoc,HM.out,if_neg (fun h => h1 h.1)])
       go_wp2_with fail
       go_round
       case rel => exact ⟨j + 1,by go_num,by rw [HZ.out]; go_num,by omega,Zh (by rw [HZ.out]; omega)⟩
       case measure => simp [intOf]; omega
     ·obtain rfl:j=n:=by omega
      have HZ:Hid (r=m):=Zh (by rw [HRC.out,← HM.out,List.take_of_length_le (by rw [List.length_map,HN.out]; exact Nat.le_refl _)])
      go_wp2_with fail
      go_ret2
      rw [HZ.out,HO0.out]
      exact ⟨rfl,rfl⟩
   ·have d3:(y != 3)=true:=by simpa using h3
    have HZ:Hid (oe=17∧r=0):=Zh (by
     have h1:oErr s i=17:=by rw [HE.out,if_neg h3]
     exact ⟨by rw [← HOE.out,h1],by rw [← HR.out]; unfold rangeC; rw [h1]; rfl⟩)
    clear h3
    go_wp2_with fail
    go_ret2
    rw [HZ.out.1,HZ.out.2]
    exact ⟨rfl,rfl⟩
end Go.Proofs.YtmjnmpifibemjaaGreatDoor
namespace Go.Proofs.YtmjnmpifibemjaaGreatDoor
open Go.RowKit Assoc MP
theorem Mdl.off {B sb g:Nat} {F:List Nat} {w:World} {s:MS} {t:TypeId} {cs:Array Value} (h:Mdl B sb F w s) (hb:Blk w g t cs) (h1:t≠148) (h2:t≠3) (h3:t≠149):g ∉ F:=by
 obtain ⟨_,vk,gc,cc,ms,rfl,h⟩:=h
 intro hg
 unfold fpM at hg
 simp only [List.mem_cons,List.mem_append,Option.mem_toList] at hg
 rcases hg with rfl | rfl | hg | hg
 ·exact (Blk.ne_ hb h.box h1) rfl
 ·exact own_type h.c hb h3 rfl
 ·exact own_type h.k hb h2 hg
 ·obtain ⟨i,hi,rfl⟩:=List.getElem_of_mem hg
  have hi':i < s.L.length:=by rw [← h.mlen]; exact hi
  obtain ⟨m,hm,him⟩:=h.at_ hi'
  rw [List.getElem?_eq_getElem hi] at hm
  injection hm with hm
  subst hm
  exact blk_map hb him rfl
theorem RMdl.off {B rb g:Nat} {F:List Nat} {w:World} {s:MS} {t:TypeId} {cs:Array Value} (h:RMdl B rb F w s) (hb:Blk w g t cs) (h1:t≠65) (h2:t≠3) (h3:t≠103) (h4:t≠157):g ∉ F:=by
 obtain ⟨_,vk,vl,ms,rfl,h⟩:=h
 intro hg
 unfold fpRM at hg
 simp only [List.mem_cons,List.mem_append,Option.mem_toList] at hg
 rcases hg with rfl | (hg | hg) | hg
 ·exact (Blk.ne_ hb h.box h1) rfl
 ·exact own_type h.k hb h2 hg
 ·exact own_type h.l hb h3 hg
 ·obtain ⟨v,hv,hvb⟩:=mem_owns.1 hg
  obtain ⟨l,_,ho⟩:=h.mem hv
  exact own_type ho hb h4 hvb
theorem ErrV.off {w w':World} {v:Value} {n a:Int} {T:List Nat} (h:ErrV w v n a) (hu:Upd T w w') (hT:∀ g cs,Blk w g 100 cs→g ∉ T):ErrV w' v n a:=by
 rcases h with h | h | ⟨g,h1,h2,h3,h4⟩
 ·exact .inl h
 ·exact .inr (.inl h)
 ·exact .inr (.inr ⟨g,h1,h2.upd hu (hT g _ h2),h3,h4⟩)
def MBoth (B sb rb:Nat) (w:World) (s:MS):Prop:=∃ F G,Mdl B sb F w s∧RMdl B rb G w s∧Disj F G
section
variable {B sb rb:Nat} {w w' w0 w1:World} {s s' d d':MS} {F F' G G':List Nat}
theorem MBoth.upd0 (h:MBoth B sb rb w s) (hu:Upd [] w w'):MBoth B sb rb w' s:=by
 obtain ⟨F,G,h1,h2,h3⟩:=h
 exact ⟨F,G,h1.upd0 hu,h2.upd0 hu,h3⟩
end
end Go.Proofs.YtmjnmpifibemjaaGreatDoor
namespace Go.Proofs.YtmjnmpifibemjaaGreatDoor.Ev
open Go.RowKit Assoc MP
attribute [local go_sem] litStep_value
theorem clone_big (A:Option Addr) (n c:Nat) (xs:List Int) (w:World) (h:Rd encK w (.slice A n c) xs) (hn:xs.length=n) (hl:n≤1000000) :
 Calls Tryz.prog 70 #[.slice A n c] w fun e w' => CloneKPost xs w e w':=by
 have eq0:=@Lib.run_eql_slice_nil Tryz.prog
 have HN:=Zh hn
 have HSR:Hid (Src w 1 (.slice A n c) n (flat encK xs)):=Zh (by have:=h; unfold Rd at this; rw [hn] at this; exact this)
 cases A with
 | none =>
   have HL:Hid (xs=[]):=Zh (by
    cases xs with
    | nil => rfl
    | cons x xs =>
      obtain ⟨ad,e,_⟩:=h.at_ (k:=0) (a:=x) rfl
      cases e)
   clear h hn
   go_enter Tryz.func70,Tryz.ntmps70
   go_wp2_with fail
   go_ret
   unfold CloneKPost
   rw [HL.out]
   exact ⟨_,rfl,Ow.nil _ _ _ _,.refl _ _⟩
 | some a =>
   clear h hn
   go_enter Tryz.func70,Tryz.ntmps70
   go_wp2_with (at_builtin; refine stopped ?_)
   refine Zh ?_
   refine wpList_app _ (by rfl) (.tmp 5) (.tmp 6) _ (by rfl) elem_int _ _ (by rfl) (by rfl) (own_made (B:=w.heap.size) 1 (Blk.new w 3 #[]) (Nat.le_refl _)) (HSR.out.upd0 ((Upd.refl [] w).alloc _)) flat_cells (by unfold maxLen; omega) (by omega) (by simp) ?_
   intro v2 w2 o2 u2 b2
   have U2:Hid (Upd [] w w2):=Zh (((Upd.refl [] w).alloc _).trans' u2 (by intro x hx; simp [Value.ownBlock] at hx; subst hx; exact .inr (Nat.le_refl _)))
   have O2:Hid (Ow encK 3 w2 w.heap.size v2 xs):=Zh (by unfold Ow; rw [HN.out]; rw [Nat.zero_add,List.nil_append] at o2; exact o2)
   clear o2 u2 b2
   go_wp2_with fail
   go_ret
   exact ⟨_,rfl,O2.out,U2.out⟩
def Mono (f:RS→RS × Int):Prop:=∀ r,r.steps≤(f r).1.steps
theorem mono_iter {f:RS→RS × Int} (h:Mono f):∀ n,Mono (iterR f n)
 | 0 => fun r => Nat.le_refl _
 | n + 1 => fun r => by
   rw [iterR_succ]
   split
   ·exact Nat.le_trans (h r) (mono_iter h n _)
   ·exact h r
theorem mono_ask (k c reg ar an br bn:Int):Mono (askR k c reg ar an br bn):=fun r => by
 unfold askR
 repeat' split
 all_goals exact Nat.le_refl _
mutual
theorem mono_ev:∀ x:Stm,Mono (ev x)
 | .mk k c reg ar an br bn b e => fun r => by
   have hb:=mono_evL b
   have he:=mono_evL e
   rw [ev_mk]
   by_cases h9:k=9
   ·rw [if_pos h9]; exact Nat.le_refl _
   rw [if_neg h9]
   by_cases h10:k=10
   ·rw [if_pos h10]; exact Nat.le_refl _
   rw [if_neg h10]
   by_cases h11:k=11
   ·rw [if_pos h11]
    split
    ·exact hb r
    ·exact he r
   rw [if_neg h11]
   by_cases h12:k=12
   ·rw [if_pos h12]; exact mono_iter hb _ r
   rw [if_neg h12]
   by_cases h13:k=13
   ·rw [if_pos h13]
    split
    ·exact hb r
    ·exact hb r
   rw [if_neg h13]
   by_cases h14:k=14
   ·rw [if_pos h14]
    split
    ·exact Nat.le_trans (hb r) (he { r with steps:=(evL b r).1.steps })
    ·exact hb r
   rw [if_neg h14]
   by_cases h15:k=15
   ·rw [if_pos h15]; exact Nat.le_refl _
   rw [if_neg h15]
   by_cases h16:k=16
   ·rw [if_pos h16]; exact Nat.le_refl _
   rw [if_neg h16]
   exact mono_ask k c reg ar an br bn r
theorem mono_evL:∀ l:List Stm,Mono (evL l)
 | [] => fun r => by rw [evL_nil]; exact Nat.le_refl _
 | x :: l => fun r => by
   have hx:=mono_ev x
   have hl:=mono_evL l
   rw [evL_cons]
   split
   ·exact Nat.le_refl _
   ·have h1:=hx { r with steps:=r.steps + 1 }
    have h2:r.steps≤(ev x { r with steps:=r.steps + 1 }).1.steps:=by simp only at h1; omega
    split
    ·exact Nat.le_trans h2 (hl _)
    ·exact h2
end
def boxN (H:Nat) (t:TypeId) (cs:Array Value):Spec:=⟨fun _ => [],fun v w => ∃ g,v=.pointer (some ⟨g,0,none⟩)∧H≤g∧Blk w g t cs,fun v => ∃ g,v=.pointer (some ⟨g,0,none⟩)⟩
theorem lasts_boxN (w0:World) (H:Nat) (t:TypeId) (cs:Array Value):Lasts0 w0 (boxN H t cs) :=
 ⟨fun v w w' _ ⟨g,h1,h2,h3⟩ hu => ⟨g,h1,h2,h3.upd hu (by simp)⟩,⟨_,0,rfl⟩,fun _ _ ⟨g,h,_⟩ => ⟨g,h⟩⟩
def mdlN (B:Nat) (s:MS):Spec:=⟨fun _ => [],fun v w => ∃ sb F,v=.pointer (some ⟨sb,0,none⟩)∧Mdl B sb F w s,fun v => ∃ g,v=.pointer (some ⟨g,0,none⟩)⟩
theorem lasts_mdlN (w0:World) (B:Nat) (s:MS):Lasts0 w0 (mdlN B s) :=
 ⟨fun v w w' _ ⟨sb,F,h1,h2⟩ hu => ⟨sb,F,h1,h2.upd0 hu⟩,⟨_,0,rfl⟩,fun _ _ ⟨g,_,h,_⟩ => ⟨g,h⟩⟩
theorem nine {l:List Int} (h:l.length=9):∃ a0 a1 a2 a3 a4 a5 a6 a7 a8,l=[a0,a1,a2,a3,a4,a5,a6,a7,a8]:=by
 match l,h with
 | [a0,a1,a2,a3,a4,a5,a6,a7,a8],_ => exact ⟨a0,a1,a2,a3,a4,a5,a6,a7,a8,rfl⟩
theorem put9 {W:World} {g:Nat} {t:TypeId} {z0 z1 z2 z3 z4 z5 z6 z7 z8:Value} (hb:Blk W g t #[z0,z1,z2,z3,z4,z5,z6,z7,z8]) (v0 v1 v2 v3 v4 v5 v6 v7 v8:Value) :
 Blk (((((((((W.setCell ⟨g,0,none⟩ v0).setCell ⟨g,1,none⟩ v1).setCell ⟨g,2,none⟩ v2).setCell ⟨g,3,none⟩ v3).setCell ⟨g,4,none⟩ v4).setCell ⟨g,5,none⟩ v5).setCell ⟨g,6,none⟩ v6).setCell ⟨g,7,none⟩ v7).setCell ⟨g,8,none⟩ v8) g t #[v0,v1,v2,v3,v4,v5,v6,v7,v8]
  ∧ Upd [g] W (((((((((W.setCell ⟨g,0,none⟩ v0).setCell ⟨g,1,none⟩ v1).setCell ⟨g,2,none⟩ v2).setCell ⟨g,3,none⟩ v3).setCell ⟨g,4,none⟩ v4).setCell ⟨g,5,none⟩ v5).setCell ⟨g,6,none⟩ v6).setCell ⟨g,7,none⟩ v7).setCell ⟨g,8,none⟩ v8):=by
 have h0:Blk _ g t #[v0,z1,z2,z3,z4,z5,z6,z7,z8]:=hb.set_eq (i:=0) rfl
 have h1:Blk _ g t #[v0,v1,z2,z3,z4,z5,z6,z7,z8]:=h0.set_eq (i:=1) rfl
 have h2:Blk _ g t #[v0,v1,v2,z3,z4,z5,z6,z7,z8]:=h1.set_eq (i:=2) rfl
 have h3:Blk _ g t #[v0,v1,v2,v3,z4,z5,z6,z7,z8]:=h2.set_eq (i:=3) rfl
 have h4:Blk _ g t #[v0,v1,v2,v3,v4,z5,z6,z7,z8]:=h3.set_eq (i:=4) rfl
 have h5:Blk _ g t #[v0,v1,v2,v3,v4,v5,z6,z7,z8]:=h4.set_eq (i:=5) rfl
 have h6:Blk _ g t #[v0,v1,v2,v3,v4,v5,v6,z7,z8]:=h5.set_eq (i:=6) rfl
 have h7:Blk _ g t #[v0,v1,v2,v3,v4,v5,v6,v7,z8]:=h6.set_eq (i:=7) rfl
 refine ⟨h7.set_eq (i:=8) rfl,?_⟩
 have hs:g ∈ [g]∨W.heap.size≤g:=.inl (by simp)
 exact ((((((((((Upd.refl [g] W).setCell (p:=⟨g,0,none⟩) hs _).setCell (p:=⟨g,1,none⟩) hs _).setCell (p:=⟨g,2,none⟩) hs _).setCell (p:=⟨g,3,none⟩) hs _).setCell (p:=⟨g,4,none⟩) hs _).setCell (p:=⟨g,5,none⟩) hs _).setCell (p:=⟨g,6,none⟩) hs _).setCell (p:=⟨g,7,none⟩) hs _).setCell (p:=⟨g,8,none⟩) hs _)
theorem RunSt.whole {H rb sb sb':Nat} {FM FC:List Nat} {vt v':Value} {ks:List Int} {w:World} {r:RS} (h:RunSt H rb sb FM vt ks w r) {s:MS} {td:List Int} (hm:Mdl H sb' FC w s) (ho:w.ownsRow H 3 1 v' td.length (ints td)) (h1:rb ∉ FC) (h2:∀ b,v'.ownBlock=some b→b ∉ FC) (hK:s.K=ks) (htd:td.length≤201 * 1000) (a0 a1 a2 a3 a4 a5 a6 a7 a8:Int) :
 ∀ W,W=((((((((((w.setCell ⟨rb,0,none⟩ (.pointer (some ⟨sb',0,none⟩))).setCell ⟨rb,1,none⟩ (.int .i64 a0)).setCell ⟨rb,2,none⟩ (.int .i64 a1)).setCell ⟨rb,3,none⟩ (.int .i64 a2)).setCell ⟨rb,4,none⟩ (.int .i64 a3)).setCell ⟨rb,5,none⟩ (.int .i64 a4)).setCell ⟨rb,6,none⟩ (.int .i64 a5)).setCell ⟨rb,7,none⟩ (.int .i64 a6)).setCell ⟨rb,8,none⟩ (.int .i64 a7)).setCell ⟨rb,9,none⟩ (.int .i64 a8)).setCell ⟨rb,10,none⟩ v' →
   RunSt H rb sb' FC v' ks W { s:=s,regs:=[a0,a1,a2,a3,a4,a5,a6,a7,a8],told:=td,steps:=r.steps }∧Upd [rb] w W:=by
 rintro W rfl
 obtain ⟨b0,b1,b2,b3,b4,b5,b6,b7,b8,hb⟩:=nine h.ok.regs
 have k:=h.blk
 rw [hb] at k
 have k0:Blk _ rb 185 (runC sb' [b0,b1,b2,b3,b4,b5,b6,b7,b8] vt r.steps):=k.set_eq (runC_setS sb')
 have k1:Blk _ rb 185 (runC sb' [a0,b1,b2,b3,b4,b5,b6,b7,b8] vt r.steps):=k0.set_eq (runC_setR (i:=0) (by simp) a0)
 have k2:Blk _ rb 185 (runC sb' [a0,a1,b2,b3,b4,b5,b6,b7,b8] vt r.steps):=k1.set_eq (runC_setR (i:=1) (by simp) a1)
 have k3:Blk _ rb 185 (runC sb' [a0,a1,a2,b3,b4,b5,b6,b7,b8] vt r.steps):=k2.set_eq (runC_setR (i:=2) (by simp) a2)
 have k4:Blk _ rb 185 (runC sb' [a0,a1,a2,a3,b4,b5,b6,b7,b8] vt r.steps):=k3.set_eq (runC_setR (i:=3) (by simp) a3)
 have k5:Blk _ rb 185 (runC sb' [a0,a1,a2,a3,a4,b5,b6,b7,b8] vt r.steps):=k4.set_eq (runC_setR (i:=4) (by simp) a4)
 have k6:Blk _ rb 185 (runC sb' [a0,a1,a2,a3,a4,a5,b6,b7,b8] vt r.steps):=k5.set_eq (runC_setR (i:=5) (by simp) a5)
 have k7:Blk _ rb 185 (runC sb' [a0,a1,a2,a3,a4,a5,a6,b7,b8] vt r.steps):=k6.set_eq (runC_setR (i:=6) (by simp) a6)
 have k8:Blk _ rb 185 (runC sb' [a0,a1,a2,a3,a4,a5,a6,a7,b8] vt r.steps):=k7.set_eq (runC_setR (i:=7) (by simp) a7)
 have k9:Blk _ rb 185 (runC sb' [a0,a1,a2,a3,a4,a5,a6,a7,a8] vt r.steps):=k8.set_eq (runC_setR (i:=8) (by simp) a8)
 have hs:rb ∈ [rb]∨w.heap.size≤rb:=.inl (by simp)
 have hu:=(((((((((((Upd.refl [rb] w).setCell (p:=⟨rb,0,none⟩) hs (.pointer (some ⟨sb',0,none⟩))).setCell (p:=⟨rb,1,none⟩) hs (.int .i64 a0)).setCell (p:=⟨rb,2,none⟩) hs (.int .i64 a1)).setCell (p:=⟨rb,3,none⟩) hs (.int .i64 a2)).setCell (p:=⟨rb,4,none⟩) hs (.int .i64 a3)).setCell (p:=⟨rb,5,none⟩) hs (.int .i64 a4)).setCell (p:=⟨rb,6,none⟩) hs (.int .i64 a5)).setCell (p:=⟨rb,7,none⟩) hs (.int .i64 a6)).setCell (p:=⟨rb,8,none⟩) hs (.int .i64 a7)).setCell (p:=⟨rb,9,none⟩) hs (.int .i64 a8)).setCell (p:=⟨rb,10,none⟩) hs v'
 refine ⟨⟨k9.set_eq (runC_setT (by simp) v'),hm.upd hu (fun k hk => by simp; rintro rfl; exact h1 hk),own_upd ho hu (fun b hb => by simp; rintro rfl; exact own_type ho h.blk (by decide) hb),h.low,h1,h2,⟨hK,by simp,h.ok.steps,htd⟩⟩,hu⟩
end Go.Proofs.YtmjnmpifibemjaaGreatDoor.Ev
namespace Go.Proofs.YtmjnmpifibemjaaGreatDoor.Gr
open Go.RowKit Assoc MP Ev
attribute [local go_sem] litStep_value
def ints2 (B:Nat) (s:MS) (xs:List Int):Spec2:=⟨fun p v w => Ow encK 3 w B v xs∧∃ sb F,p=.pointer (some ⟨sb,0,none⟩)∧Mdl B sb F w s∧∀ b,v.ownBlock=some b→b ∉ F,fun v => ∃ A n c,v=.slice A n c⟩
theorem lasts_ints2 (w0:World) (B:Nat) (s:MS) (xs:List Int):Lasts2 w0 (ints2 B s xs) :=
 ⟨fun p v w w' _ ⟨h1,sb,F,h2,h3,h4⟩ hu => ⟨h1.upd0 hu,sb,F,h2,h3.upd0 hu,h4⟩,⟨_,none,0,0,rfl⟩,fun _ _ _ ⟨h,_⟩ => by obtain ⟨A,c,e,_⟩:=h.form; exact ⟨A,_,c,e⟩⟩
theorem or_ok {H rb:Nat} {F:List Nat} {ks:List Int} {r:RS} {b e:List Stm} (k c reg ar an br bn:Int) (vb ve:Value) (w:World) (hf:RF ks k c reg ar an br bn) (h:Run H rb F ks w r) (ht:r.told.length + 201≤201 * r.steps) (hb:Stms w H vb b) (he:Stms w H ve e) (hH:H≤w.heap.size) (hab:AllC ks b) (hae:AllC ks e) :
 Calls Tryz.prog 121 #[.pointer (some ⟨rb,0,none⟩),.agg #[.int .i64 k,.int .i64 c,.int .i64 reg,.int .i64 ar,.int .i64 an,.int .i64 br,.int .i64 bn,vb,ve]] w (EvPost H rb F ks (if (evL b r).2=3 then evL e { r with steps:=(evL b r).1.steps } else evL b r) w):=by
 have HR:=Zh h
 have HB:=Zh hb
 have HE:=Zh he
 have HTB:=Zh ht
 have HAB:=Zh (And.intro hf.a hf.b)
 have HRF:=Zh hf
 have HHH:=Zh hH
 obtain ⟨c11,cf,cl⟩:=h.cells
 have XB:Hid (Blk (w.alloc (.cells #[.int .i64 k,.int .i64 c,.int .i64 reg,.int .i64 ar,.int .i64 an,.int .i64 br,.int .i64 bn,vb,ve] 62)) w.heap.size 62 #[.int .i64 k,.int .i64 c,.int .i64 reg,.int .i64 ar,.int .i64 an,.int .i64 br,.int .i64 bn,vb,ve]):=Zh (Blk.new w _ _)
 have UA:Hid (Upd [] w (w.alloc (.cells #[.int .i64 k,.int .i64 c,.int .i64 reg,.int .i64 ar,.int .i64 an,.int .i64 br,.int .i64 bn,vb,ve] 62))):=Zh ((Upd.refl [] w).alloc _)
 clear h ht hb he hH hf
 have HA:=Zh hab
 have HAE:=Zh hae
 have HMO:Hid (r.steps≤(evL b r).1.steps):=Zh (mono_evL b r)
 have HLT:Hid (∀ k ∈ F,H≤k∧k < w.heap.size):=Zh HR.out.lt
 obtain ⟨X,hX⟩:∃ X,evL b r=X:=⟨_,rfl⟩
 have HX:=Zh hX
 rw [hX] at HMO ⊢
 obtain ⟨Y,hY⟩:∃ Y,(if X.2=3 then evL e { r with steps:=X.1.steps } else X)=Y:=⟨_,rfl⟩
 have HY:=Zh hY
 rw [hY]
 have S1:Hid (w.heap.size≤(w.alloc (.cells #[.int .i64 k,.int .i64 c,.int .i64 reg,.int .i64 ar,.int .i64 an,.int .i64 br,.int .i64 bn,vb,ve] 62)).heap.size):=Zh UA.out.size
 obtain ⟨sb,FM,vt,hF,hrs⟩:=HR.out
 have HFE:Hid (fpR rb vt FM=F):=Zh hF.symm
 have HRS:=Zh hrs
 obtain ⟨a0,a1,a2,a3,a4,a5,a6,a7,a8,hrg⟩:=nine hrs.ok.regs
 have HRG:=Zh hrg
 have OT:Hid (Ow encK 3 w H vt r.told):=Zh (by unfold Ow; rw [flat_ints]; exact hrs.told)
 obtain ⟨At,ct,hvt,_,_⟩:=own_slice hrs.told
 have HVT:=Zh hvt
 have CC:Hid (∀ W,Upd [] w W→W.cell? ⟨rb,0,none⟩=some (.pointer (some ⟨sb,0,none⟩))∧W.cell? ⟨rb,10,none⟩=some vt∧W.cell? ⟨rb,1,none⟩=some (.int .i64 a0)∧W.cell? ⟨rb,2,none⟩=some (.int .i64 a1)∧W.cell? ⟨rb,3,none⟩=some (.int .i64 a2)∧W.cell? ⟨rb,4,none⟩=some (.int .i64 a3)∧W.cell? ⟨rb,5,none⟩=some (.int .i64 a4)∧W.cell? ⟨rb,6,none⟩=some (.int .i64 a5)∧W.cell? ⟨rb,7,none⟩=some (.int .i64 a6)∧W.cell? ⟨rb,8,none⟩=some (.int .i64 a7)∧W.cell? ⟨rb,9,none⟩=some (.int .i64 a8)):=Zh (fun W hW => by
  have h1:=HRS.out.upd0 hW
  have h2:∀ {i x},r.regs[i]?=some x→W.cell? ⟨rb,1 + i,none⟩=some (.int .i64 x):=fun hx => h1.reg hx
  rw [HRG.out] at h2
  exact ⟨h1.cells.1,h1.cells.2.1,h2 (i:=0) rfl,h2 (i:=1) rfl,h2 (i:=2) rfl,h2 (i:=3) rfl,h2 (i:=4) rfl,h2 (i:=5) rfl,h2 (i:=6) rfl,h2 (i:=7) rfl,h2 (i:=8) rfl⟩)
 have HCL:Hid (∀ W,Upd [] w W→Calls Tryz.prog 70 #[vt] W fun e w' => CloneKPost r.told W e w'):=Zh (fun W hW => by
  have h1:=(OT.out.upd0 hW).rd
  have h2:=HRS.out.ok.told
  rw [HVT.out] at h1 ⊢
  exact clone_big _ _ _ _ W h1 rfl (by omega))
 clear hab hae c11 cf hX hY hF hrs hrg hvt
 go_enter Tryz.func121,Tryz.ntmps121
 go_wp2_with fail
 generalize (w.alloc (.cells #[.int .i64 k,.int .i64 c,.int .i64 reg,.int .i64 ar,.int .i64 an,.int .i64 br,.int .i64 bn,vb,ve] 62))=w1 at *
 have CS:Hid (∀ W,Upd [] w1.drew W→W.cell? ⟨rb,0,none⟩=some (.pointer (some ⟨sb,0,none⟩))∧W.cell? ⟨rb,10,none⟩=some vt∧W.cell? ⟨rb,1,none⟩=some (.int .i64 a0)∧W.cell? ⟨rb,2,none⟩=some (.int .i64 a1)∧W.cell? ⟨rb,3,none⟩=some (.int .i64 a2)∧W.cell? ⟨rb,4,none⟩=some (.int .i64 a3)∧W.cell? ⟨rb,5,none⟩=some (.int .i64 a4)∧W.cell? ⟨rb,6,none⟩=some (.int .i64 a5)∧W.cell? ⟨rb,7,none⟩=some (.int .i64 a6)∧W.cell? ⟨rb,8,none⟩=some (.int .i64 a7)∧W.cell? ⟨rb,9,none⟩=some (.int .i64 a8)):=Zh (fun W hW => CC.out W (UA.out.trans ((Upd.refl [] w1).drew.trans hW)))
 refine wp_inv2 16 [(4,4,.of (mdlN w1.heap.size r.s)),(13,4,ints2 w1.heap.size r.s r.told),(14,14,.of (boxN w1.heap.size 69 #[.int .i64 0,.int .i64 0,.int .i64 0,.int .i64 0,.int .i64 0,.int .i64 0,.int .i64 0,.int .i64 0,.int .i64 0]))] (by kernel_rfl) (by simp) (by kernel_rfl) (by kernel_rfl) (by kernel_rfl) ⟨lasts2_of (lasts_mdlN _ _ _),lasts_ints2 _ _ _ _,lasts2_of (lasts_boxN _ _ _ _),trivial⟩ ?_
 simp only [List.take_succ_cons,List.take_zero,List.drop_succ_cons,List.drop_zero]
 iterate 4 (
  with_reducible apply wpV_light
  ·simp only [lightOp]
  ·intro W hU hF
   have f0:=CS.out W hU
   clear hU hF
   go_simp
   exact rfl
  simp only [aP])
 refine wpV_heavy (by simp only [lightOp]) (by rfl) (fun W hU hk hF K hK => ?_) ?_
 ·go_wp2_with fail
  have UH:=(UA.out.trans ((Upd.refl [] w1).drew.trans hU))
  refine (m_copy H sb FM r.s W (HRS.out.upd0 UH).mdl).mono ?_
  rintro e' wx ⟨sb',F',rfl,hm,ux⟩
  go_wp2_with fail
  exact hK.out _ _ (outV_new rfl ⟨sb',F',rfl,mdl_base hm ((Upd.refl [] w1).drew.trans hU).size⟩ (by intro b hb; cases hb) ux)
 rintro _ ⟨sb',rfl⟩
 simp only [aP]
 iterate 8 (
  with_reducible apply wpV_light
  ·simp only [lightOp]
  ·intro W hU hF
   have f0:=CS.out W hU
   clear hU hF
   go_simp
   exact rfl
  simp only [aP])
 refine wpV_heavy (by simp only [lightOp]) (by rfl) (fun W hU hk hF K hK => ?_) ?_
 ·obtain ⟨sb4,F4,e4,hm4⟩:=hF.out.1 (by kernel_rfl)
  injection e4 with e4
  injection e4 with e4
  injection e4 with e4
  subst e4
  have HM4:=Zh hm4
  clear hm4
  go_wp2_with fail
  refine (HCL.out W (UA.out.trans ((Upd.refl [] w1).drew.trans hU))).mono ?_
  rintro e' wx ⟨v,rfl,ho,ux⟩
  go_wp2_with fail
  exact hK.out _ _ (outV_new rfl ⟨own_base ho ((Upd.refl [] w1).drew.trans hU).size,sb',F4,rfl,HM4.out.upd0 ux,fun b hb hm => by have h1:=(own_lt ho hb).1; have h2:=(HM4.out.lt b hm).2; omega⟩ (by intro b hb; cases hb) ux)
 rintro _ ⟨A',n',c',rfl⟩
 simp only [aP]
 refine wpV_heavy (by simp only [lightOp]) (by rfl) (fun W hU hk hF K hK => ?_) ?_
 ·go_wp2_with fail
  exact hK.out _ _ (outV_new rfl ⟨_,rfl,((Upd.refl [] w1).drew.trans hU).size,Blk.new _ _ _⟩ (by intro b hb; cases hb) ((Upd.refl [] _).alloc _))
 rintro _ ⟨g,rfl⟩
 simp only [aP]
 with_reducible apply wpV_light
 ·simp only [lightOp]
 ·intro W hU hF
  have f0:=CS.out W hU
  clear hU hF
  go_simp
  exact rfl
 simp only [aP]
 refine wpV_end (fun W hU _ hF => ?_)
 obtain ⟨ho13,sb2,FC,e4,hm4,hsep⟩:=hF.out.2.1 (by kernel_rfl)
 injection e4 with e4
 injection e4 with e4
 injection e4 with e4
 subst e4
 have O13:=Zh ho13
 have SEP:=Zh hsep
 obtain ⟨g2,e14,hg2,hb14⟩:=hF.out.2.2.1 (by kernel_rfl)
 injection e14 with e14
 injection e14 with e14
 injection e14 with e14
 subst e14
 have MC:=Zh hm4
 have B14:=Zh hb14
 have HG2:=Zh hg2
 have UX:Hid (Upd [] w W):=Zh (UA.out.trans ((Upd.refl [] w1).drew.trans hU))
 have BX:=Zh (XB.out.upd ((Upd.refl [] w1).drew.trans hU) (by simp))
 clear hU hF hm4 hb14 hg2 ho13 hsep
 have x0:W.cell? ⟨g,0,none⟩=some (.int .i64 0):=B14.out.cell 0
 have x1:W.cell? ⟨g,1,none⟩=some (.int .i64 0):=B14.out.cell 1
 have x2:W.cell? ⟨g,2,none⟩=some (.int .i64 0):=B14.out.cell 2
 have x3:W.cell? ⟨g,3,none⟩=some (.int .i64 0):=B14.out.cell 3
 have x4:W.cell? ⟨g,4,none⟩=some (.int .i64 0):=B14.out.cell 4
 have x5:W.cell? ⟨g,5,none⟩=some (.int .i64 0):=B14.out.cell 5
 have x6:W.cell? ⟨g,6,none⟩=some (.int .i64 0):=B14.out.cell 6
 have x7:W.cell? ⟨g,7,none⟩=some (.int .i64 0):=B14.out.cell 7
 have x8:W.cell? ⟨g,8,none⟩=some (.int .i64 0):=B14.out.cell 8
 have xf:=B14.out.frozen
 have xl:=B14.out.lt
 iterate 2 (
  refine wpT_op (by rfl) (fun K hK => ?_)
  go_wp2_with fail
  refine hK.out _ _ ?_
  clear hK K
  try simp only [aP])
 refine wpT_end ?_
 have P9:=Zh (put9 B14.out (.int .i64 a0) (.int .i64 a1) (.int .i64 a2) (.int .i64 a3) (.int .i64 a4) (.int .i64 a5) (.int .i64 a6) (.int .i64 a7) (.int .i64 a8))
 clear x0 x1 x2 x3 x4 x5 x6 x7 x8 xf xl
 generalize (((((((((W.setCell ⟨g,0,none⟩ (.int .i64 a0)).setCell ⟨g,1,none⟩ (.int .i64 a1)).setCell ⟨g,2,none⟩ (.int .i64 a2)).setCell ⟨g,3,none⟩ (.int .i64 a3)).setCell ⟨g,4,none⟩ (.int .i64 a4)).setCell ⟨g,5,none⟩ (.int .i64 a5)).setCell ⟨g,6,none⟩ (.int .i64 a6)).setCell ⟨g,7,none⟩ (.int .i64 a7)).setCell ⟨g,8,none⟩ (.int .i64 a8))=W9 at P9 ⊢
 have GW:Hid (w.heap.size < g∧w1.heap.size≤g):=Zh ⟨Nat.lt_of_lt_of_le XB.out.lt HG2.out,HG2.out⟩
 have U9:Hid (Upd [] w W9):=Zh (UX.out.trans' P9.out.2 (fun x hx => by simp at hx; subst hx; exact .inr (Nat.le_of_lt GW.out.1)))
 have BX9:=Zh (BX.out.upd P9.out.2 (by simp; have:=GW.out.1; omega))
 have MC9:=Zh (MC.out.upd P9.out.2 (fun k hk => by simp; rintro rfl; exact MC.out.off B14.out (by decide) (by decide) (by decide) hk))
 have O9:=Zh (O13.out.upd P9.out.2 (fun q hq => by simp; rintro rfl; exact own_type O13.out B14.out (by decide) hq))
 have e7:W9.cell? ⟨w.heap.size,7,none⟩=some vb:=BX9.out.cell 7
 have HC:=Zh (HA.out H rb F vb r W9 (HR.out.upd0 U9.out) (tb_le HTB.out) (HB.out.belowW (U9.out.below HHH.out (by simp))) (Nat.le_trans HHH.out U9.out.size))
 rw [HX.out] at HC
 go_wp2_with fail
 refine HC.out.mono ?_
 rintro e' w5 ⟨u,rfl,hsv,⟨F5,h5,f5⟩,t5⟩
 have H5:=Zh h5
 have T5:=Zh t5
 have F95:=Zh f5
 have G5:=Zh (f5.pre U9.out)
 have HSV:=Zh hsv
 have L9:Hid (∀ k ∈ F,k < w1.heap.size∧k < W9.heap.size):=Zh (fun k hk => ⟨Nat.lt_of_lt_of_le (HLT.out k hk).2 S1.out,Nat.lt_of_lt_of_le (HLT.out k hk).2 U9.out.size⟩)
 have M5:=Zh ((mdl_base MC9.out (Nat.le_trans HHH.out S1.out)).upd f5.upd (fun k hk hm => by have h1:=(MC9.out.lt k hk).1; have h2:=(L9.out _ hm).1; omega))
 have B5:=Zh (P9.out.1.upd f5.upd (fun hm => by have h1:=(HLT.out _ hm).2; have h2:=GW.out.1; omega))
 have BX5:=Zh (BX9.out.upd f5.upd (fun hm => by have h1:=(HLT.out _ hm).2; omega))
 have O5:=Zh (O9.out.upd f5.upd (fun q hq hm => by have h1:=(own_lt O9.out hq).1; have h2:=(L9.out _ hm).1; omega))
 have D5:Hid (∀ k ∈ F5,w1.heap.size≤k→W9.heap.size≤k):=Zh (fun k hk hm => by
  rcases f5.sub k hk with h | h
  ·have h2:=(L9.out _ h).1; omega
  ·exact h)
 have MK:Hid (r.s.K=ks):=Zh HR.out.ok.K
 have IS:=Zh (is_stopv HSV.out 13 3 (.inr ⟨rfl,rfl⟩))
 have HU:Hid (u=.nilIface∨(∃ x,u=.iface 40 x)∨∃ x,u=.iface 204 x):=Zh (by
  rcases hsv with ⟨_,h⟩ | ⟨_,h⟩ | ⟨g,_,_,h,_⟩
  ·exact .inl h
  ·exact .inr (.inl ⟨_,h⟩)
  ·exact .inr (.inr ⟨_,h⟩))
 clear h5 f5 t5 HC e7
 by_cases h3:X.2=3
 ·have d3:(X.2 == 3)=true:=by simpa using h3
  rw [d3] at IS
  have HYY:Hid (Y=evL e { r with steps:=X.1.steps }):=Zh (by rw [← HY.out,if_pos h3])
  clear hsv d3 h3
  go_wp2_with fail
  refine IS.out.mono ?_
  rintro e' w6 ⟨rfl,rfl⟩
  obtain ⟨sb5,FM5,vt5,hF5,hr5⟩:=H5.out
  have HF5:=Zh hF5
  have HR5:=Zh hr5
  obtain ⟨b0,b1,b2,b3,b4,b5,b6,b7,b8,hb5⟩:=nine hr5.ok.regs
  have h2:∀ {i x},X.1.regs[i]?=some x→w5.cell? ⟨rb,1 + i,none⟩=some (.int .i64 x):=fun hx => hr5.reg hx
  rw [hb5] at h2
  have y1:=h2 (i:=0) rfl
  have y2:=h2 (i:=1) rfl
  have y3:=h2 (i:=2) rfl
  have y4:=h2 (i:=3) rfl
  have y5:=h2 (i:=4) rfl
  have y6:=h2 (i:=5) rfl
  have y7:=h2 (i:=6) rfl
  have y8:=h2 (i:=7) rfl
  have y9:=h2 (i:=8) rfl
  obtain ⟨y0,y10,_,yf,yl⟩:=hr5.cells
  have x0:w5.cell? ⟨g,0,none⟩=some (.int .i64 a0):=B5.out.cell 0
  have x1:w5.cell? ⟨g,1,none⟩=some (.int .i64 a1):=B5.out.cell 1
  have x2:w5.cell? ⟨g,2,none⟩=some (.int .i64 a2):=B5.out.cell 2
  have x3:w5.cell? ⟨g,3,none⟩=some (.int .i64 a3):=B5.out.cell 3
  have x4:w5.cell? ⟨g,4,none⟩=some (.int .i64 a4):=B5.out.cell 4
  have x5:w5.cell? ⟨g,5,none⟩=some (.int .i64 a5):=B5.out.cell 5
  have x6:w5.cell? ⟨g,6,none⟩=some (.int .i64 a6):=B5.out.cell 6
  have x7:w5.cell? ⟨g,7,none⟩=some (.int .i64 a7):=B5.out.cell 7
  have x8:w5.cell? ⟨g,8,none⟩=some (.int .i64 a8):=B5.out.cell 8
  have GR:Hid (g≠rb):=Zh (by have:=GW.out.1; rintro rfl; omega)
  have gr:=GR.out
  have rg:=gr.symm
  simp only [Nat.reduceAdd] at y1 y2 y3 y4 y5 y6 y7 y8 y9
  clear h2 hb5 hr5 hF5
  go_wp2_with fail
  go_region
  obtain ⟨hr6,u6⟩:=HR5.out.whole M5.out (v':=.slice A' n' c') (td:=r.told) (by have:=O5.out; unfold Ow at this; rw [flat_ints] at this; exact own_base this (Nat.le_trans HHH.out S1.out)) (fun hm => by have h1:=(MC9.out.lt _ hm).1; have h2:=S1.out; omega) SEP.out MK.out (by have:=HR.out.ok.told; exact this) a0 a1 a2 a3 a4 a5 a6 a7 a8 _ rfl
  have R6:=Zh (hr6.upd0 (Upd.refl [] _).drew)
  have U6:=Zh u6.drew
  clear hr6 u6 x0 x1 x2 x3 x4 x5 x6 x7 x8 y0 y1 y2 y3 y4 y5 y6 y7 y8 y9 y10 yf yl gr rg
  generalize (((((((((((w5.setCell ⟨rb,0,none⟩ (.pointer (some ⟨sb',0,none⟩))).setCell ⟨rb,1,none⟩ (.int .i64 a0)).setCell ⟨rb,2,none⟩ (.int .i64 a1)).setCell ⟨rb,3,none⟩ (.int .i64 a2)).setCell ⟨rb,4,none⟩ (.int .i64 a3)).setCell ⟨rb,5,none⟩ (.int .i64 a4)).setCell ⟨rb,6,none⟩ (.int .i64 a5)).setCell ⟨rb,7,none⟩ (.int .i64 a6)).setCell ⟨rb,8,none⟩ (.int .i64 a7)).setCell ⟨rb,9,none⟩ (.int .i64 a8)).setCell ⟨rb,10,none⟩ (.slice A' n' c')).drew=W6 at R6 U6 ⊢
  have BX6:=Zh (BX5.out.upd U6.out (by simp; omega))
  have e8:W6.cell? ⟨w.heap.size,8,none⟩=some ve:=BX6.out.cell 8
  have RR:Hid (Run H rb (fpR rb (.slice A' n' c') FC) ks W6 { r with steps:=X.1.steps }):=Zh ⟨sb',FC,_,rfl,by have:=R6.out; rw [← HRG.out] at this; exact this⟩
  have G6:Hid (Frm F (fpR rb (.slice A' n' c') FC) w W6):=Zh ⟨G5.out.upd.trans' U6.out (fun x hx => .inl (by simp at hx; subst hx; rw [← HFE.out]; exact List.mem_cons_self ..)),fun q hq => by
   unfold fpR at hq
   rw [List.mem_cons,List.mem_append] at hq
   rcases hq with rfl | hq | hq
   ·exact .inl (by rw [← HFE.out]; exact List.mem_cons_self ..)
   ·right; have h1:=(own_lt O5.out (by simpa using hq)).1; have h2:=S1.out; omega
   ·right; have h1:=(MC9.out.lt _ hq).1; have h2:=S1.out; omega⟩
  have HC6:=Zh (HAE.out H rb (fpR rb (.slice A' n' c') FC) ve { r with steps:=X.1.steps } W6 RR.out (by have h1:=HTB.out; have h2:=HMO.out; unfold TB; simp only; omega) (HE.out.frm G6.out (fun q hq => (HLT.out q hq).1) HHH.out) (Nat.le_trans HHH.out G6.out.upd.size))
  go_wp2_with fail
  refine HC6.out.mono ?_
  rintro e' w7 ⟨u7,rfl,hp7⟩
  have HP:=Zh (EvPost.preF ⟨u7,rfl,hp7⟩ G6.out)
  clear hp7 e8
  go_wp2_with fail
  go_ret
  rw [HYY.out]
  exact HP.out
 ·have d3:(X.2 == 3)=false:=by simpa using h3
  rw [d3] at IS
  have HYY:Hid (Y=X):=Zh (by rw [← HY.out,if_neg h3])
  clear hsv d3 h3
  go_wp2_with fail
  refine IS.out.mono ?_
  rintro e' w6 ⟨rfl,rfl⟩
  go_wp2_with fail
  go_ret
  rw [HYY.out]
  exact ⟨_,rfl,HSV.out,⟨F5,H5.out,G5.out⟩,T5.out⟩
theorem one_or {H rb:Nat} {F:List Nat} {ks:List Int} {r:RS} {b e:List Stm} (c reg ar an br bn:Int) (vb ve:Value) (w:World) (hf:RF ks 14 c reg ar an br bn) (h:Run H rb F ks w r) (ht:r.told.length + 201≤201 * r.steps) (hb:Stms w H vb b) (he:Stms w H ve e) (hH:H≤w.heap.size) (hab:AllC ks b) (hae:AllC ks e) :
 Calls Tryz.prog 106 #[.pointer (some ⟨rb,0,none⟩),.agg #[.int .i64 14,.int .i64 c,.int .i64 reg,.int .i64 ar,.int .i64 an,.int .i64 br,.int .i64 bn,vb,ve]] w (EvPost H rb F ks (if (evL b r).2=3 then evL e { r with steps:=(evL b r).1.steps } else evL b r) w):=by
 have HR:=Zh h
 have HB:=Zh hb
 have HE:=Zh he
 have HTB:=Zh ht
 have HAB:=Zh (And.intro hf.a hf.b)
 have HRF:=Zh hf
 have HHH:=Zh hH
 obtain ⟨c11,cf,cl⟩:=h.cells
 have XB:Hid (Blk (w.alloc (.cells #[.int .i64 14,.int .i64 c,.int .i64 reg,.int .i64 ar,.int .i64 an,.int .i64 br,.int .i64 bn,vb,ve] 62)) w.heap.size 62 #[.int .i64 14,.int .i64 c,.int .i64 reg,.int .i64 ar,.int .i64 an,.int .i64 br,.int .i64 bn,vb,ve]):=Zh (Blk.new w _ _)
 have UA:Hid (Upd [] w (w.alloc (.cells #[.int .i64 14,.int .i64 c,.int .i64 reg,.int .i64 ar,.int .i64 an,.int .i64 br,.int .i64 bn,vb,ve] 62))):=Zh ((Upd.refl [] w).alloc _)
 clear h ht hb he hH hf
 obtain ⟨Y,hY⟩:∃ Y,(if (evL b r).2=3 then evL e { r with steps:=(evL b r).1.steps } else evL b r)=Y:=⟨_,rfl⟩
 have HC:=Zh (or_ok 14 c reg ar an br bn vb ve (w.alloc (.cells #[.int .i64 14,.int .i64 c,.int .i64 reg,.int .i64 ar,.int .i64 an,.int .i64 br,.int .i64 bn,vb,ve] 62)) HRF.out (HR.out.upd0 UA.out) HTB.out (HB.out.belowW (UA.out.below HHH.out (by simp))) (HE.out.belowW (UA.out.below HHH.out (by simp))) (Nat.le_trans HHH.out UA.out.size) hab hae)
 rw [hY] at HC ⊢
 clear hab hae c11 cf cl hY
 go_enter Tryz.func106,Tryz.ntmps106
 go_wp2_with fail
 refine HC.out.mono ?_
 rintro e' w4 ⟨u,rfl,hp⟩
 have HP:=Zh (EvPost.pre ⟨u,rfl,hp⟩ UA.out)
 clear hp
 go_wp2_with fail
 go_ret
 exact HP.out
end Go.Proofs.YtmjnmpifibemjaaGreatDoor.Gr
namespace Go.Proofs.YtmjnmpifibemjaaGreatDoor.Ev
open Go.RowKit Assoc MP
theorem one_right (ks:List Int) (k c reg ar an br bn:Int) (b e:List Stm) (hr:rightS ks (.mk k c reg ar an br bn b e)=true) (hb:AllC ks b) (he:AllC ks e):OneC ks (.mk k c reg ar an br bn b e):=by
 intro H rb F vb ve r w h ht sb se hH
 have hf:=right_facts hr
 rw [ev_mk]
 by_cases h9:k=9
 ·subst h9
  rw [if_pos rfl]
  exact one_set c reg ar an br bn vb ve w hf h ht sb se hH
 rw [if_neg h9]
 by_cases h10:k=10
 ·subst h10
  rw [if_pos rfl]
  exact one_add c reg ar an br bn vb ve w hf h ht sb se hH
 rw [if_neg h10]
 by_cases h11:k=11
 ·subst h11
  rw [if_pos rfl]
  by_cases hv:valV r ar an < valV r br bn
  ·rw [if_pos hv]
   exact one_then c reg ar an br bn vb ve w hf h ht sb se hH hb hv
  ·rw [if_neg hv]
   exact one_else c reg ar an br bn vb ve w hf h ht sb se hH he hv
 rw [if_neg h11]
 by_cases h12:k=12
 ·subst h12
  rw [if_pos rfl]
  exact one_loop c reg ar an br bn vb ve w hf h ht sb se hH hb
 rw [if_neg h12]
 by_cases h13:k=13
 ·subst h13
  rw [if_pos rfl]
  exact one_atomic c reg ar an br bn vb ve w hf h ht sb se hH hb
 rw [if_neg h13]
 by_cases h14:k=14
 ·subst h14
  rw [if_pos rfl]
  exact Gr.one_or c reg ar an br bn vb ve w hf h ht sb se hH hb he
 rw [if_neg h14]
 by_cases h15:k=15
 ·subst h15
  rw [if_pos rfl]
  exact one_retry c reg ar an br bn vb ve w hf h ht sb se hH
 rw [if_neg h15]
 by_cases h16:k=16
 ·subst h16
  rw [if_pos rfl]
  exact one_abort c reg ar an br bn vb ve w hf h ht sb se hH
 rw [if_neg h16]
 have h1:=hf.hk
 exact one_ask k c reg ar an br bn vb ve w hf h ht sb se hH (by omega)
mutual
theorem ones_right (ks:List Int):∀ x:Stm,rtS ks x=true→OneC ks x
 | .mk k c reg ar an br bn b e,h => by
   rw [rtS_mk,Bool.and_eq_true,Bool.and_eq_true] at h
   exact one_right ks k c reg ar an br bn b e h.1.1 (all_ok ks b (list_right ks b h.1.2)) (all_ok ks e (list_right ks e h.2))
theorem list_right (ks:List Int):∀ l:List Stm,rtL ks l=true→∀ x ∈ l,OneC ks x
 | [],_,_,hx => by simp at hx
 | y :: l,h,x,hx => by
   rw [rtL_cons,Bool.and_eq_true] at h
   have h1:=ones_right ks y h.1
   have h2:=list_right ks l h.2
   rcases List.mem_cons.1 hx with e | hx
   ·exact e ▸ h1
   ·exact h2 x hx
end
theorem all_right (ks:List Int) (l:List Stm) (h:rtL ks l=true):AllC ks l:=all_ok ks l (list_right ks l h)
end Go.Proofs.YtmjnmpifibemjaaGreatDoor.Ev
namespace Go.Proofs.YtmjnmpifibemjaaGreatDoor.Ev
open Go.RowKit
theorem walk_right (ks:List Int):∀ (L:List (Stm × Nat)) (n:Nat),(walkF (stepR ks) L (0,0) n).2.1.1=0→∀ p ∈ L,rightS ks p.1=true
 | [],_,_,p,hp => by simp at hp
 | (x,d) :: L,n,h,p,hp => by
   by_cases h1:100 < n + 1
   ·have e:stepR ks (0,0) (n + 1) d x=(false,(8,((n + 1:Nat):Int))):=by unfold stepR; simp [h1]
    unfold walkF at h
    rw [e] at h
    simp at h
   ·by_cases h2:8 < d
    ·have e:stepR ks (0,0) (n + 1) d x=(false,(10,((n + 1:Nat):Int))):=by unfold stepR; simp [h1,h2]
     unfold walkF at h
     rw [e] at h
     simp at h
    ·cases h3:rightS ks x with
     | false =>
       have e:stepR ks (0,0) (n + 1) d x=(false,(9,((n + 1:Nat):Int))):=by unfold stepR; simp [h1,h2,h3]
       unfold walkF at h
       rw [e] at h
       simp at h
     | true =>
       have e:stepR ks (0,0) (n + 1) d x=(true,(0,0)):=by unfold stepR; simp [h1,h2,h3]
       unfold walkF at h
       rw [e] at h
       simp only at h
       rcases List.mem_cons.1 hp with e | hp
       ·subst e; exact h3
       ·exact walk_right ks L (n + 1) h p hp
mutual
theorem rtS_lines (ks:List Int):∀ (x:Stm) (d:Nat),(∀ p ∈ x.lines d,rightS ks p.1=true)→rtS ks x=true
 | .mk k c reg ar an br bn b e,d,h => by
   rw [line_mk] at h
   have hb:=rtL_lines ks b (d + 1)
   have he:=rtL_lines ks e (d + 1)
   rw [rtS_mk,Bool.and_eq_true,Bool.and_eq_true]
   exact ⟨⟨h _ (List.mem_cons_self ..),hb fun p hp => h p (List.mem_cons_of_mem _ (List.mem_append_left _ hp))⟩,he fun p hp => h p (List.mem_cons_of_mem _ (List.mem_append_right _ hp))⟩
theorem rtL_lines (ks:List Int):∀ (l:List Stm) (d:Nat),(∀ p ∈ linesOf d l,rightS ks p.1=true)→rtL ks l=true
 | [],_,_ => rtL_nil ks
 | x :: l,d,h => by
   have hx:=rtS_lines ks x d
   have hl:=rtL_lines ks l d
   rw [lines_cons] at h
   rw [rtL_cons,Bool.and_eq_true]
   exact ⟨hx fun p hp => h p (List.mem_append_left _ hp),hl fun p hp => h p (List.mem_append_right _ hp)⟩
end
theorem rt_of_right {ks:List Int} {l:List Stm} (h:(rightR ks l).1=0):rtL ks l=true:=rtL_lines ks l 1 (walk_right ks _ _ h)
end Go.Proofs.YtmjnmpifibemjaaGreatDoor.Ev
namespace Go.Proofs.YtmjnmpifibemjaaGreatDoor.Ev
open Go.RowKit
theorem end_ok {w:World} {u:Value} {n:Int} (h:StopV w u n) (hg:Typed w) :
 Calls Tryz.prog 88 #[u] w fun e w' => e=.returned (.int .i64 (endC n))∧Upd [] w w':=by
 have UA:Hid (Upd [] w (w.alloc (.cells #[.pointer none] 204))):=Zh ((Upd.refl [] w).alloc _)
 have TA:Hid (Typed (w.alloc (.cells #[.pointer none] 204))):=Zh (hg.upd UA.out (by simp))
 have BT:=Zh (Blk.new w 204 #[.pointer none])
 rcases h with ⟨rfl,rfl⟩ | ⟨rfl,rfl⟩ | ⟨g,st,y,rfl,hb,hy⟩
 ·clear hg
  go_enter Tryz.func88,Tryz.ntmps88
  go_wp2_with fail
  go_ret
  exact ⟨rfl,UA.out⟩
 ·clear hg
  go_enter Tryz.func88,Tryz.ntmps88
  go_wp2_with fail
  refine (Stp.as_errno 8 w.heap.size _ TA.out).mono ?_
  rintro e w1 ⟨rfl,hw⟩
  have UW:Hid (Upd [] w w1):=Zh (hw ▸ UA.out.trans (Stp.asWorld_upd _ _))
  clear hw
  go_wp2_with fail
  go_ret
  exact ⟨rfl,UW.out⟩
 ·have HB:=Zh hb
  have HY:=Zh hy
  clear hg hb hy
  go_enter Tryz.func88,Tryz.ntmps88
  go_wp2_with fail
  refine (Stp.as_stop g w.heap.size _ TA.out BT.out).mono ?_
  rintro e w1 ⟨rfl,hw⟩
  have UX:Hid (Upd [] (w.alloc (.cells #[.pointer none] 204)) ((Stp.asWorld (w.alloc (.cells #[.pointer none] 204)) w.heap.size).alloc (.cells #[.pointer (some ⟨g,0,none⟩)] 204))):=Zh ((Stp.asWorld_upd _ _).alloc _)
  have UW:Hid (Upd [] w w1):=Zh (by
   rw [hw]
   exact (UA.out.trans UX.out).setCell (.inr (Nat.le_refl _)) _)
  have e0:w1.cell? ⟨w.heap.size,0,none⟩=some (.pointer (some ⟨g,0,none⟩)):=by
   rw [hw]
   exact ((BT.out.upd UX.out (by simp)).set_eq (i:=0) rfl).cell 0
  have e1:w1.cell? ⟨g,1,none⟩=some (.int .i64 y):=(HB.out.upd UW.out (by simp)).cell 1
  clear hw UX
  rcases HY.out with ⟨rfl,rfl⟩ | ⟨rfl,rfl⟩ | ⟨rfl,rfl⟩
  ·go_wp2_with fail
   go_ret
   exact ⟨rfl,UW.out⟩
  ·go_wp2_with fail
   go_ret
   exact ⟨rfl,UW.out⟩
  ·go_wp2_with fail
   go_ret
   exact ⟨rfl,UW.out⟩
end Go.Proofs.YtmjnmpifibemjaaGreatDoor.Ev
namespace Go.Proofs.YtmjnmpifibemjaaGreatDoor
open Go.RowKit Assoc MP
attribute [local go_sem] litStep_value
end Go.Proofs.YtmjnmpifibemjaaGreatDoor
namespace Go.Proofs.YtmjnmpifibemjaaGreatDoor.Ev
open Go.RowKit Assoc MP
attribute [local go_sem] litStep_value
def RunEPost (B:Nat) (s:MS) (l:List Stm) (w:World) (e:Ending) (w':World):Prop :=
 ∃ (p:Option Addr) (n:Int) (v u:Value),e=.returned (.tuple #[.pointer p,.agg #[.int .i64 n,v],u])∧Upd [] w w' ∧
   (((rightR s.K l).1≠0∧p=none∧n=0∧v=.slice none 0 0∧ErrV w' u (rightR s.K l).1 (rightR s.K l).2) ∨
    ((rightR s.K l).1=0∧(evL l (r0 s)).2=5∧p=none∧n=0∧v=.slice none 0 0∧u=.iface 40 (.int .i64 8)) ∨
    ((rightR s.K l).1=0∧(evL l (r0 s)).2≠5∧n=endC (evL l (r0 s)).2∧u=.nilIface∧(evL l (r0 s)).1.told.length≤201000∧w'.ownsRow w.heap.size 3 1 v (evL l (r0 s)).1.told.length (ints (evL l (r0 s)).1.told) ∧
      ∃ sb F,p=some ⟨sb,0,none⟩∧Mdl w.heap.size sb F w' (if (evL l (r0 s)).2=0 then (evL l (r0 s)).1.s else s)∧∀ b,v.ownBlock=some b→b ∉ F))
theorem run_ok (B sb:Nat) (F:List Nat) (s:MS) (l:List Stm) (v:Value) (w:World) (h:Mdl B sb F w s) (hv:Stms w w.heap.size v l) (hl:sizes l≤900000) (hg:Typed w) :
 Calls Tryz.prog 58 #[.pointer (some ⟨sb,0,none⟩),v] w (RunEPost B s l w):=by
 have HM:=Zh h
 have HV:=Zh hv
 have HG:=Zh hg
 have HL:=Zh hl
 have UA:Hid (Upd [] w (w.alloc (.cells #[.int .i64 0,.slice none 0 0] 34))):=Zh ((Upd.refl [] w).alloc _)
 have EB:Hid (Blk (w.alloc (.cells #[.int .i64 0,.slice none 0 0] 34)) w.heap.size 34 #[.int .i64 0,.slice none 0 0]):=Zh (Blk.new w _ _)
 clear h hv hg hl
 go_enter Tryz.func58,Tryz.ntmps58
 go_wp2_with fail
 refine (m_copy B sb F s _ (HM.out.upd0 UA.out)).mono ?_
 rintro e w1 ⟨sb1,F1,rfl,_,u1⟩
 have U1:=Zh (UA.out.trans u1)
 have EB1:=Zh (EB.out.upd u1 (by simp))
 clear u1
 go_wp2_with fail
 refine (m_kinds B sb F s _ (HM.out.upd0 U1.out)).mono ?_
 rintro e w2 ⟨vk,rfl,ok,u2⟩
 obtain ⟨Ak,ck,rfl,hnk,hck⟩:=own_slice ok
 have KL:Hid (s.K.length≤8):=Zh HM.out.1.k8
 have SK:Hid (Src w2 1 (.slice Ak s.K.length ck) s.K.length (s.K.map (Value.int .i64))):=Zh (by have:=Src.of_own ok; rw [flat_ints] at this; exact this)
 have U2:=Zh (U1.out.trans u2)
 have EB2:=Zh (EB1.out.upd u2 (by simp))
 have S2:=Zh U2.out.size
 obtain ⟨nk,hk⟩:∃ nk,s.K.length=nk:=⟨_,rfl⟩
 rw [hk] at SK KL ⊢
 clear ok u2 hnk hck hk
 go_wp2_with fail
 refine (prog_right_ok l v Ak nk ck s.K w2 ((HV.out.belowW (U2.out.below (Nat.le_refl _) (by simp))).more S2.out) SK.out (by have:=KL.out; omega) HL.out).mono ?_
 rintro e w3 ⟨u,rfl,eu,u3⟩
 have U3:=Zh (U2.out.trans u3)
 have EB3:=Zh (EB2.out.upd u3 (by simp))
 have EU:=Zh eu
 clear u3
 by_cases hr:(rightR s.K l).1=0
 ·obtain rfl:u=.nilIface:=by rw [hr] at eu; exact errv_zero eu
  have HR:=Zh hr
  clear eu hr
  go_wp2_with fail
  refine (m_copy B sb F s _ (HM.out.upd0 U3.out)).mono ?_
  rintro e w4 ⟨sb4,F4,rfl,hm4,u4⟩
  have M4:=Zh hm4
  have U4:=Zh (U3.out.trans u4)
  have EB4:=Zh (EB3.out.upd u4 (by simp))
  clear hm4 u4
  go_wp2_with fail
  have R5:Hid (Run w.heap.size w4.heap.size (fpR w4.heap.size (.slice none 0 0) F4) s.K (w4.alloc (.cells #[.pointer (some ⟨sb4,0,none⟩),.int .i64 0,.int .i64 0,.int .i64 0,.int .i64 0,.int .i64 0,.int .i64 0,.int .i64 0,.int .i64 0,.int .i64 0,.slice none 0 0,.int .i64 0] 185)) (r0 s)):=Zh (by
   have hu:=(Upd.refl [] w4).alloc (.cells #[.pointer (some ⟨sb4,0,none⟩),.int .i64 0,.int .i64 0,.int .i64 0,.int .i64 0,.int .i64 0,.int .i64 0,.int .i64 0,.int .i64 0,.int .i64 0,.slice none 0 0,.int .i64 0] 185)
   exact ⟨sb4,F4,_,rfl,⟨Blk.new w4 _ _,(mdl_base M4.out U3.out.size).upd0 hu,own_nil _ _ _ _,U4.out.size,fun hm => by have:=(M4.out.lt _ hm).2; omega,fun b hb => by simp [Value.ownBlock] at hb,⟨rfl,rfl,by simp [r0],by simp [r0]⟩⟩⟩)
  have U5:Hid (Upd [] w (w4.alloc (.cells #[.pointer (some ⟨sb4,0,none⟩),.int .i64 0,.int .i64 0,.int .i64 0,.int .i64 0,.int .i64 0,.int .i64 0,.int .i64 0,.int .i64 0,.int .i64 0,.slice none 0 0,.int .i64 0] 185))):=Zh (U4.out.alloc _)
  have HC:=Zh (all_right s.K l (rt_of_right HR.out) _ _ _ v _ _ R5.out (by unfold TB; simp [r0]) (HV.out.belowW (U5.out.below (Nat.le_refl _) (by simp))) U5.out.size)
  refine HC.out.mono ?_
  rintro e w6 ⟨u,rfl,hsv,⟨F6,h6,f6⟩,t6⟩
  obtain ⟨X,hX⟩:∃ X,evL l (r0 s)=X:=⟨_,rfl⟩
  have HX:=Zh hX
  rw [hX] at hsv h6
  have HSV:=Zh hsv
  have F56:=Zh f6
  obtain ⟨sb6,FM6,vt6,rfl,h6⟩:=h6
  have H6:=Zh h6
  obtain ⟨At,ct,rfl,hct,hct'⟩:=own_slice h6.told
  have LT5:=Zh R5.out.lt
  have U6:Hid (Upd [] w w6):=Zh (U5.out.trans' f6.upd (fun x hx => .inr (LT5.out x hx).1))
  have TY6:Hid (Typed w6):=Zh (HG.out.upd U6.out (by simp))
  obtain ⟨tn,htn⟩:∃ tn,X.1.told.length=tn:=⟨_,rfl⟩
  obtain ⟨en,hen⟩:∃ en,endC X.2=en:=⟨_,rfl⟩
  have HEN:=Zh hen
  have HTN:=Zh htn
  have CS0:Hid (∀ W,Upd [] w6 W→W.cell? ⟨w4.heap.size,10,none⟩=some (.slice At tn ct)):=Zh (fun W hW => by rw [← HTN.out]; exact (H6.out.upd0 hW).cells.2.1)
  clear hsv h6 f6 t6 hX hct hct' htn hen HC
  go_wp2_with fail
  have CS:Hid (∀ W,Upd [] w6.drew W→W.cell? ⟨w4.heap.size,10,none⟩=some (.slice At tn ct)):=Zh (fun W hW => CS0.out W ((Upd.refl [] w6).drew.trans hW))
  refine wp_invNT0 8 [(1,.det (.int .i64 en)),(6,.det (.agg #[.int .i64 en,.slice At tn ct])),(7,boxN w6.heap.size 34 #[.int .i64 0,.slice none 0 0])] (by kernel_rfl) (by simp) (by kernel_rfl) (by kernel_rfl) ⟨lasts0_of (lasts_det _),lasts0_of (lasts_det _),lasts_boxN _ _ _ _,trivial⟩ ?_
  simp only [List.take_succ_cons,List.take_zero,List.drop_succ_cons,List.drop_zero]
  with_reducible apply wpV_light
  ·simp only [lightOp]
  ·intro W hU hF
   have f0:=CS.out W hU
   clear hU hF
   go_simp
   exact rfl
  simp only [aP]
  refine wpV_heavy (by simp only [lightOp]) (by rfl) (fun W hU hk hF K hK => ?_) ?_
  ·go_wp2_with fail
   refine (end_ok (HSV.out.upd0 ((Upd.refl [] w6).drew.trans hU)) (TY6.out.upd ((Upd.refl [] w6).drew.trans hU) (by simp))).mono ?_
   rintro e' wx ⟨rfl,ux⟩
   go_wp2_with fail
   rw [HEN.out]
   exact hK.out _ _ (outV_new rfl rfl (by intro b hb; cases hb) ux)
  rintro _ rfl
  simp only [aP]
  iterate 4 (
   with_reducible apply wpV_light
   ·simp only [lightOp]
   ·intro W hU hF
    have f0:=CS.out W hU
    clear hU hF
    go_simp
    exact rfl
   simp only [aP])
  refine wpV_heavy (by simp only [lightOp]) (by rfl) (fun W hU hk hF K hK => ?_) ?_
  ·go_wp2_with fail
   exact hK.out _ _ (outV_new rfl rfl (by intro b hb; cases hb) (.refl _ _))
  rintro _ rfl
  simp only [aP]
  refine wpV_heavy (by simp only [lightOp]) (by rfl) (fun W hU hk hF K hK => ?_) ?_
  ·go_wp2_with fail
   exact hK.out _ _ (outV_new rfl ⟨_,rfl,((Upd.refl [] w6).drew.trans hU).size,Blk.new _ _ _⟩ (by intro b hb; cases hb) ((Upd.refl [] _).alloc _))
  rintro _ ⟨g,rfl⟩
  simp only [aP]
  refine wpV_end (fun W hU _ hF => ?_)
  obtain ⟨g2,e7,hg2,hb7⟩:=hF.out.2.2.1 (by kernel_rfl)
  injection e7 with e7
  injection e7 with e7
  injection e7 with e7
  subst e7
  have U7:Hid (Upd [] w6 W):=Zh ((Upd.refl [] w6).drew.trans hU)
  have GG:Hid (w6.heap.size≤g):=Zh hg2
  have B7:=Zh hb7
  have c0:W.cell? ⟨g,0,none⟩=some (.int .i64 0):=hb7.cell 0
  have c1:W.cell? ⟨g,1,none⟩=some (.slice none 0 0):=hb7.cell 1
  have cf:=hb7.frozen
  have cl:=hb7.lt
  clear hU hF hg2 hb7
  refine wpT_op (by rfl) (fun K hK => ?_)
  go_wp2_with fail
  refine hK.out _ _ ?_
  clear hK K
  try simp only [aP]
  refine wpT_end ?_
  have U8:Hid (Upd [] w6 ((W.setCell ⟨g,0,none⟩ (.int .i64 en)).setCell ⟨g,1,none⟩ (.slice At tn ct))):=Zh ((U7.out.setCell (.inr GG.out) _).setCell (.inr GG.out) _)
  have B8:Hid (Blk ((W.setCell ⟨g,0,none⟩ (.int .i64 en)).setCell ⟨g,1,none⟩ (.slice At tn ct)) g 34 #[.int .i64 en,.slice At tn ct]):=Zh ((B7.out.set_eq (i:=0) rfl).set_eq (i:=1) rfl)
  clear c0 c1 cf cl
  generalize ((W.setCell ⟨g,0,none⟩ (.int .i64 en)).setCell ⟨g,1,none⟩ (.slice At tn ct))=W8 at U8 B8 ⊢
  have H8:=Zh (H6.out.upd0 U8.out)
  have E8:Hid (Blk W8 w.heap.size 34 #[.int .i64 0,.slice none 0 0]):=Zh (by
   have h3:=EB3.out.lt
   refine ((EB4.out.alloc _).upd F56.out.upd (fun hm => ?_)).upd U8.out (by simp)
   unfold fpR at hm
   rcases List.mem_cons.1 hm with hm | hm
   ·have:=U4.out.size
    have h4:=EB4.out.lt
    omega
   ·have:=(M4.out.lt _ (by simpa [Value.ownBlock] using hm)).1
    omega)
  have V8:Hid (Upd [] w W8):=Zh (U6.out.trans U8.out)
  have T8:Hid (W8.ownsRow w.heap.size 3 1 (.slice At tn ct) tn (ints X.1.told)):=Zh (by rw [← HTN.out]; have:=H8.out.told; rw [HTN.out] at this ⊢; exact this)
  have c0:W8.cell? ⟨g,0,none⟩=some (.int .i64 en):=B8.out.cell 0
  have c1:W8.cell? ⟨g,1,none⟩=some (.slice At tn ct):=B8.out.cell 1
  have k0:W8.cell? ⟨w4.heap.size,0,none⟩=some (.pointer (some ⟨sb6,0,none⟩)):=H8.out.cells.1
  have e0:W8.cell? ⟨w.heap.size,0,none⟩=some (.int .i64 0):=E8.out.cell 0
  have e1:W8.cell? ⟨w.heap.size,1,none⟩=some (.slice none 0 0):=E8.out.cell 1
  have ef:=E8.out.frozen
  have el:=E8.out.lt
  have HCOD:Hid (Cod X.2):=Zh (HX.out ▸ cod_evL l (r0 s))
  by_cases h5:X.2=5
  ·obtain rfl:en=0:=by rw [← HEN.out,h5]; rfl
   obtain rfl:u=.iface 40 (.int .i64 8):=by
    rcases HSV.out with ⟨h,_⟩ | ⟨_,h⟩ | ⟨_,_,_,_,_,h⟩
    ·omega
    ·exact h
    ·omega
   have H5:=Zh h5
   clear h5
   go_wp2_with fail
   have E9:Hid (Blk ((W8.setCell ⟨w.heap.size,0,none⟩ (.int .i64 0)).setCell ⟨w.heap.size,1,none⟩ (.slice none 0 0)) w.heap.size 34 #[.int .i64 0,(.slice none 0 0)]):=Zh ((E8.out.set_eq (i:=0) rfl).set_eq (i:=1) rfl)
   have U9:Hid (Upd [w.heap.size] W8 ((W8.setCell ⟨w.heap.size,0,none⟩ (.int .i64 0)).setCell ⟨w.heap.size,1,none⟩ (.slice none 0 0))):=Zh (((Upd.refl [w.heap.size] W8).setCell (p:=⟨w.heap.size,0,none⟩) (.inl (by simp)) _).setCell (p:=⟨w.heap.size,1,none⟩) (.inl (by simp)) _)
   clear c0 c1 k0 e0 e1 ef el
   generalize ((W8.setCell ⟨w.heap.size,0,none⟩ (.int .i64 0)).setCell ⟨w.heap.size,1,none⟩ (.slice none 0 0))=W9 at E9 U9 ⊢
   have d0:W9.cell? ⟨w.heap.size,0,none⟩=some (.int .i64 0):=E9.out.cell 0
   have d1:W9.cell? ⟨w.heap.size,1,none⟩=some (.slice none 0 0):=E9.out.cell 1
   have V9:Hid (Upd [] w W9):=Zh (V8.out.trans' U9.out (fun x hx => by simp at hx; subst hx; exact .inr (Nat.le_refl _)))
   refine bodyPost_ret (v:=.tuple #[.pointer none,.agg #[.int .i64 0,(.slice none 0 0)],.iface 40 (.int .i64 8)]) (by simp [results,Tryz.results58,go_sem,d0,d1]) rfl ?_
   exact ⟨none,0,_,_,rfl,V9.out,.inr (.inl ⟨HR.out,by rw [HX.out]; exact H5.out,rfl,rfl,rfl,rfl⟩)⟩
  ·by_cases h0:X.2=0
   ·obtain rfl:en=1:=by rw [← HEN.out,h0]; rfl
    have H0:=Zh h0
    have H5:=Zh h5
    clear h5 h0
    go_wp2_with fail
    go_region
    have E9:Hid (Blk (((W8.setCell ⟨w.heap.size,0,none⟩ (.int .i64 1)).setCell ⟨w.heap.size,1,none⟩ (.slice At tn ct)).drew) w.heap.size 34 #[.int .i64 1,.slice At tn ct]):=Zh ((E8.out.set_eq (i:=0) rfl).set_eq (i:=1) rfl).drew
    have U9:Hid (Upd [w.heap.size] W8 (((W8.setCell ⟨w.heap.size,0,none⟩ (.int .i64 1)).setCell ⟨w.heap.size,1,none⟩ (.slice At tn ct)).drew)):=Zh ((((Upd.refl [w.heap.size] W8).setCell (p:=⟨w.heap.size,0,none⟩) (.inl (by simp)) _).setCell (p:=⟨w.heap.size,1,none⟩) (.inl (by simp)) _)).drew
    clear c0 c1 k0 e0 e1 ef el
    generalize (((W8.setCell ⟨w.heap.size,0,none⟩ (.int .i64 1)).setCell ⟨w.heap.size,1,none⟩ (.slice At tn ct)).drew)=W9 at E9 U9 ⊢
    go_wp2_with fail
    have d0:W9.cell? ⟨w.heap.size,0,none⟩=some (.int .i64 1):=E9.out.cell 0
    have d1:W9.cell? ⟨w.heap.size,1,none⟩=some (.slice At tn ct):=E9.out.cell 1
    have V9:Hid (Upd [] w W9):=Zh (V8.out.trans' U9.out (fun x hx => by simp at hx; subst hx; exact .inr (Nat.le_refl _)))
    refine bodyPost_ret (v:=.tuple #[.pointer (some ⟨sb6,0,none⟩),.agg #[.int .i64 1,.slice At tn ct],.nilIface]) (by simp [results,Tryz.results58,go_sem,d0,d1]) rfl ?_
    have hm:=H8.out.mdl
    have hoff:=hm.off E8.out (by decide) (by decide) (by decide)
    refine ⟨some ⟨sb6,0,none⟩,1,_,_,rfl,V9.out,.inr (.inr ⟨HR.out,by rw [HX.out]; exact H5.out,by rw [HX.out]; exact HEN.out.symm,rfl,by rw [HX.out]; exact H8.out.ok.told,?_,sb6,FM6,rfl,?_,?_⟩)⟩
    ·rw [HX.out,HTN.out]
     exact own_upd T8.out U9.out (fun b hb hm => own_type T8.out E8.out (by decide) (by simp at hm; rw [hm] at hb; exact hb))
    ·rw [HX.out,if_pos H0.out]
     exact hm.upd U9.out (fun k hk hk' => by simp at hk'; rw [hk'] at hk; exact hoff hk)
    ·exact fun b hb => H8.out.tm b (by rw [HTN.out]; exact hb)
   ·have f0:(en == (0:Int))=false:=by
     rw [← HEN.out]; rcases HCOD.out with h | h | h | h | h <;> first | exact absurd h h0 | exact absurd h h5 | (rw [h]; rfl)
    have f1:(en == (1:Int))=false:=by
     rw [← HEN.out]; rcases HCOD.out with h | h | h | h | h <;> first | exact absurd h h0 | exact absurd h h5 | (rw [h]; rfl)
    have H0:=Zh h0
    have H5:=Zh h5
    clear h5 h0
    go_wp2_with fail
    have CS9:Hid (∀ W,Upd [] W8.drew W→W.cell? ⟨g,0,none⟩=some (.int .i64 en)∧W.cell? ⟨g,1,none⟩=some (.slice At tn ct)):=Zh (fun W hW => by
     have hb:=B8.out.upd ((Upd.refl [] W8).drew.trans hW) (by simp)
     exact ⟨hb.cell 0,hb.cell 1⟩)
    refine wp_invNT0 4 [(1,mdlN W8.heap.size s)] (by kernel_rfl) (by simp) (by kernel_rfl) (by kernel_rfl) ⟨lasts_mdlN _ _ _,trivial⟩ ?_
    simp only [List.take_succ_cons,List.take_zero,List.drop_succ_cons,List.drop_zero]
    with_reducible apply wpV_light
    ·simp only [lightOp]
    ·intro W hU hF
     clear hU hF
     go_simp
     exact rfl
    simp only [aP]
    refine wpV_heavy (by simp only [lightOp]) (by rfl) (fun W hU hk hF K hK => ?_) ?_
    ·go_wp2_with fail
     refine (m_copy B sb F s W (HM.out.upd0 (V8.out.trans ((Upd.refl [] W8).drew.trans hU)))).mono ?_
     rintro e wx ⟨sb9,F9,rfl,hm9,u9⟩
     go_wp2_with fail
     exact hK.out _ _ (outV_new rfl ⟨sb9,F9,rfl,mdl_base hm9 ((Upd.refl [] W8).drew.trans hU).size⟩ (by intro b hb; cases hb) u9)
    rintro _ ⟨sb9,rfl⟩
    simp only [aP]
    with_reducible apply wpV_light
    ·simp only [lightOp]
    ·intro W hU hF
     have f0:=CS9.out W hU
     obtain ⟨f01,f02⟩:=f0
     clear hU hF
     go_simp
     exact rfl
    simp only [aP]
    with_reducible apply wpV_light
    ·simp only [lightOp]
    ·intro W hU hF
     clear hU hF
     go_simp
     exact rfl
    simp only [aP]
    refine wpV_end (fun W hU _ hF => ?_)
    obtain ⟨sb9',F9,e9,hm9⟩:=hF.out.1 (by kernel_rfl)
    injection e9 with e9
    injection e9 with e9
    injection e9 with e9
    subst e9
    have U7':Hid (Upd [] W8 W):=Zh ((Upd.refl [] W8).drew.trans hU)
    have M9:=Zh hm9
    have E8':=Zh (E8.out.upd U7'.out (by simp))
    have V8':=Zh (V8.out.trans U7'.out)
    have T8':=Zh (own_upd0 T8.out U7'.out)
    clear c0 c1 k0 e0 e1 ef el hU hF hm9
    have c0:W.cell? ⟨g,0,none⟩=some (.int .i64 en):=(B8.out.upd U7'.out (by simp)).cell 0
    have c1:W.cell? ⟨g,1,none⟩=some (.slice At tn ct):=(B8.out.upd U7'.out (by simp)).cell 1
    have k0:W.cell? ⟨w4.heap.size,0,none⟩=some (.pointer (some ⟨sb6,0,none⟩)):=(H8.out.upd0 U7'.out).cells.1
    have e0:W.cell? ⟨w.heap.size,0,none⟩=some (.int .i64 0):=E8'.out.cell 0
    have e1:W.cell? ⟨w.heap.size,1,none⟩=some (.slice none 0 0):=E8'.out.cell 1
    have ef:=E8'.out.frozen
    have el:=E8'.out.lt
    iterate 2 (
     refine wpT_op (by rfl) (fun K hK => ?_)
     go_wp2_with fail
     refine hK.out _ _ ?_
     clear hK K
     try simp only [aP])
    refine wpT_end ?_
    have E9:Hid (Blk ((W.setCell ⟨w.heap.size,0,none⟩ (.int .i64 en)).setCell ⟨w.heap.size,1,none⟩ (.slice At tn ct)) w.heap.size 34 #[.int .i64 en,.slice At tn ct]):=Zh ((E8'.out.set_eq (i:=0) rfl).set_eq (i:=1) rfl)
    have U9:Hid (Upd [w.heap.size] W ((W.setCell ⟨w.heap.size,0,none⟩ (.int .i64 en)).setCell ⟨w.heap.size,1,none⟩ (.slice At tn ct))):=Zh (((Upd.refl [w.heap.size] W).setCell (p:=⟨w.heap.size,0,none⟩) (.inl (by simp)) _).setCell (p:=⟨w.heap.size,1,none⟩) (.inl (by simp)) _)
    clear c0 c1 k0 e0 e1 ef el
    generalize ((W.setCell ⟨w.heap.size,0,none⟩ (.int .i64 en)).setCell ⟨w.heap.size,1,none⟩ (.slice At tn ct))=W9 at E9 U9 ⊢
    go_wp2_with fail
    have d0:W9.cell? ⟨w.heap.size,0,none⟩=some (.int .i64 en):=E9.out.cell 0
    have d1:W9.cell? ⟨w.heap.size,1,none⟩=some (.slice At tn ct):=E9.out.cell 1
    have V9:Hid (Upd [] w W9):=Zh (V8'.out.trans' U9.out (fun x hx => by simp at hx; subst hx; exact .inr (Nat.le_refl _)))
    refine bodyPost_ret (v:=.tuple #[.pointer (some ⟨sb9,0,none⟩),.agg #[.int .i64 en,.slice At tn ct],.nilIface]) (by simp [results,Tryz.results58,go_sem,d0,d1]) rfl ?_
    have hoff:=M9.out.off E8'.out (by decide) (by decide) (by decide)
    refine ⟨some ⟨sb9,0,none⟩,en,_,_,rfl,V9.out,.inr (.inr ⟨HR.out,by rw [HX.out]; exact H5.out,by rw [HX.out]; exact HEN.out.symm,rfl,by rw [HX.out]; exact H8.out.ok.told,?_,sb9,F9,rfl,?_,?_⟩)⟩
    ·rw [HX.out,HTN.out]
     exact own_upd T8'.out U9.out (fun b hb hm => own_type T8'.out E8'.out (by decide) (by simp at hm; rw [hm] at hb; exact hb))
    ·rw [HX.out,if_neg H0.out]
     exact mdl_base (M9.out.upd U9.out (fun k hk hk' => by simp at hk'; rw [hk'] at hk; exact hoff hk)) V8.out.size
    ·intro b hb hb'
     have h1:=(own_lt T8.out hb).2
     have h2:=(M9.out.lt b hb').1
     omega
 ·have HR:=Zh hr
  have c0:=EB3.out.cell 0
  have c1:=EB3.out.cell 1
  have cf:=EB3.out.frozen
  have cl:=EB3.out.lt
  have z0:(#[Value.int .i64 0,.slice none 0 0]:Array Value)[0]?=some (.int .i64 0):=rfl
  have z1:(#[Value.int .i64 0,.slice none 0 0]:Array Value)[1]?=some (.slice none 0 0):=rfl
  rw [z0] at c0
  rw [z1] at c1
  clear z0 z1
  have EB4:Hid (Blk ((w3.setCell ⟨w.heap.size,0,none⟩ (.int .i64 0)).setCell ⟨w.heap.size,1,none⟩ (.slice none 0 0)) w.heap.size 34 #[.int .i64 0,.slice none 0 0]):=Zh ((EB3.out.set_eq (i:=0) rfl).set_eq (i:=1) rfl)
  have U34:Hid (Upd [w.heap.size] w3 ((w3.setCell ⟨w.heap.size,0,none⟩ (.int .i64 0)).setCell ⟨w.heap.size,1,none⟩ (.slice none 0 0))):=Zh ((((Upd.refl [w.heap.size] w3).setCell (p:=⟨w.heap.size,0,none⟩) (.inl (by simp)) _).setCell (p:=⟨w.heap.size,1,none⟩) (.inl (by simp)) _))
  have U4:Hid (Upd [] w ((w3.setCell ⟨w.heap.size,0,none⟩ (.int .i64 0)).setCell ⟨w.heap.size,1,none⟩ (.slice none 0 0))):=Zh (U3.out.trans' U34.out (fun x hx => by simp at hx; subst hx; exact .inr (Nat.le_refl _)))
  rcases eu with ⟨_,h0,_⟩ | ⟨rfl,hb,ha⟩ | ⟨g,rfl,hb,hn⟩
  ·exact absurd h0 hr
  ·have HBN:=Zh (And.intro hb ha)
   clear hr hb ha
   go_wp2_with fail
   clear c0 c1 cf cl
   generalize ((w3.setCell ⟨w.heap.size,0,none⟩ (.int .i64 0)).setCell ⟨w.heap.size,1,none⟩ (.slice none 0 0))=W4 at EB4 U34 U4 ⊢
   have d0:W4.cell? ⟨w.heap.size,0,none⟩=some (.int .i64 0):=EB4.out.cell 0
   have d1:W4.cell? ⟨w.heap.size,1,none⟩=some (.slice none 0 0):=EB4.out.cell 1
   refine bodyPost_ret (v:=.tuple #[.pointer none,.agg #[.int .i64 0,.slice none 0 0],(.iface 40 (.int .i64 (rightR s.K l).1))]) (by simp [results,Tryz.results58,go_sem,d0,d1]) rfl ?_
   exact ⟨none,0,_,_,rfl,U4.out,.inl ⟨HR.out,rfl,rfl,rfl,.inr (.inl ⟨rfl,HBN.out.1,HBN.out.2⟩)⟩⟩
  ·have HBN:=Zh (And.intro hb hn)
   clear hr hb hn
   go_wp2_with fail
   clear c0 c1 cf cl
   generalize ((w3.setCell ⟨w.heap.size,0,none⟩ (.int .i64 0)).setCell ⟨w.heap.size,1,none⟩ (.slice none 0 0))=W4 at EB4 U34 U4 ⊢
   have d0:W4.cell? ⟨w.heap.size,0,none⟩=some (.int .i64 0):=EB4.out.cell 0
   have d1:W4.cell? ⟨w.heap.size,1,none⟩=some (.slice none 0 0):=EB4.out.cell 1
   refine bodyPost_ret (v:=.tuple #[.pointer none,.agg #[.int .i64 0,.slice none 0 0],(.iface 96 (.pointer (some ⟨g,0,none⟩)))]) (by simp [results,Tryz.results58,go_sem,d0,d1]) rfl ?_
   exact ⟨none,0,_,_,rfl,U4.out,.inl ⟨HR.out,rfl,rfl,rfl,.inr (.inr ⟨g,rfl,HBN.out.1.upd U34.out (by simp; exact Blk.ne_ HBN.out.1 EB3.out (by decide)),HBN.out.2⟩)⟩⟩
end Go.Proofs.YtmjnmpifibemjaaGreatDoor.Ev

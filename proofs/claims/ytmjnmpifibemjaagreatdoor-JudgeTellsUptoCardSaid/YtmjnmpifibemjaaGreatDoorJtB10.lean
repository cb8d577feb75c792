/-
 slices.Sorted of maps.Keys: the keys of a map of integers, rising.
-/
import Derived.Test.YtmjnmpifibemjaaGreatDoorJtB8
import Derived.Test.YtmjnmpifibemjaaGreatDoorLayK
import Derived.Maps.Range
import Derived.Maps.RangeWalk
import Derived.Test.YtmjnmpifibemjaaGreatDoorJtB7
import Derived.Test.YtmjnmpifibemjaaGreatDoorJtB6
set_option linter.unusedVariables false
set_option linter.unusedSimpArgs false
set_option maxRecDepth 100000
set_option maxHeartbeats 16000000
namespace Go.Proofs.YtmjnmpifibemjaaGreatDoor
open Go.RowKit Assoc MP Go.Shelf Go.WideElems Go.MapKept Go.Maps Go.WideShapes
theorem sortsI (m:Nat):AnyZI.SortsIn Tryz.prog sortedI_lay_ren Fence.wide m :=
 ⟨fun blk off cap ss W hH hblk hsz => callsIn_wide.2 (AnyM.slices_Sort_int sortI_lay blk off cap ss W hH hblk hsz),
  fun p cap W => callsIn_wide.2 (AnyM.slices_Sort_int_none sortI_lay p cap W)⟩
theorem keysM (mb:Option Nat) (w:World):Calls Tryz.prog 73 #[.map mb] w fun e w' => e=.returned (.func (.func 94) #[] #[.pointer (some ⟨w.heap.size,0,none⟩)])∧w.alloc (.cells #[.map mb] 149)=w':=by
 go_enter Tryz.func73,Tryz.ntmps73
 go_wp2_with fail
 go_ret
 exact ⟨rfl,rfl⟩
def kwf (l:AL):Prop:=∀ p ∈ l,(Lit.int .i64 p.1).wf=true
def R0:Value→Option (DataW Unit × List MemPlace):=fun _ => some (.nil,[])
theorem keyOf_int {x:Int} (h:(Lit.int .i64 x).wf=true):keyOf Tryz.prog 3 (.int .i64 x)=some (.int .i64 x):=by
 unfold keyOf
 rw [Tryz.underlying3]
 simp [mapKey,Tryz.underlying3,h]
theorem findI_some {L:List IEnt} {k:Int}:(findI L k).isSome=true↔k ∈ L.map (·.1):=by
 unfold findI
 rw [Option.isSome_map,List.find?_isSome]
 simp only [List.mem_map,beq_iff_eq]
theorem get_mem_keys {l:AL} {k:Int}:(get l k).isSome=true↔k ∈ l.map (·.1):=by
 unfold Assoc.get
 rw [Option.isSome_map,List.find?_isSome]
 simp only [List.mem_map,beq_iff_eq]
theorem srt_keys {l:AL} (h:Srt l):(l.map (·.1)).Pairwise (· < ·):=List.pairwise_map.2 h
theorem keys_perm {l:AL} {L:List IEnt} (hs:Srt l) (hn:(L.map (·.1)).Nodup) (hf:∀ k,mapI l k=findI L k):(L.map (·.1)).Perm (l.map (·.1)):=by
 refine (List.perm_ext_iff_of_nodup hn ((srt_keys hs).imp (fun h => by omega))).2 fun k => ?_
 rw [← findI_some,← get_mem_keys,← hf k,mapI_some]
theorem sort_keys {l:AL} {ss:List Int} (hs:Srt l) (hp:ss.Perm (l.map (·.1))):ss.mergeSort (fun x y => decide (x≤y))=l.map (·.1):=by
 refine List.Perm.eq_of_pairwise (le:=fun x y => x≤y) ?_ ?_ ?_ ((List.mergeSort_perm _ _).trans hp)
 ·intro a b _ _ h1 h2; omega
 ·have:=List.pairwise_mergeSort (le:=fun (x y:Int) => decide (x≤y)) (fun a b c h1 h2 => by simp at *; omega) (fun a b => by simp; omega) ss
  exact this.imp (fun h => by simpa using h)
 ·exact (srt_keys hs).imp (fun h => by omega)
theorem owns_of {w:World} {m:Nat} {l:AL} (h:IMap w .i64 m (mapI l) l.length) (hs:Srt l) (hk:kwf l) (hl:l.length≤100) :
 ∃ D0:DataW Unit,w.ownsMap Tryz.prog 3 R0 m l.length D0∧Maps.size D0≤100∧(intKeys D0).Perm (l.map (·.1)):=by
 obtain ⟨L,c,hr,hf,hn⟩:=h
 have hkp:=keys_perm hs hr.keys hf
 have hwf:∀ p ∈ L,(Lit.int .i64 p.1).wf=true:=fun p hp => by
  obtain ⟨q,hq,e⟩:=List.mem_map.1 (hkp.mem_iff.1 (List.mem_map.2 ⟨p,hp,rfl⟩))
  rw [← e]
  exact hk q hq
 have hrg:∀ p ∈ L,rg Tryz.prog 3 R0 (ent .i64 p)=(.int .i64 p.1,.nil):=fun p hp => by
  unfold rg rd ent R0
  simp [keyOf_int (hwf p hp)]
 have he:((L.map (ent .i64)).toArray.toList.map (rg Tryz.prog 3 R0))=L.map (fun p => (Lit.int .i64 p.1,(DataW.nil:DataW Unit))):=by
  generalize rg Tryz.prog 3 R0=f at hrg ⊢
  show (L.map (ent .i64)).map f=_
  rw [List.map_map]
  exact List.map_congr_left fun p hp => hrg p hp
 refine ⟨_,⟨_,c,hr.blk,⟨?_,⟨?_,?_,?_⟩,?_⟩,?_,rfl⟩,?_,?_⟩
 ·simp [maxLen]; omega
 ·intro x hx
  simp only [List.mem_map] at hx
  obtain ⟨p,hp,rfl⟩:=hx
  exact hr.lt p hp
 ·simp only [List.map_map]
  exact hr.stamps
 ·simp only [List.map_map]
  have:(Value.int IntKind.i64 ∘ fun (p:IEnt) => p.1)=(MapEntry.key ∘ ent .i64):=rfl
  rw [← this,← List.map_map]
  exact List.Pairwise.map _ (fun a b h e => h (by injection e)) hr.keys
 ·intro x hx
  simp only [List.mem_map] at hx
  obtain ⟨p,hp,rfl⟩:=hx
  exact ⟨(.int .i64 p.1,.nil),by unfold rd ent R0; simp [keyOf_int (hwf p hp)]⟩
 ·simp [hn]
 ·rw [he]
  show (List.foldr DataW.insert [] _).length≤100
  rw [(sorted_perm _).length_eq,List.length_map,hn]
  exact hl
 ·rw [he]
  unfold intKeys
  refine ((sorted_perm _).map _).trans ?_
  rw [List.map_map]
  exact hkp
def KeysPost (l:AL) (w:World) (e:Ending) (w':World):Prop:=∃ v,e=.returned v∧Ow encK 3 w' w.heap.size v (l.map (·.1))∧Upd [] w w'
theorem flat_ints (xs:List Int):flat encK xs=xs.map encZ:=by
 induction xs with
 | nil => rfl
 | cons x xs ih => rw [flat_cons,ih]; rfl
theorem sortedKeys (Bm m:Nat) (l:AL) (w:World) (hb:Blk w Bm 149 #[.map (some m)]) (h:IMap w .i64 m (mapI l) l.length) (hs:Srt l) (hk:kwf l) (hl:l.length≤100) :
 Calls Tryz.prog 72 #[.func (.func 94) #[] #[.pointer (some ⟨Bm,0,none⟩)]] w fun e w' => KeysPost l w e w':=by
 obtain ⟨D0,hown,hsz,hp⟩:=owns_of h hs hk hl
 have hseq:SeqGives Fence.wide 2 Tryz.prog 94 #[.pointer (some ⟨Bm,0,none⟩)] encZ (fun ss => ss.Perm (intKeys D0)) (Maps.size D0) w :=
  AnyZI.keys_gives (ρ:=keysM_lay_ren) { keysM_lay with } Fence.wide _ trivial rfl (by omega) Bm m l.length D0 _ hb.lt (hb.cell 0) hown
 have cS:=AnyZI.sorted_in sortedI_lay Fence.wide 5 trivial trivial trivial trivial rfl (by omega) (sortsI _) (enters_of Tryz.func93 (by kernel_rfl) rfl) 94 #[.pointer (some ⟨Bm,0,none⟩)] trivial (enters_of Tryz.func94 (by kernel_rfl) rfl) _ _ (by simp only [maxLen]; omega) (by omega) _ hseq
 refine (callsIn_wide (n:=5)).1 (show CallsIn Fence.wide 5 Tryz.prog 72 _ w _ from cS.mono ?_)
 rintro e w' ⟨v,ss,rfl,hS,hrow,_,hbl⟩
 rw [sort_keys hs (hS.trans hp)] at hrow
 refine ⟨v,rfl,?_,Upd.of_below (S:=[]) hbl (Nat.le_refl _)⟩
 unfold Ow
 rw [flat_ints]
 have e:ss.length=(l.map (·.1)).length:=(hS.trans hp).length_eq
 rw [← e]
 exact hrow
end Go.Proofs.YtmjnmpifibemjaaGreatDoor
namespace Go.Proofs.YtmjnmpifibemjaaGreatDoor
open Go Go.RowKit Go.MapKept
open Go.ChangeMaps (setBlock)
structure IIter (w:World) (q:IntKind) (b r:Nat) (L rest:List IEnt):Prop where
 all:∃ c since seen c0,IRaw w q b L c∧w.heap[r]?=some (.mapIter (some b) since seen c0)∧(∀ p ∈ L,p.2.2 < since)∧since≤c0∧since≤c∧rest=L.filter (fun p => !seen.contains p.2.2)
theorem IIter.lt {w:World} {q:IntKind} {b r:Nat} {L rest:List IEnt} (h:IIter w q b r L rest):r < w.heap.size:=by
 obtain ⟨_,s,n,c,_,h1,_⟩:=h.all
 rcases Nat.lt_or_ge r w.heap.size with hl | hg
 ·exact hl
 ·rw [Array.getElem?_eq_none hg] at h1
  cases h1
theorem IIter.map {w:World} {q:IntKind} {b r:Nat} {L rest:List IEnt} (h:IIter w q b r L rest):IMap w q b (findI L) L.length:=by
 obtain ⟨c,_,_,_,hr,_⟩:=h.all
 exact ⟨L,c,hr,fun _ => rfl,rfl⟩
theorem IIter.upd {S:List Nat} {w w':World} {q:IntKind} {b r:Nat} {L rest:List IEnt} (h:IIter w q b r L rest) (hu:Upd S w w') (hb:b ∉ S) (hr:r ∉ S):IIter w' q b r L rest:=by
 obtain ⟨c,s,n,c0,h1,h2,h3⟩:=h.all
 exact ⟨c,s,n,c0,⟨(hu.keep b h1.lt' hb).trans h1.blk,h1.keys,h1.stamps,h1.lt⟩,(hu.keep r h.lt hr).trans h2,h3⟩
section
variable {P:Program} {w:World} {q:IntKind} {b r:Nat} {L rest:List IEnt} {f:Int→Option Value} {n:Nat}
end
end Go.Proofs.YtmjnmpifibemjaaGreatDoor
namespace Go.Proofs.YtmjnmpifibemjaaGreatDoor
open Go.RowKit Assoc MP
attribute [local go_sem] litStep_value
def sameToK (L M:List Int) (k:Nat):Prop:=∀ j,j < k→L.getD j 0=M.getD j 0
theorem sameK_all {L M:List Int} {n:Nat} (hl:L.length=n) (hm:M.length=n) (h:sameToK L M n):L=M:=by
 apply List.ext_getElem (by rw [hl,hm])
 intro i h1 h2
 have:=h i (by omega)
 rwa [List.getD_eq_getElem?_getD,List.getD_eq_getElem?_getD,List.getElem?_eq_getElem h1,List.getElem?_eq_getElem h2] at this
end Go.Proofs.YtmjnmpifibemjaaGreatDoor
namespace Go.Proofs.YtmjnmpifibemjaaGreatDoor
open Go.RowKit
attribute [local go_sem] litStep_value
theorem equal_src (A A':Option Addr) (n c m c':Nat) (L M:List Int) (w:World) (hv:Src w 1 (.slice A n c) n (L.map (Value.int .i64))) (hu:Src w 1 (.slice A' m c') m (M.map (Value.int .i64))) (hL:n≤1000000) (hM:m≤1000000) :
 Calls Tryz.prog 59 #[.slice A n c,.slice A' m c'] w fun e w' => e=.returned (.bool (decide (L=M)))∧Upd [] w w':=by
 have hn:L.length=n:=by simpa using hv.1
 have hm:M.length=m:=by simpa using hu.1
 obtain ⟨_,A1,c1,e1,hv2⟩:=hv
 injection e1 with e1 _ _
 subst e1
 obtain ⟨_,A1',c1',e2,hu2⟩:=hu
 injection e2 with e2 _ _
 subst e2
 have HV:=Zh hv2
 have HU:=Zh hu2
 have HN:=Zh hn
 have HM:=Zh hm
 clear hv2 hu2 hn hm
 obtain ⟨r,hr⟩:∃ r,decide (L=M)=r:=⟨_,rfl⟩
 have HR:=Zh hr
 rw [hr]
 clear hr
 go_enter Tryz.func59,Tryz.ntmps59
 by_cases hnm:n=m
 ·subst hnm
  have d:((n:Int) != (n:Int))=false:=by simp
  go_wp2_with fail
  go_loopw [13] (fun v wr => ∃ k:Nat,v=.int .i64 k∧k≤n∧Hid (sameToK L M k)∧Hid (Upd [] w wr)) (fun v _ => n - (intOf v).toNat)
  case atStart => exact ⟨0,rfl,by omega,Zh (fun j hj => by omega),Zh (.refl _ _)⟩
  case round =>
   obtain ⟨k,rfl,hk,HS,U1⟩:=hrel
   by_cases hkn:k < n
   ·obtain ⟨x,hx⟩:∃ x,L[k]?=some x:=⟨_,List.getElem?_eq_getElem (by rw [HN.out]; omega)⟩
    obtain ⟨y,hy⟩:∃ y,M[k]?=some y:=⟨_,List.getElem?_eq_getElem (by rw [HM.out]; omega)⟩
    have HX:=Zh hx
    have HY:=Zh hy
    obtain ⟨ad,hA1,hl1,hc1⟩:=HV.out k (.int .i64 x) (by rw [List.getElem?_map,hx]; rfl)
    obtain ⟨ad',hA2,hl2,hc2⟩:=HU.out k (.int .i64 y) (by rw [List.getElem?_map,hy]; rfl)
    have CS:Hid (∀ W,Upd [] wr.drew W→W.cell? (ad.add k)=some (.int .i64 x)∧W.cell? (ad'.add k)=some (.int .i64 y)):=Zh (fun W hW => by
     have hu:Upd [] w W:=U1.out.drew.trans hW
     exact ⟨((hu.below (Nat.le_refl _) (by simp)).cell (by rw [block_add]; exact hl1)).trans hc1,((hu.below (Nat.le_refl _) (by simp)).cell (by rw [block_add]; exact hl2)).trans hc2⟩)
    clear hl1 hc1 hl2 hc2
    subst hA1 hA2
    have q1:(0:Int)≤(k:Int):=by omega
    have q2:(k:Int) < (n:Int):=by omega
    clear hx hy
    go_wp2_with fail
    refine wp_invN [] [] (by kernel_rfl) (by kernel_rfl) (by kernel_rfl) trivial ?_
    iterate 9 (
     with_reducible apply wpV_light
     ·simp only [lightOp]
     ·intro W hU hF
      have f0:=CS.out W hU
      clear hU hF
      go_simp
      exact rfl
     simp only [aP])
    refine wpV_end (fun W hU _ _ => ?_)
    have U2:Hid (Upd [] w W):=Zh (U1.out.drew.trans hU)
    clear hU
    refine wpT_end ?_
    by_cases hxy:x=y
    ·have dd:(x != y)=false:=by simpa using hxy
     have HS2:Hid (sameToK L M (k + 1)):=Zh (fun j hj => by
      rcases Nat.lt_or_ge j k with h1 | h1
      ·exact HS.out j h1
      ·obtain rfl:j=k:=by omega
       rw [List.getD_eq_getElem?_getD,List.getD_eq_getElem?_getD,HX.out,HY.out,hxy])
     clear hxy
     go_wp2_with fail
     go_roundw
     case rel => exact ⟨k + 1,by go_num,by omega,HS2,U2⟩
     case measure => simp [intOf]; omega
    ·have dd:(x != y)=true:=by simpa using hxy
     have HZ:Hid (r=false):=Zh (by
      rw [← HR.out,decide_eq_false_iff_not]
      intro e
      have h1:=HX.out
      rw [e,HY.out] at h1
      injection h1 with h1
      exact hxy h1.symm)
     clear hxy
     go_wp2_with fail
     go_ret
     exact ⟨by rw [HZ.out]; rfl,U2.out⟩
   ·obtain rfl:k=n:=by omega
    have HZ:Hid (r=true):=Zh (by rw [← HR.out,decide_eq_true_iff]; exact sameK_all HN.out HM.out HS.out)
    go_wp2_with fail
    go_ret
    exact ⟨by rw [HZ.out]; rfl,U1.out⟩
 ·have d:((n:Int) != (m:Int))=true:=by simp; omega
  have HZ:Hid (r=false):=Zh (by rw [← HR.out,decide_eq_false_iff_not]; intro e; exact hnm (by rw [← HN.out,← HM.out,e]))
  go_wp2_with fail
  go_ret
  exact ⟨by rw [HZ.out]; rfl,.refl _ _⟩
end Go.Proofs.YtmjnmpifibemjaaGreatDoor
namespace Go.Proofs.YtmjnmpifibemjaaGreatDoor.Jd
open Ev MP Assoc
def KO (s:MS):Prop:=∀ l ∈ s.L,Srt l∧∀ q ∈ l,0≤q.1∧q.1 < 64
theorem srt_span:∀ (l:AL) (a:Int),Srt l→(∀ q ∈ l,a≤q.1∧q.1 < 64)→(l.length:Int)≤max 0 (64 - a)
 | [],a,_,_ => by simp; omega
 | p :: l,a,h,hq => by
   have h1:=hq p (List.mem_cons_self ..)
   have ih:=srt_span l (p.1 + 1) h.tail (fun q hm => by have:=h.head q hm; have:=hq q (List.mem_cons_of_mem _ hm); omega)
   simp only [List.length_cons]
   omega
theorem ko_nil {s:MS} (h:KO s) (c:Nat):Srt (coll s c)∧∀ q ∈ coll s c,0≤q.1∧q.1 < 64:=by
 by_cases hc:c < s.L.length
 ·exact h _ (coll_mem hc)
 ·unfold coll
  rw [List.getD_eq_getElem?_getD,List.getElem?_eq_none (by omega)]
  exact ⟨Srt.nil,by simp⟩
theorem ko_putE {s:MS} (h:KO s) (c:Nat) (k:Int):putE (coll s c) k=0:=by
 obtain ⟨h1,h2⟩:=ko_nil h c
 have:=srt_span _ 0 h1 h2
 unfold putE
 rw [if_neg (by omega)]
theorem ko_set {s:MS} (h:KO s) (c:Nat) {l:AL} (hl:Srt l∧∀ q ∈ l,0≤q.1∧q.1 < 64):KO (setC s c l):=by
 intro x hx
 rcases List.mem_or_eq_of_mem_set hx with hx | rfl
 ·exact h x hx
 ·exact hl
theorem ko_put {s:MS} (h:KO s) (c:Nat) {k:Int} (hk:0≤k∧k < 64) (v:Int):KO (mPut s c k v):=by
 obtain ⟨h1,h2⟩:=ko_nil h c
 unfold mPut
 rw [if_pos (ko_putE h c k)]
 refine ko_set h c ⟨srt_put h1 _ _,fun q hq => ?_⟩
 rcases mem_put hq with rfl | hq
 ·exact hk
 ·exact h2 q hq
theorem ko_del {s:MS} (h:KO s) (c:Nat) (k:Int):KO (mDel s c k):=by
 obtain ⟨h1,h2⟩:=ko_nil h c
 exact ko_set h c ⟨srt_del h1 _,fun q hq => h2 q (List.mem_filter.1 hq).1⟩
theorem key_64 (r:RS) (a n:Int):0≤keyV r a n∧keyV r a n < 64:=by
 unfold keyV modI
 have h1:=Int.lt_tmod_of_pos (argV r a n) (show (0:Int) < 64 by omega)
 have h2:=Int.tmod_lt_of_pos ((argV r a n).tmod 64 + 64) (show (0:Int) < 64 by omega)
 have h3:=Int.tmod_nonneg (a:=(argV r a n).tmod 64 + 64) 64 (by omega)
 exact ⟨h3,h2⟩
def KOR (f:RS→RS × Int):Prop:=∀ r,KO r.s→KO (f r).1.s∧(f r).2≠5
theorem kor_iter {f:RS→RS × Int} (h:KOR f):∀ n,KOR (iterR f n)
 | 0,r,hr => ⟨hr,by simp [iterR]⟩
 | n + 1,r,hr => by
   unfold iterR
   split
   ·exact kor_iter h n _ (h r hr).1
   ·exact h r hr
theorem kor_ask (k c reg ar an br bn:Int):KOR (askR k c reg ar an br bn):=by
 intro r hr
 unfold askR
 split
 ·exact ⟨hr,by simp⟩
 split
 ·exact ⟨hr,by simp⟩
 split
 ·rw [if_pos (ko_putE hr _ _)]
  exact ⟨ko_put hr _ (key_64 r ar an) _,by simp⟩
 split
 ·exact ⟨ko_del hr _ _,by simp⟩
 split
 ·exact ⟨hr,by simp⟩
 split
 ·exact ⟨hr,by simp⟩
 split
 ·exact ⟨hr,by simp⟩
 ·exact ⟨hr,by simp⟩
mutual
theorem kor_ev:∀ x:Stm,KOR (ev x)
 | .mk k c reg ar an br bn b e => fun r hr => by
   have hb:=kor_evL b
   have he:=kor_evL e
   rw [ev_mk]
   split
   ·exact ⟨hr,by simp⟩
   split
   ·exact ⟨hr,by simp⟩
   split
   ·split
    ·exact hb r hr
    ·exact he r hr
   split
   ·exact kor_iter hb _ r hr
   split
   ·split
    ·exact ⟨hr,by simp⟩
    ·exact hb r hr
   split
   ·split
    ·exact he _ hr
    ·exact hb r hr
   split
   ·exact ⟨hr,by simp⟩
   split
   ·exact ⟨hr,by simp⟩
   ·exact kor_ask k c reg ar an br bn r hr
theorem kor_evL:∀ l:List Stm,KOR (evL l)
 | [] => fun r hr => by rw [evL_nil]; exact ⟨hr,by simp⟩
 | x :: l => fun r hr => by
   have hx:=kor_ev x { r with steps:=r.steps + 1 } hr
   have hl:=kor_evL l
   rw [evL_cons]
   split
   ·exact ⟨hr,by simp⟩
   split
   ·exact hl _ hx.1
   ·exact hx
end
def KEQ (f:RS→RS × Int):Prop:=∀ r,(f r).1.s.K=r.s.K
theorem keq_iter {f:RS→RS × Int} (h:KEQ f):∀ n,KEQ (iterR f n)
 | 0,r => rfl
 | n + 1,r => by
   unfold iterR
   split
   ·rw [keq_iter h n]; exact h r
   ·exact h r
theorem keq_ask (k c reg ar an br bn:Int):KEQ (askR k c reg ar an br bn):=by
 intro r
 unfold askR
 split
 ·rfl
 split
 ·rfl
 split
 ·split
  ·show (mPut _ _ _ _).K=_
   unfold mPut
   split <;> rfl
  ·rfl
 repeat' split
 all_goals rfl
mutual
theorem keq_ev:∀ x:Stm,KEQ (ev x)
 | .mk k c reg ar an br bn b e => fun r => by
   have hb:=keq_evL b
   have he:=keq_evL e
   rw [ev_mk]
   split
   ·rfl
   split
   ·rfl
   split
   ·split
    ·exact hb r
    ·exact he r
   split
   ·exact keq_iter hb _ r
   split
   ·split
    ·rfl
    ·exact hb r
   split
   ·split
    ·exact he _
    ·exact hb r
   split
   ·rfl
   split
   ·rfl
   ·exact keq_ask k c reg ar an br bn r
theorem keq_evL:∀ l:List Stm,KEQ (evL l)
 | [] => fun r => by rw [evL_nil]
 | x :: l => fun r => by
   have hx:=keq_ev x { r with steps:=r.steps + 1 }
   have hl:=keq_evL l
   rw [evL_cons]
   split
   ·rfl
   split
   ·rw [hl]; exact hx
   ·exact hx
end
theorem keq_fin (s:MS) (l:List Stm):(finE s l).K=s.K:=by
 unfold finE
 split
 ·exact keq_evL l (r0 s)
 ·rfl
theorem err_none {s:MS} (h:KO s) {l:List Stm} (hr:(rightR s.K l).1=0):errE s l=0:=by
 unfold errE
 rw [if_neg (by simp [hr]),if_neg (kor_evL l (r0 s) h).2]
theorem ko_fin {s:MS} (h:KO s) (l:List Stm):KO (finE s l):=by
 unfold finE
 split
 ·exact (kor_evL l (r0 s) h).1
 ·exact h
structure FitP (p:Pn):Prop where
 ks8:p.ks.length≤8
 kin:∀ k ∈ p.ks,1≤k∧k≤3
 th6:p.ths.length≤6
 tx20:∀ t ∈ p.ths,t.length≤20
 right:∀ t ∈ p.ths,∀ l ∈ t,(rightR p.ks l).1=0
theorem txn_mem {p:Pn} {x:Att} {l:List Stm} (h:txnR p x=some l):∃ t ∈ p.ths,l ∈ t:=by
 unfold txnR at h
 split at h
 ·cases ht:p.ths[x.th.toNat]? with
  | none => rw [ht] at h; simp at h
  | some t =>
    rw [ht] at h
    simp only [Option.bind_some] at h
    exact ⟨t,List.mem_of_getElem? ht,List.mem_of_getElem? h⟩
 ·cases h
theorem txn_right {p:Pn} (hf:FitP p) {x:Att} {l:List Stm} (h:txnR p x=some l):(rightR p.ks l).1=0:=by
 obtain ⟨t,ht,hl⟩:=txn_mem h
 exact hf.right t ht l hl
theorem ko_s0 (p:Pn):KO (s0R p):=by
 intro l hl
 have:=(List.mem_replicate.1 hl).2
 subst this
 exact ⟨Srt.nil,by simp⟩
def StOk (p:Pn) (s:MS):Prop:=KO s∧s.K=p.ks
theorem st_s0 (p:Pn):StOk p (s0R p):=⟨ko_s0 p,rfl⟩
theorem st_next {p:Pn} {s:MS} (h:StOk p s) (x:Ed):StOk p (nextE p s x):=⟨ko_fin h.1 _,(keq_fin s _).trans h.2⟩
theorem st_fold {p:Pn}:∀ (q:List Ed) {s:MS},StOk p s→StOk p (q.foldl (nextE p) s)
 | [],s,h => h
 | x :: q,s,h => st_fold q (st_next h x)
theorem st_n (p:Pn) (q:List Ed) (k:Nat):StOk p (stN p q k):=st_fold _ (st_s0 p)
theorem stN_next {p:Pn} {q:List Ed} {k:Nat} {x:Ed} (h:q[k]?=some x):stN p q (k + 1)=nextE p (stN p q k) x:=by
 unfold stN
 rw [List.take_add_one,h,List.foldl_append]
 rfl
end Go.Proofs.YtmjnmpifibemjaaGreatDoor.Jd

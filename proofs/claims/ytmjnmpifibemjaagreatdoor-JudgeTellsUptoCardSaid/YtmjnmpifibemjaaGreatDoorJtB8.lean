/-
 Maps whose keys are integers: what they hold, what a look-up, a store, a delete, an assignment's two halves make of them.
-/
import Derived.Test.YtmjnmpifibemjaaGreatDoorJtB0
import Derived.MapKept
import Derived.Maps.Own
import Derived.Test.YtmjnmpifibemjaaGreatDoorJtB7
import Derived.Test.YtmjnmpifibemjaaGreatDoorJtB2
import Derived.Test.YtmjnmpifibemjaaGreatDoorJtB4
import Derived.OwnWalk
set_option linter.unusedVariables false
set_option linter.unusedSimpArgs false
set_option maxRecDepth 100000
set_option maxHeartbeats 16000000
namespace Go.Proofs.YtmjnmpifibemjaaGreatDoor
open Go Go.RowKit Go.MapKept
abbrev IEnt:=Int × Value × Nat
def ent (q:IntKind) (p:IEnt):MapEntry:={ key:=.int q p.1,val:=p.2.1,born:=p.2.2 }
structure IRaw (w:World) (q:IntKind) (b:Nat) (L:List IEnt) (c:Nat):Prop where
 blk:w.heap[b]?=some (.map (L.map (ent q)).toArray c)
 keys:(L.map (·.1)).Nodup
 stamps:(L.map (·.2.2)).Nodup
 lt:∀ p ∈ L,p.2.2 < c
def findI (L:List IEnt) (k:Int):Option Value:=(L.find? (fun p => p.1 == k)).map (·.2.1)
def IMap (w:World) (q:IntKind) (b:Nat) (f:Int→Option Value) (n:Nat):Prop:=∃ L c,IRaw w q b L c∧(∀ k,f k=findI L k)∧L.length=n
section
variable {P:Program} {w w':World} {q:IntKind} {b:Nat} {L:List IEnt} {c:Nat} {f:Int→Option Value} {n:Nat}
theorem IRaw.lt' (h:IRaw w q b L c):b < w.heap.size:=by
 rcases Nat.lt_or_ge b w.heap.size with hl | hg
 ·exact hl
 ·have:=h.blk
  rw [Array.getElem?_eq_none hg] at this
  cases this
theorem IMap.lt (h:IMap w q b f n):b < w.heap.size:=by
 obtain ⟨L,c,h,_⟩:=h
 exact h.lt'
theorem IMap.upd {S:List Nat} (h:IMap w q b f n) (hu:Upd S w w') (hb:b ∉ S):IMap w' q b f n:=by
 obtain ⟨L,c,h,h1,h2⟩:=h
 exact ⟨L,c,⟨(hu.keep b h.lt' hb).trans h.blk,h.keys,h.stamps,h.lt⟩,h1,h2⟩
theorem IMap.drew (h:IMap w q b f n):IMap w.drew q b f n:=by
 obtain ⟨L,c,h,h1,h2⟩:=h
 exact ⟨L,c,⟨h.blk,h.keys,h.stamps,h.lt⟩,h1,h2⟩
theorem IMap.new (w:World) (q:IntKind):IMap (w.alloc (.map #[] 0)) q w.heap.size (fun _ => none) 0 :=
 ⟨[],0,⟨by simpa using heap_alloc_new w (.map #[] 0),by simp,by simp,by simp⟩,fun _ => rfl,rfl⟩
theorem IMap.congr {g:Int→Option Value} (h:IMap w q b f n) (hg:∀ k,f k=g k):IMap w q b g n:=by
 obtain ⟨L,c,h,h1,h2⟩:=h
 exact ⟨L,c,h,fun k => (hg k).symm.trans (h1 k),h2⟩
theorem findNow_ent (k:Int):∀ (L:List IEnt) (i:Nat),Instr.findNow (.int q) (.int q k) (L.map (ent q)) i=some ((L.findIdx? (fun p => p.1 == k)).map (fun j => (i + j,(L.getD j (0,undef,0)).2.1)))
 | [],i => rfl
 | p :: L,i => by
   rw [List.map_cons]
   unfold Instr.findNow
   have e:Instr.sameNow (.int q) (.int q k) (ent q p).key=some (k == p.1):=by simp [Instr.sameNow,ent]
   rw [e]
   by_cases h:p.1=k
   ·subst h
    simp [ent,List.findIdx?_cons]
   ·have h1:(k == p.1)=false:=by simpa using fun e => h e.symm
    have h2:(p.1 == k)=false:=by simpa using h
    rw [h1]
    simp only
    rw [findNow_ent k L (i + 1),List.findIdx?_cons,h2]
    cases L.findIdx? (fun p => p.1 == k) with
    | none => rfl
    | some j => simp; omega
theorem findI_idx {k:Int}:findI L k=(L.findIdx? (fun p => p.1 == k)).map (fun j => (L.getD j (0,undef,0)).2.1):=by
 induction L with
 | nil => rfl
 | cons p L ih =>
   unfold findI at ih ⊢
   rw [List.find?_cons,List.findIdx?_cons]
   cases h:p.1 == k with
   | true => simp
   | false =>
     simp only [Bool.false_eq_true,if_false]
     rw [ih]
     cases L.findIdx? (fun p => p.1 == k) <;> simp
theorem run_findKey_int {kt:TypeId} (hk:P.underlying kt=some (.int q)) (k:Int) (L:List IEnt) (W:World):(Instr.findKey kt (.int q k) (L.map (ent q))).run P W=.ok ((L.findIdx? (fun p => p.1 == k)).map (fun j => (j,(L.getD j (0,undef,0)).2.1))) W:=by
 unfold Instr.findKey
 simp only [Sem.run_bind,run_underlying hk,Result.andThen]
 rw [findNow_ent]
 simp
theorem run_getObj_blk {b:Nat} {es:Array MapEntry} {c:Nat} (h:w.heap[b]?=some (.map es c)):(getObj b).run P w=.ok (.map es c) w:=by
 simp [getObj,Sem.run,h]
theorem run_lookup_int {mt kt et:TypeId} {z:Value} (hm:P.underlying mt=some (.map kt et)) (hk:P.underlying kt=some (.int q)) (hz:(zeroValue et).run P w=.ok z w) (h:IMap w q b f n) (k:Int) :
 (Instr.lookup mt (.map (some b)) (.int q k) true).run P w=.ok (.tuple #[(f k).getD z,.bool (f k).isSome]) w:=by
 obtain ⟨L,c,h,hf,_⟩:=h
 rw [hf,findI_idx]
 unfold Instr.lookup
 simp only [Sem.run_bind,run_underlying hm,Result.andThen,run_getObj_blk h.blk,Sem.run_pure,run_checkKey hk (show IsKey (.int q) (.int q k) by simp [IsKey])]
 have e:(Instr.findKey kt (.int q k) (L.map (ent q)).toArray.toList).run P w=_:=run_findKey_int hk k L w
 rw [e]
 simp only
 cases L.findIdx? (fun p => p.1 == k) with
 | none => simp [Sem.run_bind,hz,Result.andThen]
 | some j => simp [Result.andThen]
theorem run_lookup_int' {mt kt et:TypeId} {z:Value} (hm:P.underlying mt=some (.map kt et)) (hk:P.underlying kt=some (.int q)) (hz:(zeroValue et).run P w=.ok z w) (h:IMap w q b f n) (k:Int) :
 (Instr.lookup mt (.map (some b)) (.int q k) false).run P w=.ok ((f k).getD z) w:=by
 obtain ⟨L,c,h,hf,_⟩:=h
 rw [hf,findI_idx]
 unfold Instr.lookup
 simp only [Sem.run_bind,run_underlying hm,Result.andThen,run_getObj_blk h.blk,Sem.run_pure,run_checkKey hk (show IsKey (.int q) (.int q k) by simp [IsKey])]
 have e:(Instr.findKey kt (.int q k) (L.map (ent q)).toArray.toList).run P w=_:=run_findKey_int hk k L w
 rw [e]
 simp only
 cases L.findIdx? (fun p => p.1 == k) with
 | none => simp [Sem.run_bind,hz,Result.andThen]
 | some j => simp [Result.andThen]
def putI (f:Int→Option Value) (k:Int) (v:Value):Int→Option Value:=fun x => if x=k then some v else f x
def delI (f:Int→Option Value) (k:Int):Int→Option Value:=fun x => if x=k then none else f x
theorem upd_setBlk {b:Nat} (o:Obj) (hb:b < w.heap.size):Upd [b] w { w with heap:=w.heap.setIfInBounds b o } :=
 ⟨rfl,rfl,rfl,by simp,fun k hk hn => by
   have:b≠k:=fun e => hn (by simp [e])
   simp [this]⟩
theorem find_some_mem {k:Int} {j:Nat} (h:L.findIdx? (fun p => p.1 == k)=some j):∃ hj:j < L.length,L[j].1=k:=by
 rw [List.findIdx?_eq_some_iff_getElem] at h
 obtain ⟨hj,h1,_⟩:=h
 exact ⟨hj,by simpa using h1⟩
theorem find_none {k:Int} (h:L.findIdx? (fun p => p.1 == k)=none):∀ p ∈ L,p.1≠k:=by
 rw [List.findIdx?_eq_none_iff] at h
 intro p hp
 simpa using h p hp
theorem findI_none {k:Int} (h:∀ p ∈ L,p.1≠k):findI L k=none:=by
 unfold findI
 rw [List.find?_eq_none.2 (fun p hp => by simpa using h p hp)]
 rfl
theorem findI_append {M:List IEnt} (k:Int):findI (L ++ M) k=(findI L k).or (findI M k):=by
 unfold findI
 rw [List.find?_append]
 cases L.find? (fun p => p.1 == k) <;> simp
theorem findI_set {j:Nat} {k:Int} (hn:(L.map (·.1)).Nodup) (hj:j < L.length) (hk:L[j].1=k) (v:Value) (s:Nat) (x:Int):findI (L.set j (k,v,s)) x=if x=k then some v else findI L x:=by
 induction L generalizing j with
 | nil => simp at hj
 | cons a L ih =>
   rw [List.map_cons,List.nodup_cons] at hn
   cases j with
   | zero =>
     simp only [List.getElem_cons_zero] at hk
     rw [List.set_cons_zero]
     unfold findI
     rw [List.find?_cons,List.find?_cons,hk]
     by_cases h:x=k
     ·subst h; simp
     ·have:(k == x)=false:=by simpa using fun e => h e.symm
      simp only [this]
      rw [if_neg h]
   | succ j =>
     rw [List.set_cons_succ]
     unfold findI at ih ⊢
     rw [List.find?_cons,List.find?_cons]
     by_cases h:a.1=x
     ·subst h
      have:a.1≠k:=fun e => hn.1 (by
       have hj':j < L.length:=by simpa using hj
       refine List.mem_map.2 ⟨L[j],List.getElem_mem hj',?_⟩
       simpa [e] using hk)
      simp [this]
     ·have:(a.1 == x)=false:=by simpa using h
      rw [this]
      simp only
      exact ih hn.2 (by simpa using hj) (by simpa using hk)
theorem set_same {α:Type} {l:List α} {j:Nat} {x:α} (hj:j < l.length) (h:l[j]=x):l.set j x=l:=by
 subst h
 exact List.set_getElem_self hj
theorem IRaw.set {j:Nat} {k:Int} (h:IRaw w q b L c) (hj:j < L.length) (hk:L[j].1=k) (v:Value):IRaw { w with heap:=w.heap.setIfInBounds b (.map ((L.set j (k,v,L[j].2.2)).map (ent q)).toArray c) } q b (L.set j (k,v,L[j].2.2)) c:=by
 refine ⟨(heap_set h.blk).1,?_,?_,?_⟩
 ·rw [List.map_set,set_same (by simpa using hj) (by simpa using hk)]
  exact h.keys
 ·rw [List.map_set,set_same (by simpa using hj) (by simp)]
  exact h.stamps
 ·intro p hp
  rcases List.mem_or_eq_of_mem_set hp with hp | rfl
  ·exact h.lt p hp
  ·exact h.lt L[j] (List.getElem_mem hj)
theorem IRaw.push {k:Int} (h:IRaw w q b L c) (hk:∀ p ∈ L,p.1≠k) (v:Value):IRaw { w with heap:=w.heap.setIfInBounds b (.map ((L ++ [(k,v,c)]).map (ent q)).toArray (c + 1)) } q b (L ++ [(k,v,c)]) (c + 1):=by
 refine ⟨(heap_set h.blk).1,?_,?_,?_⟩
 ·rw [List.map_append,List.nodup_append]
  refine ⟨h.keys,by simp,?_⟩
  intro a ha x hx
  simp at hx
  subst hx
  obtain ⟨p,hp,rfl⟩:=List.mem_map.1 ha
  exact hk p hp
 ·rw [List.map_append,List.nodup_append]
  refine ⟨h.stamps,by simp,?_⟩
  intro a ha x hx
  simp at hx
  subst hx
  obtain ⟨p,hp,rfl⟩:=List.mem_map.1 ha
  have:=h.lt p hp
  omega
 ·intro p hp
  rcases List.mem_append.1 hp with hp | hp
  ·have:=h.lt p hp; omega
  ·simp at hp; subst hp; simp
theorem modify_ent {j:Nat} {k:Int} (hj:j < L.length) (hk:L[j].1=k) (g:MapEntry→MapEntry) (v:Value) (hg:g (ent q L[j])=ent q (k,v,L[j].2.2)):(L.map (ent q)).toArray.modify j g=((L.set j (k,v,L[j].2.2)).map (ent q)).toArray:=by
 apply Array.ext_getElem?
 intro i
 rw [Array.getElem?_modify]
 simp only [List.getElem?_toArray,List.getElem?_map,List.getElem?_set]
 by_cases h:j=i
 ·subst h
  simp [hj,hg]
 ·simp [h]
theorem run_keyStays (k:Int) (W:World):(Instr.keyThatStays (.int q k) (.int q k)).run P W=.ok (.int q k) W:=by
 unfold Instr.keyThatStays
 have:Instr.sameBits 10000 (.int q k) (.int q k)=true:=by simp [Instr.sameBits]
 rw [if_pos this]
 simp
theorem run_mapUpdate_int {mt kt et:TypeId} (hm:P.underlying mt=some (.map kt et)) (hk:P.underlying kt=some (.int q)) (h:IMap w q b f n) (k:Int) (v:Value) :
 ∃ w',(Instr.mapUpdate mt (.map (some b)) (.int q k) v).run P w=.ok () w'∧IMap w' q b (putI f k v) (if (f k).isSome then n else n + 1)∧Upd [b] w w':=by
 obtain ⟨L,c,h,hf,hn⟩:=h
 have hfk:=hf k
 rw [findI_idx] at hfk
 unfold Instr.mapUpdate
 simp only [Sem.run_bind,run_underlying hm,Result.andThen,run_getObj_blk h.blk,run_checkKey hk (show IsKey (.int q) (.int q k) by simp [IsKey])]
 have e:(Instr.findKey kt (.int q k) (L.map (ent q)).toArray.toList).run P w=_:=run_findKey_int hk k L w
 rw [e]
 simp only
 cases hi:L.findIdx? (fun p => p.1 == k) with
 | none =>
   have hno:=find_none hi
   rw [hi] at hfk
   rw [hfk]
   refine ⟨_,by simp only [Option.map_none]; exact run_setObj_map _ h.blk,⟨L ++ [(k,v,c)],c + 1,?_,fun x => ?_,by simp [hn]⟩,upd_setBlk _ h.lt'⟩
   ·have:=h.push hno v
    rw [List.map_append] at this
    rw [List.push_toArray]
    exact this
   ·unfold putI
    rw [findI_append,hf]
    by_cases hx:x=k
    ·subst hx
     rw [if_pos rfl,findI_none hno]
     simp [findI]
    ·rw [if_neg hx]
     have:findI [(k,v,c)] x=none:=findI_none (by simp; exact fun e => hx e.symm)
     rw [this]
     simp
 | some j =>
   obtain ⟨hj,hjk⟩:=find_some_mem hi
   rw [hi] at hfk
   have hke:(((L.map (ent q)).toArray[j]?).map (·.key)).getD (.int q k)=.int q k:=by
    simp [hj,ent,hjk]
   refine ⟨_,?_,⟨L.set j (k,v,L[j].2.2),c,h.set hj hjk v,fun x => ?_,by rw [hfk]; simp [hn]⟩,upd_setBlk _ h.lt'⟩
   ·simp only [Option.map_some,Sem.run_bind,Result.andThen,hke,run_keyStays]
    rw [modify_ent hj hjk _ v (by simp [ent])]
    exact run_setObj_map _ h.blk
   ·unfold putI
    rw [findI_set h.keys hj hjk,hf]
theorem run_delete_int {mt kt et ty:TypeId} {ats:Array TypeId} (ha:ats[0]?=some mt) (hm:P.underlying mt=some (.map kt et)) (hk:P.underlying kt=some (.int q)) (h:IMap w q b f n) (k:Int) :
 ∃ w',(Builtin.delete_ ats ty #[.map (some b),.int q k]).run P w=.ok (.tuple #[]) w'∧IMap w' q b (delI f k) (if (f k).isSome then n - 1 else n)∧Upd [b] w w':=by
 obtain ⟨L,c,h,hf,hn⟩:=h
 have hfk:=hf k
 rw [findI_idx] at hfk
 unfold Builtin.delete_
 rw [ha]
 simp only [List.getElem?_toArray,List.getElem?_cons_zero,List.getElem?_cons_succ,Sem.run_bind,run_underlying hm,Result.andThen,run_getObj_blk h.blk,run_checkKey hk (show IsKey (.int q) (.int q k) by simp [IsKey])]
 have e:(Instr.findKey kt (.int q k) (L.map (ent q)).toArray.toList).run P w=_:=run_findKey_int hk k L w
 rw [e]
 simp only
 cases hi:L.findIdx? (fun p => p.1 == k) with
 | none =>
   have hno:=find_none hi
   rw [hi] at hfk
   rw [hfk]
   refine ⟨_,by simp only [Option.map_none,Sem.run_bind,run_setObj_map _ h.blk,Result.andThen,Sem.run_pure],⟨L,c,⟨(heap_set h.blk).1,h.keys,h.stamps,h.lt⟩,fun x => ?_,by simp [hn]⟩,upd_setBlk _ h.lt'⟩
   unfold delI
   by_cases hx:x=k
   ·subst hx; rw [if_pos rfl,findI_none hno]
   ·rw [if_neg hx,hf]
 | some j =>
   obtain ⟨hj,hjk⟩:=find_some_mem hi
   rw [hi] at hfk
   have e1:(L.map (ent q)).toArray.eraseIdxIfInBounds j=((L.eraseIdx j).map (ent q)).toArray:=by
    have:(L.map (ent q)).eraseIdx j=(L.eraseIdx j).map (ent q):=by
     rw [List.eraseIdx_eq_take_drop_succ,List.eraseIdx_eq_take_drop_succ,List.map_append,List.map_take,List.map_drop]
    simp [Array.eraseIdxIfInBounds,hj,List.eraseIdx_toArray,this]
   refine ⟨{ w with heap:=w.heap.setIfInBounds b (.map ((L.eraseIdx j).map (ent q)).toArray c) },by simp only [Option.map_some,Sem.run_bind,run_setObj_map _ h.blk,Result.andThen,Sem.run_pure]; rw [e1],⟨L.eraseIdx j,c,⟨(heap_set h.blk).1,?_,?_,fun p hp => h.lt p (List.mem_of_mem_eraseIdx hp)⟩,fun x => ?_,by rw [hfk,List.length_eraseIdx_of_lt hj,hn]; rfl⟩,upd_setBlk _ h.lt'⟩
   ·exact h.keys.sublist ((List.eraseIdx_sublist L j).map _)
   ·exact h.stamps.sublist ((List.eraseIdx_sublist L j).map _)
   ·unfold delI
    have hL:L=L.take j ++ L[j] :: L.drop (j + 1):=by rw [← List.drop_eq_getElem_cons hj,List.take_append_drop]
    have hE:L.eraseIdx j=L.take j ++ L.drop (j + 1):=List.eraseIdx_eq_take_drop_succ ..
    have hnd:=h.keys
    rw [hL,List.map_append,List.map_cons,hjk] at hnd
    rw [List.nodup_append,List.nodup_cons] at hnd
    obtain ⟨_,⟨n1,_⟩,n3⟩:=hnd
    rw [hf,hE]
    conv => lhs; rw [hL]
    rw [findI_append,findI_append]
    by_cases hx:x=k
    ·subst hx
     rw [if_pos rfl,findI_none (L:=L.take j) (fun p hp e => n3 _ (List.mem_map.2 ⟨p,hp,rfl⟩) _ (List.mem_cons_self ..) e),findI_none (L:=L.drop (j + 1)) (fun p hp e => n1 (List.mem_map.2 ⟨p,hp,e⟩))]
     rfl
    ·rw [if_neg hx]
     have:findI (L[j] :: L.drop (j + 1)) x=findI (L.drop (j + 1)) x:=by
      unfold findI
      rw [List.find?_cons]
      have:(L[j].1 == x)=false:=by rw [hjk]; simpa using fun e => hx e.symm
      rw [this]
     rw [this]
end
end Go.Proofs.YtmjnmpifibemjaaGreatDoor
namespace Go.Proofs.YtmjnmpifibemjaaGreatDoor
open Go.RowKit Assoc MP
attribute [local go_sem] litStep_value
theorem stopped {p:Prop} (h:Hid p):p:=h.out
theorem blk_map {w:World} {b:Nat} {t:TypeId} {cs:Array Value} {q:IntKind} {f:Int→Option Value} {n:Nat} (h:Blk w b t cs) {m:Nat} (hm:IMap w q m f n):b≠m:=by
 rintro rfl
 obtain ⟨L,c,hr,_⟩:=hm
 have:=hr.blk
 unfold Blk at h
 rw [h] at this
 cases this
theorem own_map {w:World} {B s n m k:Nat} {e:TypeId} {v:Value} {xs:List Value} {q:IntKind} {f:Int→Option Value} (h:w.ownsRow B e s v n xs) (hm:IMap w q m f k):v.ownBlock≠some m:=by
 intro hb
 rcases h.2 with ⟨e,_⟩ | ⟨g,cap,cur,e,_,hg,_⟩
 ·rw [e] at hb; simp [Value.ownBlock] at hb
 ·rw [e] at hb
  simp only [Value.ownBlock,Option.some.injEq] at hb
  subst hb
  exact (blk_map hg hm) rfl
theorem run_len_int {P:Program} {w:World} {q:IntKind} {b n:Nat} {f:Int→Option Value} {mt kt et:TypeId} (hm:P.underlying mt=some (.map kt et)) (h:IMap w q b f n) (ty:TypeId):(Builtin.len_ #[mt] ty #[.map (some b)]).run P w=.ok (.int .i64 n) w:=by
 obtain ⟨L,c,h,_,hn⟩:=h
 simp [Builtin.len_,run_underlying hm,run_getObj_blk h.blk,goInt,Result.andThen,hn]
def mapI (l:AL):Int→Option Value:=fun c => (get l c).map (Value.int .i64)
theorem mapI_put {l:AL} (h:Srt l) (c v k:Int):mapI (put l c v) k=putI (mapI l) c (.int .i64 v) k:=by
 unfold mapI putI
 rw [get_put h]
 by_cases e:k=c <;> simp [e]
theorem mapI_del {l:AL} (c k:Int):mapI (del l c) k=delI (mapI l) c k:=by
 unfold mapI delI
 rw [get_del]
 by_cases e:k=c <;> simp [e]
theorem mapI_some (l:AL) (c:Int):(mapI l c).isSome=(get l c).isSome:=by unfold mapI; cases get l c <;> rfl
theorem imapI_put {w:World} {m:Nat} {l:AL} {c x:Int} (hs:Srt l) (h:IMap w .i64 m (putI (mapI l) c (.int .i64 x)) (if (mapI l c).isSome then l.length else l.length + 1)):IMap w .i64 m (mapI (put l c x)) (put l c x).length:=by
 rw [mapI_some] at h
 rw [len_put hs]
 exact h.congr (fun k => by rw [mapI_put hs])
theorem imapI_del {w:World} {m:Nat} {l:AL} {c:Int} (hs:Srt l) (h:IMap w .i64 m (delI (mapI l) c) (if (mapI l c).isSome then l.length - 1 else l.length)):IMap w .i64 m (mapI (del l c)) (del l c).length:=by
 rw [mapI_some] at h
 rw [len_del hs]
 exact h.congr (fun k => by rw [mapI_del])
abbrev encK:Enc Int:=encI .i64
def mapsV (ms:List Nat):List Value:=ms.map (fun m => .map (some m))
structure MdlSt (B sb:Nat) (vk:Value) (gc cc:Nat) (ms:List Nat) (w:World) (s:MS):Prop where
 box:Blk w sb 148 #[vk,.slice (some ⟨gc,0,none⟩) s.L.length cc]
 k:Ow encK 3 w B vk s.K
 c:w.ownsRow B 149 1 (.slice (some ⟨gc,0,none⟩) s.L.length cc) s.L.length (mapsV ms)
 each:∀ (i m:Nat) (l:AL),ms[i]?=some m→s.L[i]?=some l→IMap w .i64 m (mapI l) l.length
 nd:ms.Nodup
 bs:B≤sb
 bm:∀ m ∈ ms,B≤m
def fpM (sb:Nat) (vk:Value) (gc:Nat) (ms:List Nat):List Nat:=sb :: gc :: (vk.ownBlock.toList ++ ms)
def Mdl (B sb:Nat) (F:List Nat) (w:World) (s:MS):Prop:=MP.Good s∧∃ vk gc cc ms,F=fpM sb vk gc ms∧MdlSt B sb vk gc cc ms w s
section
variable {B sb gc cc:Nat} {vk:Value} {ms:List Nat} {w w':World} {s:MS} {F T:List Nat}
theorem MdlSt.mlen (h:MdlSt B sb vk gc cc ms w s):ms.length=s.L.length:=by have:=own_len h.c; simp [mapsV] at this; omega
theorem MdlSt.at_ (h:MdlSt B sb vk gc cc ms w s) {i:Nat} (hi:i < s.L.length):∃ m,ms[i]?=some m∧IMap w .i64 m (mapI (coll s i)) (coll s i).length:=by
 have hm:i < ms.length:=by rw [h.mlen]; exact hi
 exact ⟨ms[i],List.getElem?_eq_getElem hm,h.each i _ _ (List.getElem?_eq_getElem hm) (coll_get hi)⟩
theorem MdlSt.mem (h:MdlSt B sb vk gc cc ms w s) {m:Nat} (hm:m ∈ ms):∃ f n,IMap w .i64 m f n:=by
 obtain ⟨i,hi,rfl⟩:=List.getElem_of_mem hm
 have hi':i < s.L.length:=by rw [← h.mlen]; exact hi
 exact ⟨_,_,h.each i _ _ (List.getElem?_eq_getElem hi) (coll_get hi')⟩
theorem MdlSt.upd (h:MdlSt B sb vk gc cc ms w s) (hu:Upd T w w') (hT:∀ k ∈ fpM sb vk gc ms,k ∉ T):MdlSt B sb vk gc cc ms w' s:=by
 unfold fpM at hT
 simp only [List.mem_cons,List.mem_append,Option.mem_toList] at hT
 refine ⟨h.box.upd hu (hT _ (.inl rfl)),h.k.upd hu fun b hb => hT b (.inr (.inr (.inl hb))),own_upd h.c hu fun b hb => hT b (.inr (.inl (by simp [Value.ownBlock] at hb; exact hb.symm))),fun i m l hm hl => (h.each i m l hm hl).upd hu (hT m (.inr (.inr (.inr (List.mem_of_getElem? hm))))),h.nd,h.bs,h.bm⟩
theorem Mdl.upd (h:Mdl B sb F w s) (hu:Upd T w w') (hT:Disj F T):Mdl B sb F w' s:=by
 obtain ⟨g,vk,gc,cc,ms,rfl,h⟩:=h
 exact ⟨g,vk,gc,cc,ms,rfl,h.upd hu hT⟩
theorem Mdl.upd0 (h:Mdl B sb F w s) (hu:Upd [] w w'):Mdl B sb F w' s:=h.upd hu (fun k _ => by simp)
theorem MdlSt.lt (h:MdlSt B sb vk gc cc ms w s):∀ k ∈ fpM sb vk gc ms,B≤k∧k < w.heap.size:=by
 intro k hk
 unfold fpM at hk
 simp only [List.mem_cons,List.mem_append,Option.mem_toList] at hk
 rcases hk with rfl | rfl | hk | hk
 ·exact ⟨h.bs,h.box.lt⟩
 ·exact own_lt h.c rfl
 ·exact own_lt h.k hk
 ·obtain ⟨f,n,hm⟩:=h.mem hk
  exact ⟨h.bm k hk,hm.lt⟩
theorem Mdl.lt (h:Mdl B sb F w s):∀ k ∈ F,B≤k∧k < w.heap.size:=by
 obtain ⟨g,vk,gc,cc,ms,rfl,h⟩:=h
 exact h.lt
theorem MdlSt.turn (h:MdlSt B sb vk gc cc ms w s) {i m:Nat} (hi:i < s.L.length) (hm:ms[i]?=some m) {l:AL} (hu:Upd [m] w w') (hl:IMap w' .i64 m (mapI l) l.length):MdlSt B sb vk gc cc ms w' (setC s i l):=by
 obtain ⟨f,n,hmm⟩:=h.mem (List.mem_of_getElem? hm)
 have e:(setC s i l).L.length=s.L.length:=by simp [setC]
 refine ⟨by rw [e]; exact h.box.upd hu (by simp; exact blk_map h.box hmm),h.k.upd hu fun b hb => by simp; rintro rfl; exact own_map h.k hmm hb,by rw [e]; exact own_upd h.c hu fun b hb => by simp; rintro rfl; exact own_map h.c hmm hb,fun j m' l' hj hl' => ?_,h.nd,h.bs,h.bm⟩
 have hl2:(s.L.set i l)[j]?=some l':=hl'
 rw [List.getElem?_set] at hl2
 by_cases hij:i=j
 ·subst hij
  rw [if_pos rfl,if_pos hi] at hl2
  rw [hm] at hj
  injection hj with hj
  injection hl2 with hl2
  subst hj hl2
  exact hl
 ·rw [if_neg hij] at hl2
  refine (h.each j m' l' hj hl2).upd hu ?_
  simp
  rintro rfl
  have hd:=h.nd
  have h1:=List.getElem?_eq_some_iff.1 hm
  have h2:=List.getElem?_eq_some_iff.1 hj
  obtain ⟨l1,e1⟩:=h1
  obtain ⟨l2,e2⟩:=h2
  rcases Nat.lt_or_ge i j with h3 | h3
  ·exact List.pairwise_iff_getElem.1 hd i j l1 l2 h3 (e1.trans e2.symm)
  ·exact List.pairwise_iff_getElem.1 hd j i l2 l1 (by omega) (e2.trans e1.symm)
end
def CollPost (s:MS) (ms:List Nat) (c:Int) (w:World) (e:Ending) (w':World):Prop :=
 (isC s c=true∧w=w'∧∃ (i m:Nat),c=i∧i < s.L.length∧ms[i]?=some m∧e=.returned (.tuple #[.map (some m),.nilIface])) ∨
 (isC s c=false∧Upd [] w w'∧∃ g,e=.returned (.tuple #[.map none,.iface 96 (.pointer (some ⟨g,0,none⟩))])∧Blk w' g 100 #[.int .i64 c,.int .i64 3])
theorem m_coll (B sb:Nat) (vk:Value) (gc cc:Nat) (ms:List Nat) (s:MS) (c:Int) (w:World) (h:MdlSt B sb vk gc cc ms w s) (hk8:s.L.length≤8) :
 Calls Tryz.prog 71 #[.pointer (some ⟨sb,0,none⟩),.int .i64 c] w fun e w' => CollPost s ms c w e w':=by
 have eq0:=@Lib.run_eql_slice_nil Tryz.prog
 have HS:=Zh h
 obtain ⟨n,hn⟩:∃ n,s.L.length=n:=⟨_,rfl⟩
 have HN:=Zh hn
 have c1:w.cell? ⟨sb,1,none⟩=some (.slice (some ⟨gc,0,none⟩) n cc):=by rw [← hn]; exact h.box.cell 1
 rw [hn] at hk8
 clear h hn
 go_enter Tryz.func71,Tryz.ntmps71
 by_cases h1:c < 0
 ·have HI:Hid (isC s c=false):=Zh (by unfold isC; rw [decide_eq_false_iff_not]; omega)
  go_wp2_with fail
  go_ret2
  unfold CollPost
  exact .inr ⟨HI.out,(Upd.refl [] w).alloc _,w.heap.size,rfl,Blk.new w _ _⟩
 ·by_cases h2:(n:Int)≤c
  ·have HI:Hid (isC s c=false):=Zh (by unfold isC; rw [decide_eq_false_iff_not,HN.out]; omega)
   go_wp2_with fail
   go_ret2
   unfold CollPost
   exact .inr ⟨HI.out,(Upd.refl [] w).alloc _,w.heap.size,rfl,Blk.new w _ _⟩
  ·have HI:Hid (isC s c=true):=Zh (by unfold isC; rw [decide_eq_true_iff,HN.out]; omega)
   obtain ⟨i,rfl,hi⟩:=isC_form HI.out
   obtain ⟨m,hm,_⟩:=HS.out.at_ hi
   have hin:i < n:=by rw [← HN.out]; exact hi
   have HM:=Zh hm
   have HII:=Zh hi
   have e0:w.cell? ⟨gc,i,none⟩=some (.map (some m)):=own_cell HS.out.c i _ (by unfold mapsV; rw [List.getElem?_map,hm]; rfl)
   have q1:(0:Int)≤(i:Int):=by omega
   have q2:(i:Int) < (n:Int):=by omega
   clear hm hi
   go_wp2_with fail
   go_ret2
   unfold CollPost
   exact .inl ⟨HI.out,rfl,i,m,rfl,HII.out,HM.out,rfl⟩
end Go.Proofs.YtmjnmpifibemjaaGreatDoor
namespace Go.Proofs.YtmjnmpifibemjaaGreatDoor
open Go.RowKit Assoc MP
attribute [local go_sem] litStep_value
def GetPost (s:MS) (c k:Int) (w:World) (e:Ending) (w':World):Prop:=∃ v,e=.returned (.tuple #[.int .i64 (if isC s c then (get (coll s c.toNat) k).getD 0 else 0),.bool (if isC s c then (get (coll s c.toNat) k).isSome else false),v])∧ErrV w' v (if isC s c then 0 else 3) (if isC s c then 0 else c)∧Upd [] w w'
theorem m_get (B sb:Nat) (F:List Nat) (s:MS) (c k:Int) (w:World) (h:Mdl B sb F w s) :
 Calls Tryz.prog 134 #[.pointer (some ⟨sb,0,none⟩),.int .i64 c,.int .i64 k] w fun e w' => GetPost s c k w e w':=by
 have H:=Zh h
 obtain ⟨g,vk,gc,cc,ms,hF,h⟩:=h
 have HF:=Zh hF
 have HS:=Zh h
 have HG:=Zh g
 have K8:=Zh (show s.L.length≤8 by have:=g.k8; rw [g.kl] at this; exact this)
 clear g hF h
 go_enter Tryz.func134,Tryz.ntmps134
 go_wp2_with fail
 refine (m_coll B sb vk gc cc ms s c w HS.out K8.out).mono ?_
 rintro e w1 (⟨hc,rfl,i,m,rfl,hi,hm,rfl⟩ | ⟨hc,u1,gf,rfl,bf⟩)
 ·
  obtain ⟨m',hm',him⟩:=HS.out.at_ hi
  obtain rfl:m'=m:=by rw [hm] at hm'; exact (Option.some.inj hm').symm
  obtain ⟨ov,hov⟩:∃ ov,(get (coll s i) k).getD 0=ov:=⟨_,rfl⟩
  obtain ⟨is,his⟩:∃ is,(get (coll s i) k).isSome=is:=⟨_,rfl⟩
  have l0:(Instr.lookup 149 (.map (some m')) (.int .i64 k) true).run Tryz.prog w=.ok (.tuple #[.int .i64 ov,.bool is]) w:=by
   have hr:=run_lookup_int (P:=Tryz.prog) (z:=.int .i64 0) (mt:=149) Tryz.underlying149 Tryz.underlying3 (w:=w) (by kernel_rfl) him k
   rw [hr]
   unfold mapI
   rw [← hov,← his]
   cases get (coll s i) k <;> rfl
  have HR:Hid ((get (coll s i) k).getD 0=ov∧(get (coll s i) k).isSome=is):=Zh ⟨hov,his⟩
  have HI:=Zh hc
  have HIM:=Zh him
  have HM:=Zh hm
  have HII:=Zh hi
  clear hov his hm hm' hi hc him
  go_wp2_with fail
  go_ret3
  unfold GetPost
  rw [HI.out,Int.toNat_natCast,HR.out.1,HR.out.2]
  exact ⟨_,rfl,ErrV.nil _,.refl _ _⟩
 ·have U1:=Zh u1
  have BF:=Zh bf
  have HI:=Zh hc
  clear u1 bf hc
  go_wp2_with fail
  go_ret3
  unfold GetPost
  rw [HI.out]
  exact ⟨_,rfl,ErrV.fault (no:=3) (at_:=c) BF.out (by omega) (by omega),U1.out⟩
def SizePost (s:MS) (c:Int) (w:World) (e:Ending) (w':World):Prop:=∃ v,e=.returned (.tuple #[.int .i64 (if isC s c then ((coll s c.toNat).length:Int) else 0),v])∧ErrV w' v (if isC s c then 0 else 3) (if isC s c then 0 else c)∧Upd [] w w'
theorem m_size (B sb:Nat) (F:List Nat) (s:MS) (c:Int) (w:World) (h:Mdl B sb F w s) :
 Calls Tryz.prog 42 #[.pointer (some ⟨sb,0,none⟩),.int .i64 c] w fun e w' => SizePost s c w e w':=by
 have ln0:∀ W,(Builtin.len_ #[149] 3 #[.map none]).run Tryz.prog W=.ok (.int .i64 0) W:=fun W => by kernel_rfl
 have H:=Zh h
 obtain ⟨g,vk,gc,cc,ms,hF,h⟩:=h
 have HF:=Zh hF
 have HS:=Zh h
 have HG:=Zh g
 have K8:=Zh (show s.L.length≤8 by have:=g.k8; rw [g.kl] at this; exact this)
 clear g hF h
 go_enter Tryz.func42,Tryz.ntmps42
 go_wp2_with fail
 refine (m_coll B sb vk gc cc ms s c w HS.out K8.out).mono ?_
 rintro e w1 (⟨hc,rfl,i,m,rfl,hi,hm,rfl⟩ | ⟨hc,u1,gf,rfl,bf⟩)
 ·obtain ⟨m',hm',him⟩:=HS.out.at_ hi
  obtain rfl:m'=m:=by rw [hm] at hm'; exact (Option.some.inj hm').symm
  obtain ⟨N,hN⟩:∃ N,(coll s i).length=N:=⟨_,rfl⟩
  have ln:(Builtin.len_ #[149] 3 #[.map (some m')]).run Tryz.prog w=.ok (.int .i64 N) w:=hN ▸ run_len_int Tryz.underlying149 him _
  have HI:=Zh hc
  have HNN:=Zh hN
  clear hm hm' hi hc him hN
  go_wp2_with fail
  go_ret2
  unfold SizePost
  rw [HI.out,Int.toNat_natCast,HNN.out]
  exact ⟨_,rfl,ErrV.nil _,.refl _ _⟩
 ·have U1:=Zh u1
  have BF:=Zh bf
  have HI:=Zh hc
  clear u1 bf hc
  go_wp2_with fail
  go_ret2
  unfold SizePost
  rw [HI.out]
  exact ⟨_,rfl,ErrV.fault (no:=3) (at_:=c) BF.out (by omega) (by omega),U1.out⟩
def MPutPost (B sb:Nat) (F:List Nat) (s:MS) (c k v:Int) (w:World) (e:Ending) (w':World):Prop:=∃ u,e=.returned u∧ErrV w' u (if isC s c then putE (coll s c.toNat) k else 3) (if isC s c then 0 else c)∧Mdl B sb F w' (if isC s c then mPut s c.toNat k v else s)∧Upd F w w'
theorem m_put (B sb:Nat) (F:List Nat) (s:MS) (c k v:Int) (w:World) (h:Mdl B sb F w s) (hkb:kB k) :
 Calls Tryz.prog 137 #[.pointer (some ⟨sb,0,none⟩),.int .i64 c,.int .i64 k,.int .i64 v] w fun e w' => MPutPost B sb F s c k v w e w':=by
 have HKB:=Zh hkb
 clear hkb
 have H:=Zh h
 obtain ⟨g,vk,gc,cc,ms,hF,h⟩:=h
 have HF:=Zh hF
 have HS:=Zh h
 have HG:=Zh g
 have K8:=Zh (show s.L.length≤8 by have:=g.k8; rw [g.kl] at this; exact this)
 clear g hF h
 go_enter Tryz.func137,Tryz.ntmps137
 go_wp2_with fail
 refine (m_coll B sb vk gc cc ms s c w HS.out K8.out).mono ?_
 rintro e w1 (⟨hc,rfl,i,m,rfl,hi,hm,rfl⟩ | ⟨hc,u1,gf,rfl,bf⟩)
 ·
  obtain ⟨m',hm',him⟩:=HS.out.at_ hi
  obtain rfl:m'=m:=by rw [hm] at hm'; exact (Option.some.inj hm').symm
  obtain ⟨ov,hov⟩:∃ ov,(get (coll s i) k).getD 0=ov:=⟨_,rfl⟩
  obtain ⟨is,his⟩:∃ is,(get (coll s i) k).isSome=is:=⟨_,rfl⟩
  have l0:(Instr.lookup 149 (.map (some m')) (.int .i64 k) true).run Tryz.prog w=.ok (.tuple #[.int .i64 ov,.bool is]) w:=by
   have hr:=run_lookup_int (P:=Tryz.prog) (z:=.int .i64 0) (mt:=149) Tryz.underlying149 Tryz.underlying3 (w:=w) (by kernel_rfl) him k
   rw [hr]
   unfold mapI
   rw [← hov,← his]
   cases get (coll s i) k <;> rfl
  have HR:Hid ((get (coll s i) k).getD 0=ov∧(get (coll s i) k).isSome=is):=Zh ⟨hov,his⟩
  have HI:=Zh hc
  have HIM:=Zh him
  have HM:=Zh hm
  have HII:=Zh hi
  obtain ⟨N,hN⟩:∃ N,(coll s i).length=N:=⟨_,rfl⟩
  have ln:(Builtin.len_ #[149] 3 #[.map (some m')]).run Tryz.prog w=.ok (.int .i64 N) w:=hN ▸ run_len_int Tryz.underlying149 him _
  have HE:Hid (putE (coll s i) k=if is=false∧100≤N then 8 else 0):=Zh (by unfold putE; rw [his,hN])
  have SR:Hid (Srt (coll s i)):=Zh (HG.out.srt _ (coll_mem hi))
  obtain ⟨Ak,ck,rfl,hnk,_⟩:=own_slice HS.out.k
  obtain ⟨NK,hNK⟩:∃ NK,s.K.length=NK:=⟨_,rfl⟩
  have hik:i < NK:=by rw [← hNK,HG.out.kl]; exact hi
  have OK:Hid (w.ownsRow B 3 1 (.slice Ak NK ck) NK (flat encK s.K)):=Zh (by have:=HS.out.k; unfold Ow at this; rw [hNK] at this; exact this)
  obtain ⟨gk,cg,cur,e1,_⟩:=own_form OK.out (by omega)
  injection e1 with e1 _ e1'
  subst e1 e1'
  obtain ⟨y,hy⟩:∃ y,s.K[i]?=some y:=⟨_,List.getElem?_eq_getElem (by rw [hNK]; exact hik)⟩
  have e0:w.cell? ⟨gk,i,none⟩=some (.int .i64 y):=by
   have:=own_cell OK.out _ _ ((flat_get (E:=encK) hy (j:=0) (by decide)).trans rfl)
   rwa [show i * encK.s + 0=i by simp [encI]] at this
  have c0:w.cell? ⟨sb,0,none⟩=some (.slice (some ⟨gk,0,none⟩) NK ck):=by rw [← hNK]; exact HS.out.box.cell 0
  have q1:(0:Int)≤(i:Int):=by omega
  have q2:(i:Int) < (NK:Int):=by omega
  have HV:Hid (putV s i v=if y=2 then 1 else v):=Zh (by unfold putV; rw [List.getD_eq_getElem?_getD,hy]; rfl)
  clear hov his hm hm' hi hc him hN hNK hy
  cases is with
  | true =>
    have HE0:Hid (putE (coll s i) k=0):=Zh (by rw [HE.out,if_neg (by simp; try omega)])
    by_cases hy2:y=2
    ·have d2:(y == 2)=true:=by simpa using hy2
     have HVV:Hid (putV s i v=1):=Zh (by rw [HV.out,if_pos hy2])
     clear hy2
     obtain ⟨W3,r3,m3,u3⟩:=run_mapUpdate_int (P:=Tryz.prog) (mt:=149) Tryz.underlying149 Tryz.underlying3 HIM.out k (.int .i64 1)
     have M3:=Zh (imapI_put SR.out m3)
     have U3:=Zh u3
     clear m3 u3
     go_wp2_with fail
     go_ret
     unfold MPutPost
     rw [HI.out,Int.toNat_natCast,HE0.out]
     have GP:=good_put HG.out HII.out k v HKB.out
     have EP:mPut s i k v=setC s i (put (coll s i) k 1):=by unfold mPut; rw [HE0.out,HVV.out]; rfl
     rw [EP] at GP ⊢
     refine ⟨_,rfl,ErrV.nil _,⟨GP,_,gc,cc,ms,HF.out,HS.out.turn HII.out HM.out U3.out M3.out⟩,?_⟩
     rw [HF.out]
     exact U3.out.mono (by intro y hy; simp at hy; subst hy; exact .inl (by unfold fpM; simp [List.mem_of_getElem? HM.out]))
    ·have d2:(y == 2)=false:=by simpa using hy2
     have HVV:Hid (putV s i v=v):=Zh (by rw [HV.out,if_neg hy2])
     clear hy2
     obtain ⟨W3,r3,m3,u3⟩:=run_mapUpdate_int (P:=Tryz.prog) (mt:=149) Tryz.underlying149 Tryz.underlying3 HIM.out k (.int .i64 v)
     have M3:=Zh (imapI_put SR.out m3)
     have U3:=Zh u3
     clear m3 u3
     go_wp2_with fail
     go_ret
     unfold MPutPost
     rw [HI.out,Int.toNat_natCast,HE0.out]
     have GP:=good_put HG.out HII.out k v HKB.out
     have EP:mPut s i k v=setC s i (put (coll s i) k v):=by unfold mPut; rw [HE0.out,HVV.out]; rfl
     rw [EP] at GP ⊢
     refine ⟨_,rfl,ErrV.nil _,⟨GP,_,gc,cc,ms,HF.out,HS.out.turn HII.out HM.out U3.out M3.out⟩,?_⟩
     rw [HF.out]
     exact U3.out.mono (by intro y hy; simp at hy; subst hy; exact .inl (by unfold fpM; simp [List.mem_of_getElem? HM.out]))
  | false =>
    by_cases h5:100≤N
    ·have d:decide ((100:Int)≤(N:Int))=true:=by simp; omega
     have HE8:Hid (putE (coll s i) k=8):=Zh (by rw [HE.out,if_pos ⟨rfl,h5⟩])
     go_wp2_with fail
     go_ret
     unfold MPutPost
     rw [HI.out,Int.toNat_natCast,HE8.out]
     refine ⟨_,rfl,ErrV.errno _ 8 (by omega) (by omega),?_,.refl _ _⟩
     have EP:mPut s i k v=s:=by unfold mPut; rw [HE8.out]; rfl
     rw [EP]
     exact H.out
    ·have d5:decide ((100:Int)≤(N:Int))=false:=by simp; omega
     have HE0:Hid (putE (coll s i) k=0):=Zh (by rw [HE.out,if_neg (by simp; try omega)])
     by_cases hy2:y=2
     ·have d2:(y == 2)=true:=by simpa using hy2
      have HVV:Hid (putV s i v=1):=Zh (by rw [HV.out,if_pos hy2])
      clear hy2
      obtain ⟨W3,r3,m3,u3⟩:=run_mapUpdate_int (P:=Tryz.prog) (mt:=149) Tryz.underlying149 Tryz.underlying3 HIM.out k (.int .i64 1)
      have M3:=Zh (imapI_put SR.out m3)
      have U3:=Zh u3
      clear m3 u3
      go_wp2_with fail
      go_ret
      unfold MPutPost
      rw [HI.out,Int.toNat_natCast,HE0.out]
      have GP:=good_put HG.out HII.out k v HKB.out
      have EP:mPut s i k v=setC s i (put (coll s i) k 1):=by unfold mPut; rw [HE0.out,HVV.out]; rfl
      rw [EP] at GP ⊢
      refine ⟨_,rfl,ErrV.nil _,⟨GP,_,gc,cc,ms,HF.out,HS.out.turn HII.out HM.out U3.out M3.out⟩,?_⟩
      rw [HF.out]
      exact U3.out.mono (by intro y hy; simp at hy; subst hy; exact .inl (by unfold fpM; simp [List.mem_of_getElem? HM.out]))
     ·have d2:(y == 2)=false:=by simpa using hy2
      have HVV:Hid (putV s i v=v):=Zh (by rw [HV.out,if_neg hy2])
      clear hy2
      obtain ⟨W3,r3,m3,u3⟩:=run_mapUpdate_int (P:=Tryz.prog) (mt:=149) Tryz.underlying149 Tryz.underlying3 HIM.out k (.int .i64 v)
      have M3:=Zh (imapI_put SR.out m3)
      have U3:=Zh u3
      clear m3 u3
      go_wp2_with fail
      go_ret
      unfold MPutPost
      rw [HI.out,Int.toNat_natCast,HE0.out]
      have GP:=good_put HG.out HII.out k v HKB.out
      have EP:mPut s i k v=setC s i (put (coll s i) k v):=by unfold mPut; rw [HE0.out,HVV.out]; rfl
      rw [EP] at GP ⊢
      refine ⟨_,rfl,ErrV.nil _,⟨GP,_,gc,cc,ms,HF.out,HS.out.turn HII.out HM.out U3.out M3.out⟩,?_⟩
      rw [HF.out]
      exact U3.out.mono (by intro y hy; simp at hy; subst hy; exact .inl (by unfold fpM; simp [List.mem_of_getElem? HM.out]))
 ·have U1:=Zh u1
  have BF:=Zh bf
  have HI:=Zh hc
  clear u1 bf hc
  go_wp2_with fail
  go_ret
  unfold MPutPost
  rw [HI.out]
  exact ⟨_,rfl,ErrV.fault (no:=3) (at_:=c) BF.out (by omega) (by omega),H.out.upd0 U1.out,U1.out.mono (by simp)⟩
def MDelPost (B sb:Nat) (F:List Nat) (s:MS) (c k:Int) (w:World) (e:Ending) (w':World):Prop:=∃ u,e=.returned u∧ErrV w' u (if isC s c then 0 else 3) (if isC s c then 0 else c)∧Mdl B sb F w' (if isC s c then mDel s c.toNat k else s)∧Upd F w w'
theorem m_del (B sb:Nat) (F:List Nat) (s:MS) (c k:Int) (w:World) (h:Mdl B sb F w s) :
 Calls Tryz.prog 138 #[.pointer (some ⟨sb,0,none⟩),.int .i64 c,.int .i64 k] w fun e w' => MDelPost B sb F s c k w e w':=by
 have H:=Zh h
 obtain ⟨g,vk,gc,cc,ms,hF,h⟩:=h
 have HF:=Zh hF
 have HS:=Zh h
 have HG:=Zh g
 have K8:=Zh (show s.L.length≤8 by have:=g.k8; rw [g.kl] at this; exact this)
 clear g hF h
 go_enter Tryz.func138,Tryz.ntmps138
 go_wp2_with fail
 refine (m_coll B sb vk gc cc ms s c w HS.out K8.out).mono ?_
 rintro e w1 (⟨hc,rfl,i,m,rfl,hi,hm,rfl⟩ | ⟨hc,u1,gf,rfl,bf⟩)
 ·obtain ⟨m',hm',him⟩:=HS.out.at_ hi
  obtain rfl:m'=m:=by rw [hm] at hm'; exact (Option.some.inj hm').symm
  obtain ⟨W3,r3,m3,u3⟩:=run_delete_int (P:=Tryz.prog) (ats:=#[149,3]) (ty:=0) rfl Tryz.underlying149 Tryz.underlying3 him k
  have M3:=Zh (imapI_del (HG.out.srt _ (coll_mem hi)) m3)
  have U3:=Zh u3
  have HI:=Zh hc
  have HM:=Zh hm
  have HII:=Zh hi
  clear hm hm' hi hc him m3 u3
  go_wp2_with fail
  go_ret
  unfold MDelPost
  rw [HI.out,Int.toNat_natCast]
  refine ⟨_,rfl,ErrV.nil _,⟨good_del HG.out HII.out k,vk,gc,cc,ms,HF.out,HS.out.turn HII.out HM.out U3.out M3.out⟩,?_⟩
  rw [HF.out]
  exact U3.out.mono (by intro y hy; simp at hy; subst hy; exact .inl (by unfold fpM; simp [List.mem_of_getElem? HM.out]))
 ·have U1:=Zh u1
  have BF:=Zh bf
  have HI:=Zh hc
  clear u1 bf hc
  go_wp2_with fail
  go_ret
  unfold MDelPost
  rw [HI.out]
  exact ⟨_,rfl,ErrV.fault (no:=3) (at_:=c) BF.out (by omega) (by omega),H.out.upd0 U1.out,U1.out.mono (by simp)⟩
end Go.Proofs.YtmjnmpifibemjaaGreatDoor

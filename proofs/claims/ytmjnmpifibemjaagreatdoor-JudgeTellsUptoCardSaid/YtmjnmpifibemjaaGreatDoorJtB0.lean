/-
 General lemmas, no program in sight: blocks known whole, which blocks may have turned, comparing two interface values of one integer type.
-/
import Derived.Below
import Derived.Laws.OwnMore
import Derived.Deep.Draws
import Derived.Laws.Rows
import Derived.LaidEql
import Derived.WalkKit
import Derived.WalkSpells
import Derived.WalkLawsBesides
import Derived.Handy
import Derived.Lib.Hide
import Derived.Deep.AppendLies
import Derived.Maps.AppendAt
import Derived.RegionTactic
import Derived.OwnWalk
import Derived.Deep.Slices
import Derived.Deep.Fields
import Derived.Test.YtmjnmpifibemjaaGreatDoorProg
set_option linter.unusedVariables false
set_option linter.unusedSimpArgs false
set_option maxRecDepth 100000
set_option maxHeartbeats 16000000
namespace Go.Proofs.YtmjnmpifibemjaaGreatDoor
open Go.RowKit
theorem aP : (∀ (a : Act) (t : Tmp) (v : Value), a.put (some t) v = { a with tmps := a.tmps.setIfInBounds t v }) ∧ (∀ (a : Act) (v : Value), a.put none v = a) ∧ (∀ (l : List Value) (i : Nat) (v : Value), l.toArray.setIfInBounds i v = (l.set i v).toArray) ∧ (∀ (x : Value) (l : List Value) (v : Value), (x :: l).set 0 v = v :: l) ∧ ∀ (x : Value) (l : List Value) (i : Nat) (v : Value), (x :: l).set (i + 1) v = x :: l.set i v :=
 ⟨fun _ _ _ => rfl, fun _ _ => rfl, fun _ _ _ => List.setIfInBounds_toArray .., fun _ _ _ => rfl, fun _ _ _ _ => rfl⟩
theorem Zh {p : Prop} (h : p) : Hid p := Lib.hid h
theorem add_head (b j:Nat):(⟨b,0,none⟩:Addr).add j=⟨b,j,none⟩:=by
 unfold Addr.add
 split
 ·rename_i h; subst h; rfl
 ·simp
def Blk (w:World) (g:Nat) (t:TypeId) (cs:Array Value):Prop:=w.heap[g]?=some (.cells cs t (0,0))
section
variable {w w':World} {g:Nat} {t:TypeId} {cs:Array Value}
theorem Blk.lt (h:Blk w g t cs):g < w.heap.size:=by
 rcases Nat.lt_or_ge g w.heap.size with hlt | hge
 ·exact hlt
 ·unfold Blk at h; rw [Array.getElem?_eq_none hge] at h; cases h
theorem Blk.cell (h:Blk w g t cs) (i:Nat):w.cell? ⟨g,i,none⟩=cs[i]?:=cell_of_row w g i cs t (0,0) h
theorem Blk.frozen (h:Blk w g t cs) (i:Nat):w.frozen? ⟨g,i,none⟩=false:=by
 unfold Blk at h
 simp [World.frozen?,h]
theorem Blk.new (w:World) (t:TypeId) (cs:Array Value):Blk (w.alloc (.cells cs t)) w.heap.size t cs:=heap_alloc_new w _
theorem Blk.drew (h:Blk w g t cs):Blk w.drew g t cs:=h
theorem Blk.drewN (h:Blk w g t cs) (n:Nat):Blk (w.drewN n) g t cs:=h
theorem Blk.alloc (h:Blk w g t cs) (o:Obj):Blk (w.alloc o) g t cs:=(Below.heap_alloc w o g h.lt).trans h
theorem Blk.set_ (h:Blk w g t cs) (i:Nat) (u:Value):Blk (w.setCell ⟨g,i,none⟩ u) g t (cs.setIfInBounds i u):=by
 unfold Blk at h ⊢
 simp [World.setCell,Array.getElem?_modify,h]
theorem Blk.set_eq {cs':Array Value} {i:Nat} {u:Value} (h:Blk w g t cs) (e:cs.setIfInBounds i u=cs'):Blk (w.setCell ⟨g,i,none⟩ u) g t cs':=e ▸ h.set_ i u
theorem Blk.far (h:Blk w g t cs) {p:Addr} (hp:g≠p.block) (u:Value):Blk (w.setCell p u) g t cs:=(Below.heap_setCell w p u g hp).trans h
theorem Blk.below {B:Nat} (h:Blk w g t cs) (hb:Below B w w') (hg:g < B):Blk w' g t cs:=(hb.block g hg).trans h
theorem Blk.grown {row:Option Nat} (h:Blk w g t cs) (hb:w.grownBy w' row) (hg:some g≠row):Blk w' g t cs:=(hb.block g h.lt hg).trans h
theorem Blk.ne_ {g':Nat} {t':TypeId} {cs':Array Value} (h:Blk w g t cs) (h':Blk w g' t' cs') (hne:t≠t'):g≠g':=by
 rintro rfl
 unfold Blk at h h'
 rw [h] at h'
 injection h' with h'
 injection h' with _ ht
 exact hne ht
theorem Blk.facts (h:Blk w g t cs):(∀ i,w.cell? ⟨g,i,none⟩=cs[i]?)∧(∀ i,w.frozen? ⟨g,i,none⟩=false)∧g < w.heap.size∧g≤w.heap.size∧g≤w.heap.size + 1∧g≤w.heap.size + 1 + 1∧g≤w.heap.size + 1 + 1 + 1 :=
 ⟨h.cell,h.frozen,h.lt,by have:=h.lt; omega,by have:=h.lt; omega,by have:=h.lt; omega,by have:=h.lt; omega⟩
end
structure Upd (S:List Nat) (w w':World):Prop where
 os:w'.os=w.os
 tape:w'.tape=w.tape
 output:w'.output=w.output
 size:w.heap.size≤w'.heap.size
 keep:∀ k,k < w.heap.size→k ∉ S→w'.heap[k]?=w.heap[k]?
section
variable {S:List Nat} {a w w':World}
theorem Upd.refl (S:List Nat) (w:World):Upd S w w:=⟨rfl,rfl,rfl,Nat.le_refl _,fun _ _ _ => rfl⟩
theorem Upd.trans {b c:World} (h:Upd S a b) (k:Upd S b c):Upd S a c :=
 ⟨k.os.trans h.os,k.tape.trans h.tape,k.output.trans h.output,Nat.le_trans h.size k.size,fun i hi hn => (k.keep i (Nat.lt_of_lt_of_le hi h.size) hn).trans (h.keep i hi hn)⟩
theorem Upd.trans' {T:List Nat} {b c:World} (h:Upd S a b) (k:Upd T b c) (hT:∀ x ∈ T,x ∈ S∨a.heap.size≤x):Upd S a c :=
 ⟨k.os.trans h.os,k.tape.trans h.tape,k.output.trans h.output,Nat.le_trans h.size k.size,fun i hi hn =>
   (k.keep i (Nat.lt_of_lt_of_le hi h.size) (fun hm => (hT i hm).elim hn (by omega))).trans (h.keep i hi hn)⟩
theorem Upd.mono {T:List Nat} (h:Upd S w w') (hT:∀ x ∈ S,x ∈ T∨w.heap.size≤x):Upd T w w' :=
 ⟨h.os,h.tape,h.output,h.size,fun k hk hn => h.keep k hk (fun hm => (hT k hm).elim hn (by omega))⟩
theorem Upd.drew (h:Upd S a w):Upd S a w.drew:=⟨h.os,h.tape,h.output,h.size,h.keep⟩
theorem Upd.drewN (h:Upd S a w) (n:Nat):Upd S a (w.drewN n):=⟨h.os,h.tape,h.output,h.size,h.keep⟩
theorem Upd.alloc (h:Upd S a w) (o:Obj):Upd S a (w.alloc o) :=
 ⟨h.os,h.tape,h.output,Nat.le_trans h.size (by simp),fun i hi hne => (Below.heap_alloc w o i (Nat.lt_of_lt_of_le hi h.size)).trans (h.keep i hi hne)⟩
theorem Upd.setCell (h:Upd S a w) {p:Addr} (hp:p.block ∈ S∨a.heap.size≤p.block) (u:Value):Upd S a (w.setCell p u) :=
 ⟨h.os,h.tape,h.output,by simpa [World.setCell] using h.size,fun i hi hne => (Below.heap_setCell w p u i (by
   rintro rfl
   exact hp.elim hne (by omega))).trans (h.keep i hi hne)⟩
theorem Upd.grown {row:Option Nat} (h:Upd S a w) (hg:w.grownBy w' row) (hr:∀ k,row=some k→k ∈ S∨a.heap.size≤k):Upd S a w' :=
 ⟨hg.os.trans h.os,hg.tape.trans h.tape,hg.output.trans h.output,Nat.le_trans h.size hg.size,fun i hi hne =>
   (hg.block i (Nat.lt_of_lt_of_le hi h.size) (fun e => (hr i e.symm).elim hne (by omega))).trans (h.keep i hi hne)⟩
theorem Upd.of_below {B:Nat} (h:Below B w w') (hB:w.heap.size≤B):Upd S w w':=⟨h.os,h.tape,h.output,h.size,fun k hk _ => h.block k (by omega)⟩
theorem Upd.below {B:Nat} (h:Upd S w w') (hB:B≤w.heap.size) (hS:∀ x ∈ S,B≤x):Below B w w' :=
 ⟨h.os,h.tape,h.output,h.size,fun k hk => h.keep k (by omega) (fun hm => by have:=hS k hm; omega)⟩
theorem Blk.upd {g:Nat} {t:TypeId} {cs:Array Value} (h:Blk w g t cs) (hu:Upd S w w') (hg:g ∉ S):Blk w' g t cs:=(hu.keep g h.lt hg).trans h
end
def Heads (w:World) (b:Nat) (e:TypeId) (xs:List Value):Prop:=∃ cs:Array Value,Blk w b e cs∧cs.toList.take xs.length=xs
theorem Heads.cell {w:World} {b:Nat} {e:TypeId} {xs:List Value} (h:Heads w b e xs) (j:Nat) (u:Value) (hj:xs[j]?=some u):w.cell? ⟨b,j,none⟩=some u:=by
 obtain ⟨cs,hb,ht⟩:=h
 have hl:j < xs.length:=(List.getElem?_eq_some_iff.1 hj).1
 rw [hb.cell,← hj,← ht,List.getElem?_take,if_pos hl,Array.getElem?_toList]
theorem Heads.upd {S:List Nat} {w w':World} {b:Nat} {e:TypeId} {xs:List Value} (h:Heads w b e xs) (hu:Upd S w w') (hb:b ∉ S):Heads w' b e xs:=by
 obtain ⟨cs,h1,h2⟩:=h
 exact ⟨cs,h1.upd hu hb,h2⟩
theorem Heads.lt {w:World} {b:Nat} {e:TypeId} {xs:List Value} (h:Heads w b e xs):b < w.heap.size:=by
 obtain ⟨cs,h1,h2⟩:=h
 exact h1.lt
section
variable {P:Program} (w:World)
theorem run_equalIn_iface_int (d:Nat) {ti tn:TypeId} {ms:Array (String × TypeId)} {i:TypeInfo} {k:IntKind} (a b:Int)
 (hi:P.underlying ti=some (.interface ms)) (hn:P.underlying tn=some (.int k)) (hinfo:P.info? tn=some i) (hcomp:i.comparable=true) :
 (Op.equalIn (d + 2) ti (.iface tn (.int k a)) (.iface tn (.int k b))).run P w=.ok (a == b) w:=by
 simp [Op.equalIn,run_underlying hi,run_underlying hn,typeInfo,hinfo,hcomp]
theorem run_eql_iface_int {ti tn:TypeId} {ms:Array (String × TypeId)} {i:TypeInfo} {k:IntKind} (a b:Int)
 (hi:P.underlying ti=some (.interface ms)) (hn:P.underlying tn=some (.int k)) (hinfo:P.info? tn=some i) (hcomp:i.comparable=true) :
 (binOp .eql ti (.iface tn (.int k a)) (.iface tn (.int k b))).run P w=.ok (.bool (a == b)) w:=by
 simp only [binOp]
 simp [Op.equal,Op.maxDepth,run_equalIn_iface_int w 9998 a b hi hn hinfo hcomp]
end
end Go.Proofs.YtmjnmpifibemjaaGreatDoor
namespace Go.Proofs.YtmjnmpifibemjaaGreatDoor
open Go.RowKit
section
variable {w w':World} {B s n cap g:Nat} {e:TypeId} {v:Value} {xs:List Value} {S:List Nat}
theorem own_upd_of_grown {v:Value} (h:w.grownBy w' v.ownBlock):Upd v.ownBlock.toList w w' :=
 (Upd.refl _ w).grown h fun k hk => .inl (by rw [hk]; simp)
theorem own_form (h:w.ownsRow B e s v n xs) (hn:0 < n) :
 ∃ g cap cur,v=.slice (some ⟨g,0,none⟩) n cap∧B≤g∧Blk w g e cur∧n≤cap∧cap≤maxLen∧cur.size=cap * s∧cur.toList.take (n * s)=xs:=by
 obtain ⟨_,h2⟩:=h
 rcases h2 with ⟨_,h2⟩ | ⟨g,cap,cur,h1,h2,h3,h4,h5,h6,h7⟩
 ·omega
 ·exact ⟨g,cap,cur,h1,h2,h3,h4,h5,h6,h7⟩
theorem own_open (h:w.ownsRow B e s (.slice (some ⟨g,0,none⟩) n cap) n xs) :
 ∃ cur,B≤g∧Blk w g e cur∧n≤cap∧cap≤maxLen∧cur.size=cap * s∧cur.toList.take (n * s)=xs:=by
 obtain ⟨_,h2⟩:=h
 rcases h2 with ⟨h2,_⟩ | ⟨g',cap',cur,h1,h2,h3,h4,h5,h6,h7⟩
 ·cases h2
 ·injection h1 with h1 _ h1'
  injection h1 with h1
  injection h1 with h1
  subst h1 h1'
  exact ⟨cur,h2,h3,h4,h5,h6,h7⟩
theorem own_len (h:w.ownsRow B e s v n xs):xs.length=n * s:=h.1
theorem own_cell (h:w.ownsRow B e s (.slice (some ⟨g,0,none⟩) n cap) n xs) (j:Nat) (u:Value) (hj:xs[j]?=some u):w.cell? ⟨g,j,none⟩=some u:=by
 obtain ⟨cur,_,hb,_,_,_,ht⟩:=own_open h
 have hl:j < n * s:=by have:=(List.getElem?_eq_some_iff.1 hj).1; rw [h.1] at this; exact this
 rw [hb.cell,← hj,← ht,List.getElem?_take,if_pos hl,Array.getElem?_toList]
theorem own_frozen (h:w.ownsRow B e s (.slice (some ⟨g,0,none⟩) n cap) n xs) (j:Nat):w.frozen? ⟨g,j,none⟩=false:=by
 obtain ⟨cur,_,hb,_⟩:=own_open h
 exact hb.frozen j
theorem own_lt (h:w.ownsRow B e s v n xs) {b:Nat} (hb:v.ownBlock=some b):B≤b∧b < w.heap.size:=by
 obtain ⟨_,h2⟩:=h
 rcases h2 with ⟨h2,_⟩ | ⟨g',cap',cur,h1,h2,h3,h4,h5,h6,h7⟩
 ·subst h2; simp [Value.ownBlock] at hb
 ·subst h1
  simp only [Value.ownBlock,Option.some.injEq] at hb
  subst hb
  exact ⟨h2,Blk.lt h3⟩
theorem own_type (h:w.ownsRow B e s v n xs) {b:Nat} {t:TypeId} {cs:Array Value} (hb:Blk w b t cs) (hne:t≠e):v.ownBlock≠some b:=by
 intro hv
 obtain ⟨_,h2⟩:=h
 rcases h2 with ⟨h2,_⟩ | ⟨g',cap',cur,h1,h2,h3,h4,h5,h6,h7⟩
 ·subst h2; simp [Value.ownBlock] at hv
 ·subst h1
  simp only [Value.ownBlock,Option.some.injEq] at hv
  subst hv
  exact (Blk.ne_ hb h3 hne) rfl
theorem own_upd (h:w.ownsRow B e s v n xs) (hu:Upd S w w') (hne:∀ b,v.ownBlock=some b→b ∉ S):w'.ownsRow B e s v n xs:=by
 obtain ⟨h1,h2⟩:=h
 refine ⟨h1,?_⟩
 rcases h2 with h2 | ⟨g,cap,cur,rfl,h2,h3,h4,h5,h6,h7⟩
 ·exact .inl h2
 ·exact .inr ⟨g,cap,cur,rfl,h2,Blk.upd h3 hu (hne g rfl),h4,h5,h6,h7⟩
theorem own_upd0 (h:w.ownsRow B e s v n xs) (hu:Upd [] w w'):w'.ownsRow B e s v n xs:=own_upd h hu fun _ _ => by simp
theorem own_set (h:w.ownsRow B e s (.slice (some ⟨g,0,none⟩) n cap) n xs) (j:Nat) (u:Value) :
 (w.setCell ⟨g,j,none⟩ u).ownsRow B e s (.slice (some ⟨g,0,none⟩) n cap) n (xs.set j u):=by
 obtain ⟨cur,h2,h3,h4,h5,h6,h7⟩:=own_open h
 refine ⟨by rw [List.length_set,h.1],.inr ⟨g,cap,_,rfl,h2,h3.set_ j u,h4,h5,by simpa using h6,?_⟩⟩
 rw [← h7,Array.toList_setIfInBounds,List.take_set]
theorem own_take (h:w.ownsRow B e s (.slice (some ⟨g,0,none⟩) n cap) n xs) (m:Nat) (hm:m≤n) :
 w.ownsRow B e s (.slice (some ⟨g,0,none⟩) m cap) m (xs.take (m * s)):=by
 obtain ⟨cur,h2,h3,h4,h5,h6,h7⟩:=own_open h
 have hms:m * s≤n * s:=Nat.mul_le_mul_right s hm
 refine ⟨by rw [List.length_take,h.1]; omega,.inr ⟨g,cap,_,rfl,h2,h3,by omega,h5,h6,?_⟩⟩
 rw [← h7,List.take_take,Nat.min_eq_left hms]
theorem own_nil (w:World) (B:Nat) (e:TypeId) (s:Nat):w.ownsRow B e s (.slice none 0 0) 0 []:=⟨by simp,.inl ⟨rfl,rfl⟩⟩
theorem own_base {B':Nat} (h:w.ownsRow B e s v n xs) (hb:B'≤B):w.ownsRow B' e s v n xs:=by
 obtain ⟨h1,h2⟩:=h
 refine ⟨h1,?_⟩
 rcases h2 with h2 | ⟨g,cap,cur,rfl,h2,h3⟩
 ·exact .inl h2
 ·exact .inr ⟨g,cap,cur,rfl,by omega,h3⟩
theorem news_of_blk {q:Nat} {cs:Array Value} (h:Blk w q e cs):∀ j u,cs.toList[j]?=some u→w.cell? ((⟨q,0,none⟩:Addr).add j)=some u:=fun j u hu => by
 rw [add_head,h.cell,← Array.getElem?_toList]; exact hu
end
end Go.Proofs.YtmjnmpifibemjaaGreatDoor
namespace Go.Proofs.YtmjnmpifibemjaaGreatDoor
open Go.RowKit
structure Elem (P:Program) (t e:TypeId) (s bytes:Nat):Prop where
 und:P.underlying t=some (.slice e)
 info:∃ i z,P.info? e=some i∧i.zero=some z∧i.size=s∧i.bytes=bytes∧z.cells.size=s
 pos:0 < s
theorem Elem.mk' {P:Program} {t e:TypeId} {s bytes:Nat} {z:Value} (und:P.underlying t=some (.slice e)) (info:(P.info? e).map (fun i => (i.zero,i.size,i.bytes))=some (some z,s,bytes)) (hz:z.cells.size=s) (pos:0 < s):Elem P t e s bytes:=by
 obtain ⟨i,h1,h2,h3,h4⟩:=info_parts info
 exact ⟨und,⟨i,z,h1,h2,h3,h4,hz⟩,pos⟩
def Src (w:World) (s:Nat) (x:Value) (m:Nat) (news:List Value):Prop :=
 news.length=m * s∧∃ A c,x=.slice A m c∧∀ j u,news[j]?=some u→∃ ad:Addr,A=some ad∧ad.block < w.heap.size∧w.cell? (ad.add j)=some u
theorem add_more (a:Addr) (i j:Nat):a.add (i + (j + 1))=⟨(a.add i).block,(a.add i).off + (j + 1),none⟩:=by
 unfold Addr.add
 by_cases h:i=0
 ·subst h; simp
 ·simp [h]; omega
theorem block_add (a:Addr) (n:Nat):(a.add n).block=a.block:=by unfold Addr.add; split <;> rfl
section
variable {w w':World} {B s n m cap g:Nat} {e:TypeId} {v x:Value} {xs news:List Value}
theorem Src.upd {S:List Nat} (h:Src w s x m news) (hu:Upd S w w') (hS:∀ b,x.ownBlock=some b→b ∉ S):Src w' s x m news:=by
 obtain ⟨h1,A,c,rfl,h2⟩:=h
 refine ⟨h1,A,c,rfl,fun j u hj => ?_⟩
 obtain ⟨ad,rfl,hl,hc⟩:=h2 j u hj
 refine ⟨ad,rfl,Nat.lt_of_lt_of_le hl hu.size,(World.cell?_of_block ?_).trans hc⟩
 exact hu.keep _ (by rw [block_add]; exact hl) (by rw [block_add]; exact hS _ rfl)
theorem Src.upd0 (h:Src w s x m news) (hu:Upd [] w w'):Src w' s x m news:=h.upd hu (by simp)
theorem Src.of_own (h:w.ownsRow B e s v n xs):Src w s v n xs:=by
 refine ⟨h.1,?_⟩
 rcases h.2 with ⟨rfl,rfl⟩ | ⟨g,cap,cur,rfl,_,hb,_,_,_,_⟩
 ·have:xs=[]:=List.eq_nil_of_length_eq_zero (by simpa using h.1)
  subst this
  exact ⟨none,0,rfl,by simp⟩
 ·exact ⟨_,cap,rfl,fun j u hj => ⟨_,rfl,Blk.lt hb,by rw [add_head]; exact own_cell h j u hj⟩⟩
theorem Src.of_blk {q:Nat} {cs:Array Value} {t:TypeId} (h:Blk w q t cs) (c:Nat) (hl:cs.size=m * s):Src w s (.slice (some ⟨q,0,none⟩) m c) m cs.toList :=
 ⟨by simpa using hl,_,c,rfl,fun j u hj => ⟨_,rfl,h.lt,by rw [add_head,h.cell,← Array.getElem?_toList]; exact hj⟩⟩
theorem own_slice (h:w.ownsRow B e s v n xs):∃ A c,v=.slice A n c∧n≤c∧c≤maxLen:=by
 rcases h.2 with ⟨rfl,rfl⟩ | ⟨g,cap,cur,rfl,_,_,h4,h5,_⟩
 ·exact ⟨_,_,rfl,Nat.le_refl _,by simp [maxLen]⟩
 ·exact ⟨_,_,rfl,h4,h5⟩
theorem Src.take {A:Option Addr} {c:Nat} (h:Src w s (.slice A n c) n xs) (k:Nat) (hk:k≤n) (c':Nat):Src w s (.slice A k c') k (xs.take (k * s)):=by
 obtain ⟨h1,A',c2,he,h2⟩:=h
 injection he with hA _ _
 subst hA
 refine ⟨by rw [List.length_take,h1]; exact Nat.min_eq_left (Nat.mul_le_mul_right s hk),_,c',rfl,fun j u hj => ?_⟩
 rw [List.getElem?_take] at hj
 split at hj
 ·exact h2 j u hj
 ·cases hj
theorem Src.drop {A:Option Addr} {c:Nat} (h:Src w s (.slice A n c) n xs) (k:Nat) (hk:k≤n) (hc:n≤c) (c':Nat):Src w s (.slice (if c=k then A else A.map (·.add (k * s))) (n - k) c') (n - k) (xs.drop (k * s)):=by
 obtain ⟨h1,A',c2,he,h2⟩:=h
 injection he with hA _ _
 subst hA
 have hl:(xs.drop (k * s)).length=(n - k) * s:=by rw [List.length_drop,h1,Nat.sub_mul]
 refine ⟨hl,_,c',rfl,fun j u hj => ?_⟩
 have hj':=(List.getElem?_eq_some_iff.1 hj).1
 have hck:c≠k:=by
  intro e
  have:n=k:=by omega
  subst this
  rw [hl] at hj'
  simp at hj'
 rw [if_neg hck]
 rw [List.getElem?_drop] at hj
 obtain ⟨ad,rfl,hb,hcell⟩:=h2 _ u hj
 exact ⟨_,rfl,by rw [block_add]; exact hb,by show w.cell? ((ad.add (k * s)).add j)=some u; rw [Go.Deep.add_add]; exact hcell⟩
end
section
variable {P:Program} (w:World) {B s n m c bytes:Nat} {t e:TypeId} {v x:Value} {xs news:List Value}
theorem run_app (ET:Elem P t e s bytes) (ty:TypeId) (hown:w.ownsRow B e s v n xs) (hs:Src w s x m news) (h1:∀ u ∈ news,u.oneCell'=true) (h63:n + m≤maxLen) (hby:(n + m) * bytes≤140737488355328) (hB:B≤w.heap.size) :
 ∃ v' w',(Builtin.append_ #[t,t] ty #[v,x]).run P w=.ok v' w'∧w'.ownsRow B e s v' (n + m) (xs ++ news)∧Upd v.ownBlock.toList w w'∧(v'.ownBlock=v.ownBlock∨v'.ownBlock=some w.heap.size):=by
 obtain ⟨i,z,hi,hz,hz1,hz2,hzs⟩:=ET.info
 obtain ⟨hl,A,cx,rfl,hc⟩:=hs
 rcases A with _ | ad
 ·have hn:news=[]:=by
   cases news with
   | nil => rfl
   | cons u r => obtain ⟨ad,h,_⟩:=hc 0 u rfl; cases h
  subst hn
  have hm:m=0:=by
   have hp:=ET.pos
   rcases Nat.eq_zero_or_pos m with h | h
   ·exact h
   ·have:=Nat.mul_pos h hp
    simp at hl
    omega
  subst hm
  refine ⟨v,w,?_,by simpa using hown,.refl _ _,.inl rfl⟩
  rcases hown.2 with ⟨rfl,rfl⟩ | ⟨g,cap,cur,rfl,_,_,hnc,_⟩
  ·simp [Builtin.append_,run_underlying ET.und,sizeOf,typeInfo,hi,Builtin.lenOf,Builtin.firstCells]
  ·simp [Builtin.append_,run_underlying ET.und,sizeOf,typeInfo,hi,Builtin.lenOf,Builtin.firstCells,hnc,storeCells]
 ·have hcells:∀ j u,news[j]?=some u→w.cell? (ad.add j)=some u:=fun j u hj => by
   obtain ⟨ad',h,_,h2⟩:=hc j u hj
   cases h
   exact h2
  obtain ⟨v',w',hr,h2,h3,_,h5⟩:=run_append_own_at (P:=P) w B t ty e i z s bytes ET.und hi hz hz1 hz2 hzs ET.pos v n xs hown ad m cx news hl hcells h1 h63 hby hB
  exact ⟨v',w',hr,h2,own_upd_of_grown h3,h5⟩
theorem wp_app {o:Oper} {a:Act} {K:Act→World→Prop} {Q:Exit→Act→World→Prop} (s' x':Operand) (t:TypeId) (ho:o.op=.call { callee:=.builtin .append,args:=#[s',x'],argTypes:=#[t,t] })
 (ET:Elem P t e s bytes) (v x:Value) (hs:a.eval s'=v) (hx:a.eval x'=x) (hown:w.ownsRow B e s v n xs) (hsrc:Src w s x m news) (h1:∀ u ∈ news,u.oneCell'=true) (h63:n + m≤maxLen) (hby:(n + m) * bytes≤140737488355328) (hB:B≤w.heap.size)
 (h:∀ v' w',w'.ownsRow B e s v' (n + m) (xs ++ news)→Upd v.ownBlock.toList w w'→(v'.ownBlock=v.ownBlock∨v'.ownBlock=some w.heap.size)→K (a.put o.dst v') w'):o.wp P a w K Q:=by
 obtain ⟨v',w',hr,h2,h3,h4⟩:=run_app (P:=P) w ET o.type hown hsrc h1 h63 hby hB
 unfold Oper.wp execOp
 simp only [ho,resolve,invoke,builtin,Sem.run_bind,Sem.run_pure,Result.andThen_ok,List.map_toArray,List.map_cons,List.map_nil,hs,hx,hr]
 exact h v' w' h2 h3 h4
theorem wpList_app {ops:Array Oper} {rest:List Oper} {o:Oper} {a:Act} {Q:Exit→Act→World→Prop} (hgd:o.guard=none) (s' x':Operand) (t:TypeId) (ho:o.op=.call { callee:=.builtin .append,args:=#[s',x'],argTypes:=#[t,t] })
 (ET:Elem P t e s bytes) (v x:Value) (hs:a.eval s'=v) (hx:a.eval x'=x) (hown:w.ownsRow B e s v n xs) (hsrc:Src w s x m news) (h1:∀ u ∈ news,u.oneCell'=true) (h63:n + m≤maxLen) (hby:(n + m) * bytes≤140737488355328) (hB:B≤w.heap.size)
 (h:∀ v' w',w'.ownsRow B e s v' (n + m) (xs ++ news)→Upd v.ownBlock.toList w w'→(v'.ownBlock=v.ownBlock∨v'.ownBlock=some w.heap.size)→wpList P ops Q rest (a.put o.dst v') w'):wpList P ops Q (o :: rest) a w :=
 wpList_plain hgd fun _ hK => wp_app w s' x' t ho ET v x hs hx hown hsrc h1 h63 hby hB fun v' w' h2 h3 h4 => hK _ _ (h v' w' h2 h3 h4)
theorem step_app {ops:Array Oper} {o:Oper} {a:Act} {K:Act→World→Prop} {Q:Exit→Act→World→Prop} {E:Prop} (hgd:o.guard=none) (s' x':Operand) (t:TypeId) (ho:o.op=.call { callee:=.builtin .append,args:=#[s',x'],argTypes:=#[t,t] })
 (ET:Elem P t e s bytes) (v x:Value) (hs:a.eval s'=v) (hx:a.eval x'=x) (hown:w.ownsRow B e s v n xs) (hsrc:Src w s x m news) (h1:∀ u ∈ news,u.oneCell'=true) (h63:n + m≤maxLen) (hby:(n + m) * bytes≤140737488355328) (hB:B≤w.heap.size)
 (h:∀ v' w',w'.ownsRow B e s v' (n + m) (xs ++ news)→Upd v.ownBlock.toList w w'→(v'.ownBlock=v.ownBlock∨v'.ownBlock=some w.heap.size)→K (a.put o.dst v') w') :
 if Region.wanted o (yielded ops a.tmps)=true then Oper.wp P o a w K Q else E:=by
 rw [if_pos (by simp [Region.wanted,hgd])]
 exact wp_app w s' x' t ho ET v x hs hx hown hsrc h1 h63 hby hB h
end
section
variable {P:Program} {s n c k bytes:Nat} {t e:TypeId} {A:Option Addr}
theorem own_made {W:World} {H B:Nat} (s:Nat) (h:Blk W H e #[]) (hB:B≤H):W.ownsRow B e s (.slice (some ⟨H,0,none⟩) 0 0) 0 [] :=
 ⟨by simp,.inr ⟨H,0,#[],rfl,hB,h,Nat.le_refl _,by simp [maxLen],by simp,by simp⟩⟩
end
end Go.Proofs.YtmjnmpifibemjaaGreatDoor
namespace Go.Proofs.YtmjnmpifibemjaaGreatDoor
open Go.RowKit
inductive Stm where
 | mk (kind coll reg ar an br bn:Int) (body els:List Stm)
deriving Inhabited
def stmCells (kind coll reg ar an br bn:Int) (vb ve:Value):List Value:=[.int .i64 kind,.int .i64 coll,.int .i64 reg,.int .i64 ar,.int .i64 an,.int .i64 br,.int .i64 bn,vb,ve]
inductive Stms (w:World) (B:Nat):Value→List Stm→Prop
 | mk (A:Option Addr) (n c:Nat) (l:List Stm) (vb ve:Nat→Value) (hn:l.length=n) (hc:n≤c) (hm:c≤9223372036854775807)
    (hcell:∀ k kind coll reg ar an br bn body els,l[k]?=some (.mk kind coll reg ar an br bn body els) →
      ∃ ad:Addr,A=some ad∧ad.block < B∧∀ j u,(stmCells kind coll reg ar an br bn (vb k) (ve k))[j]?=some u→w.cell? (ad.add (k * 9 + j))=some u)
    (hb:∀ k kind coll reg ar an br bn body els,l[k]?=some (.mk kind coll reg ar an br bn body els)→Stms w B (vb k) body)
    (he:∀ k kind coll reg ar an br bn body els,l[k]?=some (.mk kind coll reg ar an br bn body els)→Stms w B (ve k) els):Stms w B (.slice A n c) l
theorem Stms.keep {w w':World} {B:Nat} {v:Value} {l:List Stm} (h:Stms w B v l) (hk:∀ p:Addr,p.block < B→w'.cell? p=w.cell? p):Stms w' B v l:=by
 induction h with
 | mk A n c l vb ve hn hc hm hcell hb he ihb ihe =>
   refine .mk A n c l vb ve hn hc hm (fun k a1 a2 a3 a4 a5 a6 a7 a8 a9 h => ?_) (fun k a1 a2 a3 a4 a5 a6 a7 a8 a9 h => ihb k a1 a2 a3 a4 a5 a6 a7 a8 a9 h) (fun k a1 a2 a3 a4 a5 a6 a7 a8 a9 h => ihe k a1 a2 a3 a4 a5 a6 a7 a8 a9 h)
   obtain ⟨ad,e,hl,hcc⟩:=hcell k a1 a2 a3 a4 a5 a6 a7 a8 a9 h
   exact ⟨ad,e,hl,fun j u hu => (hk _ (by rw [block_add]; exact hl)).trans (hcc j u hu)⟩
theorem Stms.more {w:World} {B B':Nat} {v:Value} {l:List Stm} (h:Stms w B v l) (hB:B≤B'):Stms w B' v l:=by
 induction h with
 | mk A n c l vb ve hn hc hm hcell hb he ihb ihe =>
   refine .mk A n c l vb ve hn hc hm (fun k a1 a2 a3 a4 a5 a6 a7 a8 a9 h => ?_) (fun k a1 a2 a3 a4 a5 a6 a7 a8 a9 h => ihb k a1 a2 a3 a4 a5 a6 a7 a8 a9 h) (fun k a1 a2 a3 a4 a5 a6 a7 a8 a9 h => ihe k a1 a2 a3 a4 a5 a6 a7 a8 a9 h)
   obtain ⟨ad,e,hl,hcc⟩:=hcell k a1 a2 a3 a4 a5 a6 a7 a8 a9 h
   exact ⟨ad,e,by omega,hcc⟩
theorem Stms.slice {w:World} {B:Nat} {v:Value} {l:List Stm} (h:Stms w B v l):∃ A n c,v=.slice A n c:=by
 cases h with
 | mk A n c => exact ⟨A,n,c,rfl⟩
theorem Stms.belowW {w w':World} {B:Nat} {v:Value} {l:List Stm} (h:Stms w B v l) (hb:Below B w w'):Stms w' B v l:=h.keep fun p hp => hb.cell hp
def Stm.size:Stm→Nat
 | .mk _ _ _ _ _ _ _ body els => 1 + sizes body + sizes els
where sizes:List Stm→Nat
 | [] => 0
 | s :: l => s.size + sizes l
def Stm.body:Stm→List Stm
 | .mk _ _ _ _ _ _ _ b _ => b
def Stm.els:Stm→List Stm
 | .mk _ _ _ _ _ _ _ _ e => e
def StmV (w:World) (B:Nat):Stm→Value→Prop
 | .mk kind coll reg ar an br bn body els,v => ∃ vb ve,v=.agg (stmCells kind coll reg ar an br bn vb ve).toArray∧Stms w B vb body∧Stms w B ve els
def Stm.lines (deep:Nat):Stm→List (Stm × Nat)
 | .mk kind coll reg ar an br bn body els => (.mk kind coll reg ar an br bn body els,deep) :: (lines_ (deep + 1) body ++ lines_ (deep + 1) els)
where lines_ (deep:Nat):List Stm→List (Stm × Nat)
 | [] => []
 | s :: l => s.lines deep ++ lines_ deep l
abbrev sizes:=Stm.size.sizes
abbrev linesOf:=Stm.lines.lines_
theorem sizes_nil:sizes []=0:=rfl
theorem sizes_cons (s:Stm) (l:List Stm):sizes (s :: l)=s.size + sizes l:=rfl
theorem size_mk (a1 a2 a3 a4 a5 a6 a7:Int) (b e:List Stm):(Stm.mk a1 a2 a3 a4 a5 a6 a7 b e).size=1 + sizes b + sizes e:=by simp [Stm.size,sizes]
theorem lines_nil (d:Nat):linesOf d []=[]:=rfl
theorem lines_cons (d:Nat) (s:Stm) (l:List Stm):linesOf d (s :: l)=s.lines d ++ linesOf d l:=rfl
theorem line_mk (d:Nat) (a1 a2 a3 a4 a5 a6 a7:Int) (b e:List Stm):(Stm.mk a1 a2 a3 a4 a5 a6 a7 b e).lines d=(.mk a1 a2 a3 a4 a5 a6 a7 b e,d) :: (linesOf (d + 1) b ++ linesOf (d + 1) e):=by simp [Stm.lines,linesOf]
theorem sizes_append (l m:List Stm):sizes (l ++ m)=sizes l + sizes m:=by
 induction l with
 | nil => simp [sizes_nil]
 | cons s l ih => rw [List.cons_append,sizes_cons,sizes_cons,ih]; omega
theorem lines_append (d:Nat) (l m:List Stm):linesOf d (l ++ m)=linesOf d l ++ linesOf d m:=by
 induction l with
 | nil => rfl
 | cons s l ih => rw [List.cons_append,lines_cons,lines_cons,ih,List.append_assoc]
theorem sizes_get {l:List Stm} {k:Nat} {s:Stm} (h:l[k]?=some s):s.size≤sizes l:=by
 induction l generalizing k with
 | nil => simp at h
 | cons a l ih =>
   rw [sizes_cons]
   cases k with
   | zero => simp at h; subst h; omega
   | succ k => have:=ih (by simpa using h); omega
theorem lines_take {l:List Stm} {k:Nat} {s:Stm} (d:Nat) (h:l[k]?=some s):linesOf d (l.take (k + 1))=linesOf d (l.take k) ++ s.lines d:=by
 have:l.take (k + 1)=l.take k ++ [s]:=by
  rw [List.take_add_one,h]; rfl
 rw [this,lines_append,lines_cons,lines_nil,List.append_nil]
theorem sizes_take {l:List Stm} {k:Nat} {s:Stm} (h:l[k]?=some s):sizes (l.take (k + 1))=sizes (l.take k) + s.size:=by
 have:l.take (k + 1)=l.take k ++ [s]:=by
  rw [List.take_add_one,h]; rfl
 rw [this,sizes_append,sizes_cons,sizes_nil]
 omega
theorem sizes_take_le (l:List Stm) (k:Nat):sizes (l.take k)≤sizes l:=by
 conv => rhs; rw [← List.take_append_drop k l,sizes_append]
 omega
end Go.Proofs.YtmjnmpifibemjaaGreatDoor
namespace Go.Proofs.YtmjnmpifibemjaaGreatDoor.Assoc
abbrev AL:=List (Int × Int)
def Srt (l:AL):Prop:=l.Pairwise (fun a b => a.1 < b.1)
def get (l:AL) (k:Int):Option Int:=(l.find? (fun p => p.1 == k)).map (·.2)
def has (l:AL) (k:Int):Bool:=l.any (fun p => p.1 == k)
def put:AL→Int→Int→AL
 | [],k,v => [(k,v)]
 | p :: l,k,v => if k < p.1 then (k,v) :: p :: l else if p.1=k then (k,v) :: l else p :: put l k v
def del (l:AL) (k:Int):AL:=l.filter (fun p => !(p.1 == k))
theorem Srt.nil:Srt []:=List.Pairwise.nil
theorem Srt.tail {p:Int × Int} {l:AL} (h:Srt (p :: l)):Srt l:=(List.pairwise_cons.1 h).2
theorem Srt.head {p:Int × Int} {l:AL} (h:Srt (p :: l)):∀ x ∈ l,p.1 < x.1:=(List.pairwise_cons.1 h).1
theorem get_nil (k:Int):get [] k=none:=rfl
theorem get_cons (p:Int × Int) (l:AL) (k:Int):get (p :: l) k=if p.1=k then some p.2 else get l k:=by
 unfold get
 rw [List.find?_cons]
 by_cases h:p.1=k
 ·simp [h]
 ·have:(p.1 == k)=false:=by simpa using h
  rw [this,if_neg h]
theorem get_none {l:AL} {k:Int}:get l k=none↔∀ p ∈ l,p.1≠k:=by
 induction l with
 | nil => simp [get_nil]
 | cons p l ih =>
   rw [get_cons]
   by_cases h:p.1=k
   ·simp [h]
   ·rw [if_neg h,ih]
    simp [h]
theorem get_low {l:AL} {k:Int} (h:∀ x ∈ l,k < x.1):get l k=none:=get_none.2 fun p hp => by have:=h p hp; omega
theorem get_mem {l:AL} (h:Srt l) {p:Int × Int} (hp:p ∈ l):get l p.1=some p.2:=by
 induction l with
 | nil => cases hp
 | cons a l ih =>
   rw [get_cons]
   rcases List.mem_cons.1 hp with rfl | hp
   ·simp
   ·rw [if_neg (by have:=h.head p hp; omega)]
    exact ih h.tail hp
theorem mem_put {l:AL} {k v:Int} {x:Int × Int} (h:x ∈ put l k v):x=(k,v)∨x ∈ l:=by
 induction l with
 | nil => simp [put] at h; exact .inl h
 | cons p l ih =>
   unfold put at h
   split at h
   ·rcases List.mem_cons.1 h with h | h
    ·exact .inl h
    ·exact .inr h
   ·split at h
    ·rcases List.mem_cons.1 h with h | h
     ·exact .inl h
     ·exact .inr (List.mem_cons_of_mem _ h)
    ·rcases List.mem_cons.1 h with h | h
     ·exact .inr (by simp [h])
     ·rcases ih h with h | h
      ·exact .inl h
      ·exact .inr (List.mem_cons_of_mem _ h)
theorem srt_put {l:AL} (h:Srt l) (k v:Int):Srt (put l k v):=by
 induction l with
 | nil => exact List.pairwise_singleton ..
 | cons p l ih =>
   unfold put
   split
   ·rename_i hk
    refine List.pairwise_cons.2 ⟨fun x hx => ?_,h⟩
    rcases List.mem_cons.1 hx with rfl | hx
    ·exact hk
    ·have:=h.head x hx; show k < x.1; omega
   ·split
    ·rename_i hk
     refine List.pairwise_cons.2 ⟨fun x hx => ?_,h.tail⟩
     have:=h.head x hx; show k < x.1; omega
    ·rename_i h1 h2
     refine List.pairwise_cons.2 ⟨fun x hx => ?_,ih h.tail⟩
     rcases mem_put hx with rfl | hx
     ·show p.1 < k; omega
     ·exact h.head x hx
theorem get_put {l:AL} (h:Srt l) (k v x:Int):get (put l k v) x=if x=k then some v else get l x:=by
 induction l with
 | nil =>
   unfold put
   rw [get_cons]
   by_cases e:x=k
   ·simp [e]
   ·rw [if_neg e,if_neg (fun e' => e e'.symm)]
 | cons p l ih =>
   unfold put
   split
   ·rename_i hk
    rw [get_cons]
    by_cases e:x=k
    ·simp [e]
    ·rw [if_neg e,if_neg (fun e' => e e'.symm)]
   ·split
    ·rename_i hk
     rw [get_cons,get_cons]
     by_cases e:x=k
     ·simp [e]
     ·rw [if_neg e,if_neg (fun e' => e e'.symm),if_neg (by omega)]
    ·rename_i h1 h2
     rw [get_cons,get_cons,ih h.tail]
     by_cases e:p.1=x
     ·rw [if_pos e,if_pos e,if_neg (by omega)]
     ·rw [if_neg e,if_neg e]
theorem len_put {l:AL} (h:Srt l) (k v:Int):(put l k v).length=if (get l k).isSome then l.length else l.length + 1:=by
 induction l with
 | nil => rfl
 | cons p l ih =>
   unfold put
   split
   ·rename_i hk
    rw [get_low (l:=p :: l) (fun x hx => by
     rcases List.mem_cons.1 hx with rfl | hx
     ·exact hk
     ·have:=h.head x hx; omega)]
    rfl
   ·split
    ·rename_i hk
     rw [get_cons,if_pos hk]
     rfl
    ·rename_i h1 h2
     rw [get_cons,if_neg h2,List.length_cons,ih h.tail]
     split <;> rfl
theorem srt_del {l:AL} (h:Srt l) (k:Int):Srt (del l k):=h.sublist List.filter_sublist
theorem get_del {l:AL} (k x:Int):get (del l k) x=if x=k then none else get l x:=by
 induction l with
 | nil => unfold del; simp [get_nil]
 | cons p l ih =>
   unfold del at ih ⊢
   rw [List.filter_cons]
   by_cases e:p.1=k
   ·simp only [e,beq_self_eq_true,Bool.not_true,Bool.false_eq_true,if_false]
    rw [ih,get_cons]
    by_cases e2:x=k
    ·simp [e2]
    ·rw [if_neg e2,if_neg e2,if_neg (by omega)]
   ·have:(p.1 == k)=false:=by simpa using e
    simp only [this,Bool.not_false,if_true]
    rw [get_cons,ih,get_cons]
    by_cases e2:p.1=x
    ·rw [if_pos e2,if_pos e2,if_neg (by omega)]
    ·rw [if_neg e2,if_neg e2]
theorem del_none {l:AL} {k:Int} (h:get l k=none):del l k=l:=by
 unfold del
 rw [List.filter_eq_self]
 intro p hp
 simpa using get_none.1 h p hp
theorem len_del {l:AL} (h:Srt l) (k:Int):(del l k).length=if (get l k).isSome then l.length - 1 else l.length:=by
 induction l with
 | nil => rfl
 | cons p l ih =>
   rw [get_cons]
   unfold del at ih ⊢
   rw [List.filter_cons]
   by_cases e:p.1=k
   ·have hn:get l k=none:=get_low fun x hx => by have:=h.head x hx; omega
    simp only [e,beq_self_eq_true,Bool.not_true,Bool.false_eq_true,if_false,if_true]
    have:=del_none hn
    unfold del at this
    rw [this]
    simp
   ·have:(p.1 == k)=false:=by simpa using e
    simp only [this,Bool.not_false,if_true,if_neg e,List.length_cons]
    rw [ih h.tail]
    cases hg:get l k with
    | none => simp
    | some v =>
      have:0 < l.length:=by
       cases l with
       | nil => cases hg
       | cons _ _ => simp
      simp
      omega
theorem ext {l m:AL} (hl:Srt l) (hm:Srt m) (h:∀ k,get l k=get m k):l=m:=by
 induction l generalizing m with
 | nil =>
   cases m with
   | nil => rfl
   | cons p m =>
     have:=h p.1
     rw [get_cons,if_pos rfl] at this
     cases this
 | cons a l ih =>
   cases m with
   | nil =>
     have:=h a.1
     rw [get_cons,if_pos rfl] at this
     cases this
   | cons b m =>
     have e:a.1=b.1:=by
      rcases Int.lt_trichotomy a.1 b.1 with c | c | c
      ·have:=h a.1
       rw [get_cons,if_pos rfl,get_low (l:=b :: m) (fun x hx => by
        rcases List.mem_cons.1 hx with rfl | hx
        ·exact c
        ·have:=hm.head x hx; omega)] at this
       cases this
      ·exact c
      ·have:=h b.1
       rw [get_cons b,if_pos rfl,get_low (l:=a :: l) (fun x hx => by
        rcases List.mem_cons.1 hx with rfl | hx
        ·exact c
        ·have:=hl.head x hx; omega)] at this
       cases this
     have e2:a.2=b.2:=by
      have:=h a.1
      rw [get_cons,if_pos rfl,get_cons,if_pos e.symm] at this
      injection this
     have e3:a=b:=by cases a; cases b; simp_all
     subst e3
     rw [ih hl.tail hm.tail]
     intro k
     have hk:=h k
     rw [get_cons,get_cons] at hk
     by_cases c:a.1=k
     ·rw [get_low (l:=l) (fun x hx => by have:=hl.head x hx; omega),get_low (l:=m) (fun x hx => by have:=hm.head x hx; omega)]
     ·rwa [if_neg c,if_neg c] at hk
def over (k v:Int):AL→Bool→AL
 | [],done => if done then [] else [(k,v)]
 | p :: l,done => (if k≤p.1∧done=false then [(k,v)] else []) ++ ((if p.1=k then [] else [p]) ++ over k v l (done || decide (k≤p.1)))
theorem over_done {l:AL} {k v:Int}:over k v l true=del l k:=by
 induction l with
 | nil => rfl
 | cons p l ih =>
   unfold over del
   rw [List.filter_cons]
   simp only [Bool.true_eq_false,and_false,if_false,Bool.true_or,List.nil_append]
   rw [ih]
   by_cases e:p.1=k
   ·simp [e,del]
   ·have:(p.1 == k)=false:=by simpa using e
    simp [e,this,del]
theorem over_put {l:AL} (h:Srt l) (k v:Int):over k v l false=put l k v:=by
 induction l with
 | nil => rfl
 | cons p l ih =>
   unfold over put
   by_cases e:k < p.1
   ·rw [if_pos ⟨by omega,rfl⟩,if_neg (by omega),if_pos e,decide_eq_true (by omega:k≤p.1),Bool.or_true,over_done,del_none (get_low fun x hx => by have:=h.head x hx; omega)]
    rfl
   ·rw [if_neg e]
    by_cases e2:p.1=k
    ·rw [if_pos ⟨by omega,rfl⟩,if_pos e2,if_pos e2,decide_eq_true (by omega:k≤p.1),Bool.or_true,over_done,del_none (get_low fun x hx => by have:=h.head x hx; omega)]
     rfl
    ·rw [if_neg (fun c => by omega),if_neg e2,if_neg e2,decide_eq_false (by omega:¬ k≤p.1)]
     show [] ++ ([p] ++ over k v l false)=_
     rw [ih h.tail]
     rfl
end Go.Proofs.YtmjnmpifibemjaaGreatDoor.Assoc
namespace Go.Proofs.YtmjnmpifibemjaaGreatDoor.MP
open Assoc
structure MS where
 K:List Int
 L:List AL
def kB (k:Int):Prop:=-9223372036854775808≤k∧k≤9223372036854775807
structure Good (s:MS):Prop where
 kl:s.K.length=s.L.length
 srt:∀ l ∈ s.L,Srt l
 len:∀ l ∈ s.L,l.length≤100
 k8:s.K.length≤8
 kb:∀ l ∈ s.L,∀ p ∈ l,kB p.1
def isC (s:MS) (c:Int):Bool:=decide (0≤c∧c < s.L.length)
def coll (s:MS) (i:Nat):AL:=s.L.getD i []
def setC (s:MS) (i:Nat) (l:AL):MS:={ s with L:=s.L.set i l }
def putE (l:AL) (k:Int):Int:=if (get l k).isSome=false∧100≤l.length then 8 else 0
def putV (s:MS) (i:Nat) (v:Int):Int:=if s.K.getD i 0=2 then 1 else v
def mPut (s:MS) (i:Nat) (k v:Int):MS:=if putE (coll s i) k=0 then setC s i (put (coll s i) k (putV s i v)) else s
def mDel (s:MS) (i:Nat) (k:Int):MS:=setC s i (del (coll s i) k)
def ceilL (l:AL) (k:Int):Option Int:=(l.find? (fun p => decide (k≤p.1))).map (·.1)
def rangeL (l:AL) (a b:Int):Nat:=(l.filter (fun p => decide (a≤p.1) && decide (p.1≤b))).length
theorem coll_get {s:MS} {i:Nat} (h:i < s.L.length):s.L[i]?=some (coll s i):=by
 unfold coll
 rw [List.getD_eq_getElem?_getD,List.getElem?_eq_getElem h]
 rfl
theorem coll_mem {s:MS} {i:Nat} (h:i < s.L.length):coll s i ∈ s.L:=List.mem_of_getElem? (coll_get h)
theorem isC_form {s:MS} {c:Int} (h:isC s c=true):∃ i:Nat,c=i∧i < s.L.length:=by
 unfold isC at h
 rw [decide_eq_true_iff] at h
 exact ⟨c.toNat,by omega,by omega⟩
theorem isC_nat {s:MS} {i:Nat} (h:i < s.L.length):isC s i=true:=by
 unfold isC
 rw [decide_eq_true_iff]
 omega
theorem good_set {s:MS} (h:Good s) (i:Nat) {l:AL} (h1:Srt l) (h2:l.length≤100) (h3:∀ p ∈ l,kB p.1):Good (setC s i l):=by
 refine ⟨by simp [setC,h.kl],fun x hx => ?_,fun x hx => ?_,h.k8,fun x hx => ?_⟩
 ·rcases List.mem_or_eq_of_mem_set hx with hx | rfl
  ·exact h.srt x hx
  ·exact h1
 ·rcases List.mem_or_eq_of_mem_set hx with hx | rfl
  ·exact h.len x hx
  ·exact h2
 ·rcases List.mem_or_eq_of_mem_set hx with hx | rfl
  ·exact h.kb x hx
  ·exact h3
theorem put_len100 {l:AL} (h:Srt l) (hl:l.length≤100) {k:Int} (v:Int) (he:putE l k=0):(put l k v).length≤100:=by
 rw [len_put h]
 unfold putE at he
 split at he
 ·cases he
 ·rename_i hc
  cases hg:(get l k).isSome with
  | true => simpa using hl
  | false =>
    rw [hg] at hc
    simp at hc ⊢
    omega
theorem good_put {s:MS} (h:Good s) {i:Nat} (hi:i < s.L.length) (k v:Int) (hk:kB k):Good (mPut s i k v):=by
 unfold mPut
 split
 ·rename_i he
  exact good_set h i (srt_put (h.srt _ (coll_mem hi)) _ _) (put_len100 (h.srt _ (coll_mem hi)) (h.len _ (coll_mem hi)) _ he) (fun p hp => by
   rcases mem_put hp with rfl | hp
   ·exact hk
   ·exact h.kb _ (coll_mem hi) p hp)
 ·exact h
theorem good_del {s:MS} (h:Good s) {i:Nat} (hi:i < s.L.length) (k:Int):Good (mDel s i k) :=
 good_set h i (srt_del (h.srt _ (coll_mem hi)) _) (by rw [len_del (h.srt _ (coll_mem hi))]; have:=h.len _ (coll_mem hi); split <;> omega) (fun p hp => h.kb _ (coll_mem hi) p ((List.mem_filter.1 hp).1))
end Go.Proofs.YtmjnmpifibemjaaGreatDoor.MP
namespace Go.Proofs.YtmjnmpifibemjaaGreatDoor.Ev
open Assoc MP
structure RS where
 s:MS
 regs:List Int
 told:List Int
 steps:Nat
def modI (n m:Int):Int:=(n.tmod m + m).tmod m
def argV (r:RS) (a n:Int):Int:=if a=0 then n else IntKind.i64.wrap (r.regs.getD a.toNat 0 + n)
def keyV (r:RS) (a n:Int):Int:=modI (argV r a n) 64
def valV (r:RS) (a n:Int):Int:=modI (argV r a n) 1000
def tell (r:RS) (reg v:Int):RS:={ r with regs:=r.regs.set reg.toNat v,told:=r.told ++ [v] }
def flatP (l:AL):List Int:=l.flatMap fun p => [p.1,p.2]
def askR (k c reg ar an br bn:Int) (r:RS):RS × Int :=
 if k=1 then (tell r reg ((get (coll r.s c.toNat) (keyV r ar an)).getD (-1)),0)
 else if k=4 then (tell r reg (if (get (coll r.s c.toNat) (keyV r ar an)).isSome then 1 else 0),0)
 else if k=2 then (if putE (coll r.s c.toNat) (keyV r ar an)=0 then ({ r with s:=mPut r.s c.toNat (keyV r ar an) (valV r br bn) },0) else (r,5))
 else if k=3 then ({ r with s:=mDel r.s c.toNat (keyV r ar an) },0)
 else if k=5 then (tell r reg (coll r.s c.toNat).length,0)
 else if k=6 then (tell r reg ((ceilL (coll r.s c.toNat) (keyV r ar an)).getD (-1)),0)
 else if k=7 then (tell r reg (rangeL (coll r.s c.toNat) (keyV r ar an) (keyV r br bn)),0)
 else ({ r with told:=r.told ++ ((coll r.s c.toNat).length:Int) :: flatP (coll r.s c.toNat) },0)
def iterR (f:RS→RS × Int):Nat→RS→RS × Int
 | 0,r => (r,0)
 | n + 1,r => if (f r).2=0 then iterR f n (f r).1 else f r
def ev:Stm→RS→RS × Int
 | .mk k c reg ar an br bn b e => fun r =>
   if k=9 then ({ r with regs:=r.regs.set reg.toNat (valV r ar an) },0)
   else if k=10 then ({ r with regs:=r.regs.set reg.toNat (modI (IntKind.i64.wrap (argV r ar an + argV r br bn)) 1000) },0)
   else if k=11 then (if valV r ar an < valV r br bn then evL b r else evL e r)
   else if k=12 then iterR (evL b) an.toNat r
   else if k=13 then (if (evL b r).2=2 then ({ (evL b r).1 with s:=r.s },0) else evL b r)
   else if k=14 then (if (evL b r).2=3 then evL e { r with steps:=(evL b r).1.steps } else evL b r)
   else if k=15 then (r,3)
   else if k=16 then (r,2)
   else askR k c reg ar an br bn r
where evL:List Stm→RS→RS × Int
 | [] => fun r => (r,0)
 | x :: l => fun r => if 1000≤r.steps then (r,4) else if (ev x { r with steps:=r.steps + 1 }).2=0 then evL l (ev x { r with steps:=r.steps + 1 }).1 else ev x { r with steps:=r.steps + 1 }
abbrev evL:=ev.evL
theorem evL_nil (r:RS):evL [] r=(r,0):=by unfold evL ev.evL; rfl
theorem evL_cons (x:Stm) (l:List Stm) (r:RS):evL (x :: l) r=if 1000≤r.steps then (r,4) else if (ev x { r with steps:=r.steps + 1 }).2=0 then evL l (ev x { r with steps:=r.steps + 1 }).1 else ev x { r with steps:=r.steps + 1 }:=by
 conv => lhs; unfold evL ev.evL
theorem ev_mk (k c reg ar an br bn:Int) (b e:List Stm) (r:RS):ev (.mk k c reg ar an br bn b e) r=if k=9 then ({ r with regs:=r.regs.set reg.toNat (valV r ar an) },0)
 else if k=10 then ({ r with regs:=r.regs.set reg.toNat (modI (IntKind.i64.wrap (argV r ar an + argV r br bn)) 1000) },0)
 else if k=11 then (if valV r ar an < valV r br bn then evL b r else evL e r)
 else if k=12 then iterR (evL b) an.toNat r
 else if k=13 then (if (evL b r).2=2 then ({ (evL b r).1 with s:=r.s },0) else evL b r)
 else if k=14 then (if (evL b r).2=3 then evL e { r with steps:=(evL b r).1.steps } else evL b r)
 else if k=15 then (r,3)
 else if k=16 then (r,2)
 else askR k c reg ar an br bn r:=by
 conv => lhs; unfold ev
def up (r:RS) (d:Nat):RS:={ r with steps:=r.steps + d }
end Go.Proofs.YtmjnmpifibemjaaGreatDoor.Ev

/-
 The rule for drawn regions, as walks use it.
-/
import Derived.Test.YtmjnmpifibemjaaGreatDoorJtB3
import Derived.Test.YtmjnmpifibemjaaGreatDoorJtB0
import Derived.Test.YtmjnmpifibemjaaGreatDoorJtB1
import Derived.Test.YtmjnmpifibemjaaGreatDoorJtB2
import Derived.Test.YtmjnmpifibemjaaGreatDoorProg
import Derived.ProofKit
import Derived.Carry
import Derived.OpenShut
import Derived.Deep.Slices
import Derived.Deep.Fields
import Derived.Deep.RegionHeld3
import Derived.Deep.DrawnRows
import Derived.Deep.QuietTactic
import Derived.BigQuiet
set_option linter.unusedVariables false
set_option linter.unusedSimpArgs false
set_option maxRecDepth 100000
set_option maxHeartbeats 16000000
namespace Go.Proofs.YtmjnmpifibemjaaGreatDoor
open Go Go.RowKit
structure Spec where
 fp:Value→List Nat
 R:Value→World→Prop
 adm:Value→Prop
namespace Spec
def any:Spec:=⟨fun _ => [],fun _ _ => True,fun _ => True⟩
def det (v0:Value):Spec:=⟨fun _ => [],fun v _ => v=v0,fun v => v=v0⟩
def val (F:Value→Prop):Spec:=⟨fun _ => [],fun v _ => F v,F⟩
def own (B:Nat) (e:TypeId) (s n:Nat) (xs:List Value):Spec:=⟨fun v => v.ownBlock.toList,fun v w => w.ownsRow B e s v n xs,fun v => ∃ A c,v=.slice A n c∧n≤c∧c≤maxLen⟩
def src (s m:Nat) (news:List Value):Spec:=⟨fun v => v.ownBlock.toList,fun v w => Src w s v m news,fun v => ∃ A c,v=.slice A m c⟩
def ptrBlocks:Value→List Nat
 | .pointer (some a) => [a.block]
 | .iface _ (.pointer (some a)) => [a.block]
 | _ => []
def box (t:TypeId) (cs:Array Value):Spec:=⟨ptrBlocks,fun v w => ∃ g,v=.pointer (some ⟨g,0,none⟩)∧Blk w g t cs,fun v => ∃ g,v=.pointer (some ⟨g,0,none⟩)⟩
def lit (t:TypeId) (cs:Array Value) (n:Nat):Spec:=⟨fun v => v.ownBlock.toList,fun v w => ∃ g,v=.slice (some ⟨g,0,none⟩) n n∧Blk w g t cs,fun v => ∃ g,v=.slice (some ⟨g,0,none⟩) n n⟩
end Spec
structure Lasts (S:List Nat) (w0:World) (s:Spec):Prop where
 lasts:∀ v (w w':World) T,Upd S w0 w→s.R v w→Upd T w w'→(∀ b ∈ T,b ∉ s.fp v)→(∀ b ∈ T,b ∈ S∨w0.heap.size≤b)→s.R v w'
 wit:∃ v,s.adm v
 adm:∀ v w,s.R v w→s.adm v
section
variable {S:List Nat} {w0:World}
theorem lasts_any:Lasts S w0 .any:=⟨fun _ _ _ _ _ _ _ _ _ => trivial,⟨undef,trivial⟩,fun _ _ _ => trivial⟩
theorem lasts_det (v0:Value):Lasts S w0 (.det v0):=⟨fun _ _ _ _ _ h _ _ _ => h,⟨v0,rfl⟩,fun _ _ h => h⟩
theorem lasts_own (B:Nat) (e:TypeId) (s n:Nat) (xs:List Value) (hn:n≤maxLen):Lasts S w0 (.own B e s n xs):=⟨fun v w w' T _ h hu hT _ =>
 own_upd h hu fun b hb hm => hT b hm (by simp [Spec.own,hb]),⟨_,none,n,rfl,Nat.le_refl _,hn⟩,fun _ _ h => own_slice h⟩
theorem lasts_src (s m:Nat) (news:List Value):Lasts S w0 (.src s m news):=⟨fun v w w' T _ h hu hT _ =>
 Src.upd h hu fun b hb hm => hT b hm (by simp [Spec.src,hb]),⟨_,none,m,rfl⟩,fun _ _ h => let ⟨_,A,c,e,_⟩:=h; ⟨A,c,e⟩⟩
theorem lasts_lit (t:TypeId) (cs:Array Value) (n:Nat):Lasts S w0 (.lit t cs n):=⟨fun v w w' T _ h hu hT _ => by
 obtain ⟨g,rfl,hb⟩:=h
 exact ⟨g,rfl,hb.upd hu fun hm => hT g hm (by simp [Spec.lit,Value.ownBlock])⟩,⟨_,0,rfl⟩,fun _ _ ⟨g,e,_⟩ => ⟨g,e⟩⟩
end
theorem Blk.newAt {W:World} {H:Nat} (t:TypeId) (cs:Array Value) (h:W.heap.size=H):Blk (W.alloc (.cells cs t)) H t cs:=h ▸ Blk.new W t cs
theorem Src.newAt {W:World} {H:Nat} {t:TypeId} {cs:Array Value} {s m:Nat} (h:W.heap.size=H) (c:Nat) (hl:cs.size=m * s):Src (W.alloc (.cells cs t)) s (.slice (some ⟨H,0,none⟩) m c) m cs.toList:=.of_blk (Blk.newAt t cs h) c hl
def specOf:List (Nat × Spec)→Nat→Spec
 | [],_ => .any
 | (i,s) :: L,j => if j=i then s else specOf L j
def conOf:List (Nat × List Nat)→Nat→List Nat
 | [],_ => []
 | (i,s) :: L,j => if j=i then s else conOf L j
def LastsAll (S:List Nat) (w0:World):List (Nat × Spec)→Prop
 | [] => True
 | (_,s) :: L => Lasts S w0 s∧LastsAll S w0 L
theorem lastsAll_of {S:List Nat} {w0:World}:∀ (L:List (Nat × Spec)),LastsAll S w0 L→∀ j,Lasts S w0 (specOf L j)
 | [],_,_ => lasts_any
 | (i,s) :: L,h,j => by
   unfold specOf
   split
   ·exact h.1
   ·exact lastsAll_of L h.2 j
def mkI (S:List Nat) (w0:World) (K:Nat→World→Prop) (L:List (Nat × Spec)) (C:List (Nat × List Nat)) (CH:List Nat) (nb:Nat) (tl:List Oper):Inv :=
 { nb:=nb,tl:=tl,S:=S,w0:=w0,K:=K,R:=fun j _ => (specOf L j).R,of:=fun j => j,adm:=fun j => (specOf L j).adm,fp:=fun j => (specOf L j).fp,con:=conOf C,ch:=fun j => CH.contains j }
section
variable {P:Program} {ops:Array Oper} {I:Inv} {Q:Exit→Act→World→Prop} {o:Oper} {l:List Oper} {j s:Nat} {A:Act} {G:List (Nat × Value)}
theorem wp_invT {id:Nat} {a:Act} {w:World} (nb:Nat) (S:List Nat) (K:Nat→World→Prop) (L:List (Nat × Spec)) (C:List (Nat × List Nat)) (CH:List Nat) (hm:P.follows .mixedOrders=true) (hnb:nb≤l.length) (hc:invB l.toArray (conOf C) (fun j => CH.contains j)=true) (htb:tailB l.toArray nb=true)
 (hS:∀ b ∈ S,b < w.heap.size) (hL:LastsAll S w.drew L) (hK:∀ s (w1 w':World) T,K s w1→Upd T w1 w'→(∀ b ∈ T,w.heap.size≤b)→K s w') (hK0:K 0 w.drew)
 (h:wpV P l.toArray (mkI S w.drew K L C CH nb (l.drop nb)) (NoPanic Q) (l.take nb) 0 0 a []):(Code.region id l.toArray true).wp P Q a w :=
 wp_inv (mkI S w.drew K L C CH nb (l.drop nb)) hm rfl hnb rfl hc htb hS (fun _ _ => .inl rfl) (fun j _ v w1 w' T a b c d e _ => (lastsAll_of L hL j).lasts v w1 w' T a b c d e) hK hK0 (fun j => (lastsAll_of L hL j).wit) (fun j _ v w1 => (lastsAll_of L hL j).adm v w1) h
theorem tailB_all (l:List Oper) (h:floatsOk l.toArray (floats l.toArray) (Array.replicate l.toArray.size false)=true):tailB l.toArray l.length=true:=by
 unfold tailB
 rw [Bool.and_eq_true]
 refine ⟨h,?_⟩
 rw [List.all_eq_true]
 intro j hj
 have:=List.mem_range.1 hj
 simp at this
 simp [this]
theorem wp_invK {id:Nat} {a:Act} {w:World} (S:List Nat) (K:Nat→World→Prop) (L:List (Nat × Spec)) (C:List (Nat × List Nat)) (CH:List Nat) (hm:P.follows .mixedOrders=true) (hc:invB l.toArray (conOf C) (fun j => CH.contains j)=true) (hfo:floatsOk l.toArray (floats l.toArray) (Array.replicate l.toArray.size false)=true)
 (hS:∀ b ∈ S,b < w.heap.size) (hL:LastsAll S w.drew L) (hK:∀ s (w1 w':World) T,K s w1→Upd T w1 w'→(∀ b ∈ T,w.heap.size≤b)→K s w') (hK0:K 0 w.drew)
 (h:wpV P l.toArray (mkI S w.drew K L C CH l.length []) (NoPanic Q) l 0 0 a []):(Code.region id l.toArray true).wp P Q a w :=
 wp_invT l.length S K L C CH hm (Nat.le_refl _) hc (tailB_all l hfo) hS hL hK hK0 (by rw [List.take_length,List.drop_length]; exact h)
theorem wp_invN {id:Nat} {a:Act} {w:World} (L:List (Nat × Spec)) (C:List (Nat × List Nat)) (hm:P.follows .mixedOrders=true) (hc:invB l.toArray (conOf C) (fun j => ([]:List Nat).contains j)=true) (hfo:floatsOk l.toArray (floats l.toArray) (Array.replicate l.toArray.size false)=true) (hL:LastsAll [] w.drew L)
 (h:wpV P l.toArray (mkI [] w.drew (fun _ _ => True) L C [] l.length []) (NoPanic Q) l 0 0 a []):(Code.region id l.toArray true).wp P Q a w :=
 wp_invK [] (fun _ _ => True) L C [] hm hc hfo (by simp) hL (fun _ _ _ _ _ _ _ => trivial) trivial h
theorem wp_invNT {id:Nat} {a:Act} {w:World} (nb:Nat) (L:List (Nat × Spec)) (C:List (Nat × List Nat)) (hm:P.follows .mixedOrders=true) (hnb:nb≤l.length) (hc:invB l.toArray (conOf C) (fun j => ([]:List Nat).contains j)=true) (htb:tailB l.toArray nb=true) (hL:LastsAll [] w.drew L)
 (h:wpV P l.toArray (mkI [] w.drew (fun _ _ => True) L C [] nb (l.drop nb)) (NoPanic Q) (l.take nb) 0 0 a []):(Code.region id l.toArray true).wp P Q a w :=
 wp_invT nb [] (fun _ _ => True) L C [] hm hnb hc htb (by simp) hL (fun _ _ _ _ _ _ _ => trivial) trivial h
structure Lasts0 (w0:World) (s:Spec):Prop where
 lasts:∀ v (w w':World),Upd [] w0 w→s.R v w→Upd [] w w'→s.R v w'
 wit:∃ v,s.adm v
 adm:∀ v w,s.R v w→s.adm v
def LastsAll0 (w0:World):List (Nat × Spec)→Prop
 | [] => True
 | (_,s) :: L => Lasts0 w0 s∧LastsAll0 w0 L
theorem lasts0_of {w0:World} {s:Spec} (h:Lasts [] w0 s):Lasts0 w0 s:=⟨fun v w w' a b c => h.lasts v w w' [] a b c (by simp) (by simp),h.wit,h.adm⟩
theorem lastsAll0_of {w0:World}:∀ (L:List (Nat × Spec)),LastsAll0 w0 L→∀ j,Lasts0 w0 (specOf L j)
 | [],_,_ => lasts0_of lasts_any
 | (i,s) :: L,h,j => by
   unfold specOf
   split
   ·exact h.1
   ·exact lastsAll0_of L h.2 j
theorem wp_invNT0 {id:Nat} {a:Act} {w:World} (nb:Nat) (L:List (Nat × Spec)) (hm:P.follows .mixedOrders=true) (hnb:nb≤l.length) (hc:invB l.toArray (conOf []) (fun j => ([]:List Nat).contains j)=true) (htb:tailB l.toArray nb=true) (hL:LastsAll0 w.drew L)
 (h:wpV P l.toArray (mkI [] w.drew (fun _ _ => True) L [] [] nb (l.drop nb)) (NoPanic Q) (l.take nb) 0 0 a []):(Code.region id l.toArray true).wp P Q a w :=
 wp_inv (mkI [] w.drew (fun _ _ => True) L [] [] nb (l.drop nb)) hm rfl hnb rfl hc htb (by simp [mkI]) (fun _ _ => .inl rfl) (fun j _ v w1 w' T a1 b1 c1 d1 e1 f1 => by
  obtain rfl:=f1 (fun j => ⟨rfl,rfl⟩)
  exact (lastsAll0_of L hL j).lasts v w1 w' a1 b1 c1) (fun _ _ _ _ _ _ _ => trivial) trivial (fun j => (lastsAll0_of L hL j).wit) (fun j _ v w1 => (lastsAll0_of L hL j).adm v w1) h
theorem wpT_op {a:Act} {w:World} (hw:Region.wanted o (yielded ops a.tmps)=true) (h:∀ K:Act→World→Prop,Hid (∀ a' w',wpT P ops Q l a' w'→K a' w')→o.wp P a w K Q):wpT P ops Q (o :: l) a w:=by
 unfold wpT
 rw [if_pos hw]
 exact h _ (Zh fun _ _ h => h)
theorem wpT_end {a:Act} {w:World} (h:Q .normal a w):wpT P ops (NoPanic Q) [] a w:=h
theorem wpV_light {v:Value} (hl:lightOp o.op=true) (h1:∀ w,Upd I.S I.w0 w→Hid (factsV I (availB ops I.con j) G w)→if Region.wanted o (yielded ops A.tmps) then litStep ((execOp A.eval o).run P w) w (fun x => x=v) else v=undef)
 (h2:wpV P ops I Q l (j + 1) s (A.put o.dst v) G):wpV P ops I Q (o :: l) j s A G:=by
 unfold wpV
 rw [if_pos hl]
 exact ⟨v,fun w hu hf => h1 w hu (Zh hf),h2⟩
theorem wpV_skip (hw:Region.wanted o (yielded ops A.tmps)=false) (hl:lightOp o.op=true) (h2:wpV P ops I Q l (j + 1) s (A.put o.dst undef) G):wpV P ops I Q (o :: l) j s A G:=by
 unfold wpV
 rw [if_pos hl]
 exact ⟨undef,fun w _ _ => by rw [hw]; rfl,h2⟩
theorem wpV_heavy (hl:lightOp o.op=false) (hw:Region.wanted o (yielded ops A.tmps)=true)
 (h1:∀ w,Upd I.S I.w0 w→(I.ch j=true→I.K s w)→Hid (factsV I (availB ops I.con j) G w)→∀ K:Act→World→Prop,Hid (∀ v w',outV I j s G w v w'→K (A.put o.dst v) w')→o.wp P A w K Q)
 (h2:∀ v,I.adm j v→wpV P ops I Q l (j + 1) (if I.ch j then s + 1 else s) (A.put o.dst v) (G ++ [(j,v)])):wpV P ops I Q (o :: l) j s A G:=by
 unfold wpV
 rw [if_neg (by rw [hl]; simp)]
 refine ⟨fun w hu hk hf => ?_,h2⟩
 rw [if_pos hw]
 exact h1 w hu hk (Zh hf) _ (Zh fun v w' h => ⟨v,rfl,h⟩)
theorem wpV_lit {S:List Nat} {w0:World} {Kx:Nat→World→Prop} {L:List (Nat × Spec)} {C:List (Nat × List Nat)} {CH:List Nat} {nb:Nat} {tl:List Oper} {t:TypeId} {cs:Array Value} {n H:Nat} {w:World} {K:Act→World→Prop} {A:Act} {d:Option Tmp}
 (hK:Hid (∀ v w',outV (mkI S w0 Kx L C CH nb tl) j s G w v w'→K (A.put d v) w')) (hch:CH.contains j=false) (hs:specOf L j=.lit t cs n) (hH:w.heap.size=H):K (A.put d (.slice (some ⟨H,0,none⟩) n n)) (w.alloc (.cells cs t)):=by
 subst hH
 refine hK.out _ _ ⟨?_,fun b hb => ?_,?_,fun h => ?_⟩
 ·show (specOf L j).R _ _
  rw [hs]
  exact ⟨_,rfl,Blk.new _ _ _⟩
 ·have hb':b ∈ (specOf L j).fp (.slice (some ⟨w.heap.size,0,none⟩) n n):=hb
  rw [hs] at hb'
  simp [Spec.lit,Value.ownBlock] at hb'
  subst hb'
  exact .inr ⟨Nat.le_refl _,by simp⟩
 ·show Upd (if CH.contains j=true then _ else _) _ _
  rw [hch]
  exact ((Upd.refl [] w).alloc _).mono (by simp)
 ·have:CH.contains j=true:=h
  rw [hch] at this
  cases this
theorem wpV_heavySkip (hl:lightOp o.op=false) (hw:Region.wanted o (yielded ops A.tmps)=false) (h1:∀ w,Upd I.S I.w0 w→(I.ch j=true→I.K s w)→outV I j s G w undef w)
 (h2:∀ v,I.adm j v→wpV P ops I Q l (j + 1) (if I.ch j then s + 1 else s) (A.put o.dst v) (G ++ [(j,v)])):wpV P ops I Q (o :: l) j s A G:=by
 unfold wpV
 rw [if_neg (by rw [hl]; simp)]
 refine ⟨fun w hu hk hf => ?_,h2⟩
 rw [hw]
 exact h1 w hu hk
theorem wpV_end (h:∀ w,Upd I.S I.w0 w→I.K s w→Hid (factsV I (endB ops I.con) G w)→wpT P ops Q I.tl A w):wpV P ops I Q [] j s A G:=fun w hu hk hf => h w hu hk (Zh hf)
theorem outV_new {w w':World} {v:Value} (hch:I.ch j=false) (hr:I.R j (parV I G j v) v w') (hfp:∀ b ∈ I.fp j v,w.heap.size≤b∧b < w'.heap.size) (hu:Upd [] w w'):outV I j s G w v w' :=
 ⟨hr,fun b hb => .inr (hfp b hb),by rw [hch]; exact hu.mono (by simp),by rw [hch]; simp⟩
end
structure Spec2 where
 R:Value→Value→World→Prop
 adm:Value→Prop
def Spec2.of (s:Spec):Spec2:=⟨fun _ v w => s.R v w,s.adm⟩
structure Lasts2 (w0:World) (s:Spec2):Prop where
 lasts:∀ p v (w w':World),Upd [] w0 w→s.R p v w→Upd [] w w'→s.R p v w'
 wit:∃ v,s.adm v
 adm:∀ p v w,s.R p v w→s.adm v
theorem lasts2_of {w0:World} {s:Spec} (h:Lasts0 w0 s):Lasts2 w0 (.of s):=⟨fun p v w w' a b c => h.lasts v w w' a b c,h.wit,fun p v w hr => h.adm v w hr⟩
def spec2:List (Nat × Nat × Spec2)→Nat→Spec2
 | [],_ => .of .any
 | (i,_,s) :: L,j => if j=i then s else spec2 L j
def par2:List (Nat × Nat × Spec2)→Nat→Nat
 | [],j => j
 | (i,p,_) :: L,j => if j=i then p else par2 L j
def LastsAll2 (w0:World):List (Nat × Nat × Spec2)→Prop
 | [] => True
 | (_,_,s) :: L => Lasts2 w0 s∧LastsAll2 w0 L
theorem lastsAll2_of {w0:World}:∀ (L:List (Nat × Nat × Spec2)),LastsAll2 w0 L→∀ j,Lasts2 w0 (spec2 L j)
 | [],_,_ => lasts2_of (lasts0_of lasts_any)
 | (i,_,s) :: L,h,j => by
   unfold spec2
   split
   ·exact h.1
   ·exact lastsAll2_of L h.2 j
def mkI2 (w0:World) (L:List (Nat × Nat × Spec2)) (nb:Nat) (tl:List Oper):Inv :=
 { nb:=nb,tl:=tl,S:=[],w0:=w0,K:=fun _ _ => True,R:=fun j => (spec2 L j).R,of:=par2 L,adm:=fun j => (spec2 L j).adm,fp:=fun _ _ => [],con:=fun _ => [],ch:=fun _ => false }
def ofB (ops:Array Oper) (nb:Nat) (of:Nat→Nat):Bool:=(List.range ops.size).all fun j => of j == j || (decide (of j < nb) && decide (of j < j) && !lightAt ops (of j) && ancB ops j (of j))
theorem ofOk {ops:Array Oper} {I:Inv} (h:ofB ops I.nb I.of=true):OfOk ops I:=fun j hj => by
 unfold ofB at h
 have:=List.all_eq_true.1 h j (List.mem_range.2 hj)
 simp only [Bool.or_eq_true,Bool.and_eq_true,beq_iff_eq,decide_eq_true_eq,Bool.not_eq_true'] at this
 rcases this with h1 | ⟨⟨⟨h1,h2⟩,h3⟩,h4⟩
 ·exact .inl h1
 ·exact .inr ⟨h1,h2,h3,h4⟩
section
variable {P:Program} {ops:Array Oper} {I:Inv} {Q:Exit→Act→World→Prop} {o:Oper} {l:List Oper} {j s:Nat} {A:Act} {G:List (Nat × Value)}
theorem wp_inv2 {id:Nat} {a:Act} {w:World} (nb:Nat) (L:List (Nat × Nat × Spec2)) (hm:P.follows .mixedOrders=true) (hnb:nb≤l.length) (hc:invB l.toArray (fun _ => []) (fun _ => false)=true) (htb:tailB l.toArray nb=true) (hof:ofB l.toArray nb (par2 L)=true) (hL:LastsAll2 w.drew L)
 (h:wpV P l.toArray (mkI2 w.drew L nb (l.drop nb)) (NoPanic Q) (l.take nb) 0 0 a []):(Code.region id l.toArray true).wp P Q a w :=
 wp_inv (mkI2 w.drew L nb (l.drop nb)) hm rfl hnb rfl hc htb (by simp [mkI2]) (ofOk hof) (fun j p v w1 w' T a1 b1 c1 d1 e1 f1 => by
  obtain rfl:=f1 (fun j => ⟨rfl,rfl⟩)
  exact (lastsAll2_of L hL j).lasts p v w1 w' a1 b1 c1) (fun _ _ _ _ _ _ _ => trivial) trivial (fun j => (lastsAll2_of L hL j).wit) (fun j p v w1 => (lastsAll2_of L hL j).adm p v w1) h
end
end Go.Proofs.YtmjnmpifibemjaaGreatDoor
namespace Go.Proofs.YtmjnmpifibemjaaGreatDoor
open Go.RowKit
def rightS (ks:List Int):Stm→Bool
 | .mk k coll reg ar an br bn body els => rightV k coll reg ar an br bn body.length els.length ks
def stepR (ks:List Int) (s:Int × Int) (n d:Nat) (x:Stm):Bool × (Int × Int) :=
 let r:Int × Int:=if 100 < n then (8,n) else if 8 < d then (10,n) else if !rightS ks x then (9,n) else s
 (r.1 == 0,r)
theorem Stms.len {w:World} {B:Nat} {A:Option Addr} {n c:Nat} {l:List Stm} (h:Stms w B (.slice A n c) l):l.length=n∧n≤9223372036854775807:=by
 cases h
 constructor
 ·assumption
 ·omega
theorem Src.below {w w':World} {s m:Nat} {x:Value} {news:List Value} (h:Src w s x m news) (hb:Below w.heap.size w w') (hz:w.heap.size≤w'.heap.size):Src w' s x m news:=by
 obtain ⟨h1,A,c,rfl,h2⟩:=h
 refine ⟨h1,A,c,rfl,fun j u hj => ?_⟩
 obtain ⟨ad,rfl,hl,hc⟩:=h2 j u hj
 exact ⟨ad,rfl,by omega,(hb.cell (by rw [block_add]; exact hl)).trans hc⟩
theorem UpdP.to_upd {O:Nat→Prop} {w w1 w2:World} (h:UpdP O w1 w2) (h0:Upd [] w w1) (hO:∀ x,O x→w.heap.size≤x):Upd [] w w2 :=
 ⟨h.os.trans h0.os,h.tape.trans h0.tape,h.output.trans h0.output,Nat.le_trans h0.size h.size,fun k hk hn => (h.keep k (Nat.lt_of_lt_of_le hk h0.size) (fun ho => by have:=hO k ho; omega)).trans (h0.keep k hk hn)⟩
structure RightSt (w0:World) (e kb:Nat) (A:Option Addr) (n c:Nat) (ks:List Int) (p:Nat) (w:World) (s:Int × Int):Prop where
 box:∃ v,Blk w e 45 #[v]∧ErrV w v s.1 s.2∧∀ g,v=.iface 96 (.pointer (some ⟨g,0,none⟩))→g≠p
 kinds:Blk w kb 22 #[.slice A n c]
 bel:Below w0.heap.size w0 w
 src:Src w0 1 (.slice A n c) n (ks.map (Value.int .i64))
 en:w0.heap.size≤e
 kn:w0.heap.size≤kb
 ep:e≠p
 kp:kb≠p
 pl:p < w.heap.size
 pn:w0.heap.size≤p
section
variable {w0:World} {eb kb:Nat} {A:Option Addr} {nn c:Nat} {ks:List Int} {p:Nat} {w w':World} {s:Int × Int}
theorem RightSt.upd (h:RightSt w0 eb kb A nn c ks p w s) (hu:Upd [p] w w'):RightSt w0 eb kb A nn c ks p w' s:=by
 obtain ⟨⟨v,h1,h2,h3⟩,h4,h5,h6,h7,h8,h9,h10,h11,h12⟩:=h
 refine ⟨⟨v,h1.upd hu (by simpa using h9),?_,h3⟩,h4.upd hu (by simpa using h10),h5.trans (hu.below h5.size (by simpa using h12)),h6,h7,h8,h9,h10,Nat.lt_of_lt_of_le h11 hu.size,h12⟩
 rcases h2 with h | h | ⟨g,e,hb,h⟩
 ·exact .inl h
 ·exact .inr (.inl h)
 ·exact .inr (.inr ⟨g,e,hb.upd hu (by simpa using h3 g e),h⟩)
theorem RightSt.upd0 (h:RightSt w0 eb kb A nn c ks p w s) (hu:Upd [] w w'):RightSt w0 eb kb A nn c ks p w' s:=h.upd (hu.mono (by simp))
theorem RightSt.srcOf (h:RightSt w0 eb kb A nn c ks p w s):Src w 1 (.slice A nn c) nn (ks.map (Value.int .i64)):=h.src.below h.bel h.bel.size
theorem RightSt.fault (h:RightSt w0 eb kb A nn c ks p w s) (H:Nat) (no at_:Int) (h1:1≤no) (h2:no≤17) (hH:w.heap.size≤H) (hu:Upd [eb] w w')
 (hb:∀ v,Blk w eb 45 #[v]→Blk w' eb 45 #[.iface 96 (.pointer (some ⟨H,0,none⟩))]) (hf:Blk w' H 100 #[.int .i64 at_,.int .i64 no]) :
 RightSt w0 eb kb A nn c ks p w' (no,at_)∧UpdP (fun k => k=eb) w w':=by
 obtain ⟨⟨v,b1,b2,b3⟩,h4,h5,h6,h7,h8,h9,h10,h11,h12⟩:=h
 refine ⟨⟨⟨_,hb v b1,ErrV.fault hf h1 h2,fun g e => ?_⟩,h4.upd hu ?_,h5.trans (hu.below h5.size (by simpa using h7)),h6,h7,h8,h9,h10,Nat.lt_of_lt_of_le h11 hu.size,h12⟩,.of_upd hu (by simp)⟩
 ·injection e with _ e
  injection e with e
  injection e with e
  injection e with e
  omega
 ·simp only [List.mem_singleton]
  exact fun e => (Blk.ne_ h4 b1 (by decide)) e
end
theorem right_clo (w0:World) (eb kb:Nat) (A:Option Addr) (nn c:Nat) (ks:List Int) (p:Nat) (hnn:nn≤1000000) (w:World) (s:Int × Int) (n d:Nat) (x:Stm) (v:Value) (hs:RightSt w0 eb kb A nn c ks p w s) (hv:StmV w w0.heap.size x v) (hn:n≤1000000) (hd:d≤1000000) :
 Calls Tryz.prog 103 #[.int .i64 n,.int .i64 d,v,.pointer (some ⟨eb,0,none⟩),.pointer (some ⟨kb,0,none⟩)] w fun e w' =>
  e=.returned (.bool (stepR ks s n d x).1)∧RightSt w0 eb kb A nn c ks p w' (stepR ks s n d x).2∧UpdP (fun k => k=eb) w w':=by
 obtain ⟨k,coll,reg,ar,an,br,bn,bo,el⟩:=x
 obtain ⟨vb,ve,rfl,hb,he⟩:=hv
 obtain ⟨Ab,nb,cb,rfl⟩:=hb.slice
 obtain ⟨Ae,ne,ce,rfl⟩:=he.slice
 obtain ⟨hlb,hlb2⟩:=hb.len
 obtain ⟨hle,hle2⟩:=he.len
 subst hlb hle
 obtain ⟨ev,hbx,hev,_⟩:=hs.box
 have e0:w.cell? ⟨eb,0,none⟩=some ev:=hbx.cell 0
 have e1:w.frozen? ⟨eb,0,none⟩=false:=hbx.frozen 0
 have el1:eb < w.heap.size:=hbx.lt
 have el2:eb < w.heap.size + 1:=by omega
 have k0:w.cell? ⟨kb,0,none⟩=some (.slice A nn c):=hs.kinds.cell 0
 have kl1:kb < w.heap.size:=hs.kinds.lt
 have HS:=Zh hs
 have HEV:=Zh hev
 clear hs hb he hbx hev
 unfold stmCells
 have AL:Hid (∀ o,Upd [] w (w.alloc o)):=Zh (fun o => (Upd.refl [] w).alloc o)
 have SZ:Hid (∀ o:Obj,(w.alloc o).heap.size=w.heap.size + 1):=Zh (fun o => by simp)
 by_cases h1:100 < n
 ·have h1':decide ((100:Int) < n)=true:=by simp; omega
  have HR:Hid (stepR ks s n d (.mk k coll reg ar an br bn bo el)=(false,(8,(n:Int)))):=Zh (by unfold stepR; simp [h1])
  go_enter Tryz.func103,Tryz.ntmps103
  go_wp2_with fail
  go_ret
  rw [HR.out]
  obtain ⟨r1,r2⟩:=HS.out.fault (w':=((w.setCell ⟨eb,0,none⟩ (.iface 96 (.pointer (some ⟨w.heap.size + 1,0,none⟩)))).alloc (.cells #[.int .i64 k,.int .i64 coll,.int .i64 reg,.int .i64 ar,.int .i64 an,.int .i64 br,.int .i64 bn,.slice Ab bo.length cb,.slice Ae el.length ce] 62)).alloc (.cells #[.int .i64 n,.int .i64 8] 100)) (w.heap.size + 1) 8 n (by omega) (by omega) (by omega) ((((Upd.refl [eb] w).setCell (.inl (by simp)) _).alloc _).alloc _) (fun v h => ((h.set_eq rfl).alloc _).alloc _) (Blk.newAt _ _ (by simp [World.setCell]))
  exact ⟨rfl,r1,r2⟩
 ·have h1':decide ((100:Int) < n)=false:=by simp; omega
  by_cases h2:8 < d
  ·have h2':decide ((8:Int) < d)=true:=by simp; omega
   have HR:Hid (stepR ks s n d (.mk k coll reg ar an br bn bo el)=(false,(10,(n:Int)))):=Zh (by unfold stepR; simp [h1,h2])
   go_enter Tryz.func103,Tryz.ntmps103
   go_wp2_with fail
   go_ret
   rw [HR.out]
   obtain ⟨r1,r2⟩:=HS.out.fault (w':=((w.setCell ⟨eb,0,none⟩ (.iface 96 (.pointer (some ⟨w.heap.size + 1,0,none⟩)))).alloc (.cells #[.int .i64 k,.int .i64 coll,.int .i64 reg,.int .i64 ar,.int .i64 an,.int .i64 br,.int .i64 bn,.slice Ab bo.length cb,.slice Ae el.length ce] 62)).alloc (.cells #[.int .i64 n,.int .i64 10] 100)) (w.heap.size + 1) 10 n (by omega) (by omega) (by omega) ((((Upd.refl [eb] w).setCell (.inl (by simp)) _).alloc _).alloc _) (fun v h => ((h.set_eq rfl).alloc _).alloc _) (Blk.newAt _ _ (by simp [World.setCell]))
   exact ⟨rfl,r1,r2⟩
  ·have h2':decide ((8:Int) < d)=false:=by simp; omega
   obtain ⟨rv,hrv⟩:∃ y,rightV k coll reg ar an br bn bo.length el.length ks=y:=⟨_,rfl⟩
   have HRV:=Zh hrv
   have HR:Hid (stepR ks s n d (.mk k coll reg ar an br bn bo el)=(if rv then (s.1 == 0,s) else (false,(9,(n:Int))))):=Zh (by unfold stepR rightS; simp [h1,h2,hrv]; cases rv <;> simp)
   clear hrv
   go_enter Tryz.func103,Tryz.ntmps103
   go_wp2_with fail
   refine (right_ok k coll reg ar an br bn Ab Ae bo.length cb el.length ce A nn c ks _ (HS.out.srcOf.upd0 (AL.out _)) hnn (by omega) (by omega)).mono ?_; rintro e w1 ⟨rfl,u1⟩
   rw [HRV.out]
   have U1:=Zh ((AL.out (.cells #[.int .i64 k,.int .i64 coll,.int .i64 reg,.int .i64 ar,.int .i64 an,.int .i64 br,.int .i64 bn,.slice Ab bo.length cb,.slice Ae el.length ce] 62)).trans u1)
   have S1:=Zh (HS.out.upd0 U1.out)
   clear u1 e0 e1 el1 el2 k0 kl1 HS HEV
   obtain ⟨ev1,hbx,hev,_⟩:=S1.out.box
   have e0:w1.cell? ⟨eb,0,none⟩=some ev1:=hbx.cell 0
   have e1:w1.frozen? ⟨eb,0,none⟩=false:=hbx.frozen 0
   have el1:eb < w1.heap.size:=hbx.lt
   have el2:eb < w1.heap.size + 1:=by omega
   have HEV:=Zh hev
   clear hbx hev
   cases rv with
   | false =>
     go_wp2_with fail
     go_ret
     rw [HR.out]
     obtain ⟨r1,r2⟩:=S1.out.fault (w':=(w1.setCell ⟨eb,0,none⟩ (.iface 96 (.pointer (some ⟨w1.heap.size,0,none⟩)))).alloc (.cells #[.int .i64 n,.int .i64 9] 100)) w1.heap.size 9 n (by omega) (by omega) (by omega) (((Upd.refl [eb] w1).setCell (.inl (by simp)) _).alloc _) (fun v h => (h.set_eq rfl).alloc _) (Blk.newAt _ _ (by simp [World.setCell]))
     exact ⟨rfl,r1,(UpdP.of_upd U1.out (by simp)).trans r2 (fun x hx => .inl hx)⟩
   | true =>
     rcases HEV.out with ⟨rfl,q,_⟩ | ⟨rfl,q,_⟩ | ⟨g,rfl,_,q,_⟩
     ·have HQ:=Zh q
      clear q
      go_wp2_with fail
      go_ret
      rw [HR.out]
      exact ⟨by simp [HQ.out],by simpa using S1.out,.of_upd U1.out (by simp)⟩
     ·have HQ : Hid ((s.1 == 0) = false) := Lib.hid (by have:¬ s.1=0:=by omega
                                                        simpa using this)
      clear q
      go_wp2_with fail
      go_ret
      rw [HR.out]
      exact ⟨by simp [HQ.out],by simpa using S1.out,.of_upd U1.out (by simp)⟩
     ·have HQ : Hid ((s.1 == 0) = false) := Lib.hid (by have:¬ s.1=0:=by omega
                                                        simpa using this)
      clear q
      go_wp2_with fail
      go_ret
      rw [HR.out]
      exact ⟨by simp [HQ.out],by simpa using S1.out,.of_upd U1.out (by simp)⟩
theorem right_visitor (w0:World) (eb kb:Nat) (A:Option Addr) (nn c:Nat) (ks:List Int) (p:Nat) (hnn:nn≤1000000) :
 Visitor (Int × Int) 103 #[.pointer (some ⟨eb,0,none⟩),.pointer (some ⟨kb,0,none⟩)] w0.heap.size p (RightSt w0 eb kb A nn c ks p) (fun _ k => k=eb) (stepR ks) where
 enter:=fun args w => rfl
 keep:=fun w w' s h hu => h.upd hu
 keepOwn:=fun _ _ _ _ _ _ h => h
 ownB:=fun w s k h e => by
  subst e
  exact ⟨h.en,h.ep,by obtain ⟨v,hb,_⟩:=h.box; exact hb.lt⟩
 visit:=fun w s n d x v hs hv _ hn hd => (right_clo w0 eb kb A nn c ks p hnn w s n d x v hs hv hn hd).mono fun e w' ⟨h1,h2,h3⟩ => ⟨h1,h2,h3,fun k hk => .inl hk⟩
def rightR (ks:List Int) (l:List Stm):Int × Int:=(walkF (stepR ks) (linesOf 1 l) (0,0) 0).2.1
theorem prog_right_ok (l:List Stm) (v:Value) (A:Option Addr) (n c:Nat) (ks:List Int) (w:World) (hv:Stms w w.heap.size v l) (hk:Src w 1 (.slice A n c) n (ks.map (Value.int .i64))) (hn:n≤1000000) (hl:sizes l≤900000) :
 Calls Tryz.prog 86 #[v,.slice A n c] w fun e w' => ∃ v',e=.returned v'∧ErrV w' v' (rightR ks l).1 (rightR ks l).2∧Upd [] w w':=by
 have HV:=Zh hv
 have HK:=Zh hk
 obtain ⟨Av,nv,cv,rfl⟩:=hv.slice
 clear hv hk
 go_enter Tryz.func86,Tryz.ntmps86
 go_wp2_with fail
 have U3:Hid (Upd [] w (((w.alloc (.cells #[.slice A n c] 22)).alloc (.cells #[.nilIface] 45)).alloc (.cells #[.int .i64 0,.func (.func 103) #[] #[.pointer (some ⟨w.heap.size + 1,0,none⟩),.pointer (some ⟨w.heap.size,0,none⟩)]] 202))):=Zh ((((Upd.refl [] w).alloc _).alloc _).alloc _)
 have b1:Hid (Blk (((w.alloc (.cells #[.slice A n c] 22)).alloc (.cells #[.nilIface] 45)).alloc (.cells #[.int .i64 0,.func (.func 103) #[] #[.pointer (some ⟨w.heap.size + 1,0,none⟩),.pointer (some ⟨w.heap.size,0,none⟩)]] 202)) w.heap.size 22 #[.slice A n c]):=Zh (((Blk.new w _ _).alloc _).alloc _)
 have b2:Hid (Blk (((w.alloc (.cells #[.slice A n c] 22)).alloc (.cells #[.nilIface] 45)).alloc (.cells #[.int .i64 0,.func (.func 103) #[] #[.pointer (some ⟨w.heap.size + 1,0,none⟩),.pointer (some ⟨w.heap.size,0,none⟩)]] 202)) (w.heap.size + 1) 45 #[.nilIface]):=Zh ((Blk.newAt _ _ (by simp)).alloc _)
 have b3:Hid (Blk (((w.alloc (.cells #[.slice A n c] 22)).alloc (.cells #[.nilIface] 45)).alloc (.cells #[.int .i64 0,.func (.func 103) #[] #[.pointer (some ⟨w.heap.size + 1,0,none⟩),.pointer (some ⟨w.heap.size,0,none⟩)]] 202)) (w.heap.size + 1 + 1) 202 #[.int .i64 ((0:Nat):Int),.func (.func 103) #[] #[.pointer (some ⟨w.heap.size + 1,0,none⟩),.pointer (some ⟨w.heap.size,0,none⟩)]]):=Zh (Blk.newAt _ _ (by simp))
 generalize (((w.alloc (.cells #[.slice A n c] 22)).alloc (.cells #[.nilIface] 45)).alloc (.cells #[.int .i64 0,.func (.func 103) #[] #[.pointer (some ⟨w.heap.size + 1,0,none⟩),.pointer (some ⟨w.heap.size,0,none⟩)]] 202))=w3 at *
 have bl:Hid (Below w.heap.size w w3):=Zh (U3.out.below (Nat.le_refl _) (by simp))
 have hc:=walk_ok (right_visitor w (w.heap.size + 1) w.heap.size A n c ks (w.heap.size + 1 + 1) hn) (by omega) (sizes l + 1) l (.slice Av nv cv) w3 (0,0) 0 1 (by omega) (HV.out.belowW bl.out)
  ⟨⟨_,b2.out,.nil _,fun g e => by cases e⟩,b1.out,bl.out,HK.out,by omega,by omega,by omega,by omega,b3.out.lt,by omega⟩ b3.out U3.out.size (by omega) (by omega)
 rw [show ((1:Nat):Int)=1 from rfl] at hc
 refine hc.mono ?_; clear hc; rintro e w4 ⟨rfl,st,bp,up,_⟩
 obtain ⟨v',hb,hev,_⟩:=st.box
 have e0:w4.cell? ⟨w.heap.size + 1,0,none⟩=some v':=hb.cell 0
 have HEV:=Zh hev
 have U4:Hid (Upd [] w w4):=Zh (up.to_upd U3.out (fun x hx => by rcases hx with rfl | rfl <;> omega))
 clear st bp up hb hev bl b1 b2 b3 U3
 go_wp2_with fail
 go_ret
 exact ⟨v',rfl,HEV.out,U4.out⟩
end Go.Proofs.YtmjnmpifibemjaaGreatDoor
namespace Go.Proofs.YtmjnmpifibemjaaGreatDoor.Ev
open Assoc MP
def r0 (s:MS):RS:=⟨s,[0,0,0,0,0,0,0,0,0],[],0⟩
def endC (n:Int):Int:=if n=0 then 1 else if n=5 then 0 else n
def errE (s:MS) (l:List Stm):Int:=if (rightR s.K l).1≠0 then (rightR s.K l).1 else if (evL l (r0 s)).2=5 then 8 else 0
def endE (s:MS) (l:List Stm):Int:=if errE s l=0 then endC (evL l (r0 s)).2 else 0
def toldE (s:MS) (l:List Stm):List Int:=if errE s l=0 then (evL l (r0 s)).1.told else []
def finE (s:MS) (l:List Stm):MS:=if (evL l (r0 s)).2=0 then (evL l (r0 s)).1.s else s
def Cod (n:Int):Prop:=n=0∨n=2∨n=3∨n=4∨n=5
theorem cod_iter {f:RS→RS × Int} (h:∀ r,Cod (f r).2):∀ n r,Cod (iterR f n r).2
 | 0,r => .inl rfl
 | n + 1,r => by
   unfold iterR
   split
   ·exact cod_iter h n _
   ·exact h r
theorem cod_ask (k c reg ar an br bn:Int) (r:RS):Cod (askR k c reg ar an br bn r).2:=by
 unfold askR
 repeat' split
 all_goals first | exact .inl rfl | exact .inr (.inr (.inr (.inr rfl)))
mutual
theorem cod_ev:∀ (x:Stm) (r:RS),Cod (ev x r).2
 | .mk k c reg ar an br bn b e,r => by
   have hb:=cod_evL b
   have he:=cod_evL e
   rw [ev_mk]
   split
   ·exact .inl rfl
   split
   ·exact .inl rfl
   split
   ·split
    ·exact hb r
    ·exact he r
   split
   ·exact cod_iter hb _ _
   split
   ·split
    ·exact .inl rfl
    ·exact hb r
   split
   ·split
    ·exact he _
    ·exact hb r
   split
   ·exact .inr (.inr (.inl rfl))
   split
   ·exact .inr (.inl rfl)
   exact cod_ask ..
theorem cod_evL:∀ (l:List Stm) (r:RS),Cod (evL l r).2
 | [],r => by rw [evL_nil]; exact .inl rfl
 | x :: l,r => by
   have hx:=cod_ev x
   have hl:=cod_evL l
   rw [evL_cons]
   split
   ·exact .inr (.inr (.inr (.inl rfl)))
   split
   ·exact hl _
   ·exact hx _
end
section
variable {s:MS} {l p q:List Stm}
end
end Go.Proofs.YtmjnmpifibemjaaGreatDoor.Ev
namespace Go.Proofs.YtmjnmpifibemjaaGreatDoor
open Go.RowKit
def cmpI (a b:Int):Int:=if a < b then -1 else if b < a then 1 else 0
theorem isNaN_ok (a:Int) (w:World):Calls Tryz.prog 101 #[.int .i64 a] w fun e w' => e=.returned (.bool false)∧w=w':=by
 have h:(a != a)=false:=by simp
 go_enter Tryz.func101,Tryz.ntmps101
 go_wp2_with fail
 go_ret
 exact ⟨rfl,rfl⟩
theorem compare_ok (a b:Int) (w:World):Calls Tryz.prog 81 #[.int .i64 a,.int .i64 b] w fun e w' => e=.returned (.int .i64 (cmpI a b))∧w=w':=by
 have hc:∀ v,v=cmpI a b→Calls Tryz.prog 81 #[.int .i64 a,.int .i64 b] w (fun e w' => e=.returned (.int .i64 v)∧w=w')→Calls Tryz.prog 81 #[.int .i64 a,.int .i64 b] w fun e w' => e=.returned (.int .i64 (cmpI a b))∧w=w':=by
  rintro v rfl h; exact h
 rcases Int.lt_trichotomy a b with h | h | h
 ·refine hc (-1) (by unfold cmpI; rw [if_pos h]) ?_
  go_enter Tryz.func81,Tryz.ntmps81
  go_wp2_with ((go_at_call 101); (refine (isNaN_ok _ _).mono ?_); (rintro e w' ⟨rfl,rfl⟩))
  go_ret
  exact ⟨rfl,rfl⟩
 ·have h1:¬ a < b:=by omega
  have h2:¬ b < a:=by omega
  refine hc 0 (by unfold cmpI; rw [if_neg h1,if_neg h2]) ?_
  clear h
  go_enter Tryz.func81,Tryz.ntmps81
  go_wp2_with ((go_at_call 101); (refine (isNaN_ok _ _).mono ?_); (rintro e w' ⟨rfl,rfl⟩))
  go_ret
  exact ⟨rfl,rfl⟩
 ·have h1:¬ a < b:=by omega
  refine hc 1 (by unfold cmpI; rw [if_neg h1,if_pos h]) ?_
  go_enter Tryz.func81,Tryz.ntmps81
  go_wp2_with ((go_at_call 101); (refine (isNaN_ok _ _).mono ?_); (rintro e w' ⟨rfl,rfl⟩))
  go_ret
  exact ⟨rfl,rfl⟩
def orL:List Int→Int
 | [] => 0
 | a :: l => if a=0 then orL l else a
theorem orL_drop (xs:List Int) (k:Nat) (x:Int) (h:xs[k]?=some x):orL (xs.drop k)=if x=0 then orL (xs.drop (k + 1)) else x:=by
 obtain ⟨hk,rfl⟩:=List.getElem?_eq_some_iff.1 h
 rw [List.drop_eq_getElem_cons hk]
 rfl
theorem or_ok (g c:Nat) (xs:List Int) (w:World) (hb:Blk w g 3 (xs.map (Value.int .i64)).toArray) (hn:xs.length≤1000) :
 Calls Tryz.prog 80 #[.slice (some ⟨g,0,none⟩) xs.length c] w fun e w' => e=.returned (.int .i64 (orL xs))∧w=w':=by
 generalize hX:orL xs=X
 have HX:=Zh hX
 clear hX
 obtain ⟨n,HN⟩:∃ n,Hid (xs.length=n):=⟨_,rfl⟩
 rw [HN.out]
 rw [HN.out] at hn
 go_enter Tryz.func80,Tryz.ntmps80
 go_wp2_with fail
 go_loop [8] (fun v => ∃ k:Nat,k≤n∧v=.int .i64 k∧Hid (orL (xs.drop k)=X)) (fun v => n - (intOf v).toNat)
 case atStart => exact ⟨0,by omega,rfl,Zh (by simpa using HX.out)⟩
 case round =>
  obtain ⟨k,hk,rfl,hX⟩:=hrel
  by_cases hlt:k < n
  ·obtain ⟨x,hx⟩:∃ x,xs[k]?=some x:=⟨_,List.getElem?_eq_getElem (by have:=HN.out; omega)⟩
   have f1:w.cell? ⟨g,k,none⟩=some (.int .i64 x):=by rw [hb.cell]; simp [hx]
   have hd:=orL_drop xs k x hx
   rw [hX.out] at hd
   have HD:=Zh hd
   clear hd hx
   by_cases h0:x=0
   ·subst h0
    go_wp2_with fail
    go_round
    case rel => exact ⟨k + 1,by omega,by go_num,Zh (by rw [HD.out]; rfl)⟩
    case measure => simp [intOf]; omega
   ·have h1:(x != 0)=true:=by simpa using h0
    have H0:=Zh h0
    clear h0
    go_wp2_with fail
    go_ret
    exact ⟨by rw [HD.out,if_neg H0.out]; rfl,rfl⟩
  ·have:k=n:=by omega
   subst this
   have hz:X=0:=by rw [← hX.out,List.drop_eq_nil_of_le (by have:=HN.out; omega)]; rfl
   have HZ:=Zh hz
   clear hz
   go_wp2_with fail
   go_ret
   exact ⟨by rw [HZ.out]; rfl,rfl⟩
end Go.Proofs.YtmjnmpifibemjaaGreatDoor
namespace Go.Proofs.YtmjnmpifibemjaaGreatDoor
open Go.RowKit Go.WideShapes Go.ChangeShapes Go.Deep
section
variable {H:Type} {enc:TypeId × Value→H} {P:Program}
theorem trodAll_stays (hl:laidOutB P=true) {W W':World} (hb:Below W.heap.size W W') {sp:Nat→Bool} :
 ∀ {ts:List TypeId} {vs:List Value} {ds:List (DataW H)} {ps:List MemPlace},(∀ t ∈ ts,P.readableRec t=true∧t < P.types.size) →
   DataW.TrodAll enc P W 0 (fun _ => true) true ts vs ds ps→(∀ p ∈ ps,p.block < W.heap.size∧sp p.block=true)→DataW.TrodAll enc P W' 0 sp true ts vs ds ps
 | [],[],[],_,_,h,_ => h
 | _ :: _,_ :: _,_ :: _,_,ht,⟨p,q,h1,h2,e⟩,hs =>
   ⟨p,q,WideElems.Trod_stays hl (ht _ (List.mem_cons_self ..)).1 (ht _ (List.mem_cons_self ..)).2 h1 (fun x hx => hb.same (hs x (by rw [e]; exact List.mem_append_left _ hx)).1) (fun x hx => (hs x (by rw [e]; exact List.mem_append_left _ hx)).2),
     trodAll_stays hl hb (fun t h => ht t (List.mem_cons_of_mem _ h)) h2 (fun x hx => hs x (by rw [e]; exact List.mem_append_right _ hx)),e⟩
theorem law_post {fn:Func} {s:ChangeSpec} {tb:TypeId} {W W':World} {args:Array Value} {ds gs:List (DataW H)} {before:List MemPlace} (hl:laidOutB P=true)
 (ht:fn.params.toList.all (fun t => P.readableRec t && decide (t < P.types.size))=true) (hv:s.vars=[]) (hrt:fn.resultTypes=#[tb]) (hb:P.underlying tb=some .bool)
 (hspec:s.fn H (ds ++ [])={ results:=[.lit (.bool true)],args:=ds })
 (hW:DataW.Whole enc P fn.params.toList s.vars false W args.toList ds gs before) (hbel:Below W.heap.size W W') :
 s.post enc P fn false true false false W args (.bool true) W':=by
 have hW0:=hW
 have hlt:=fun x hx => hW.lt (p:=x) hx
 obtain ⟨p,q,hA,hV,rfl,hfz,hnd⟩:=hW
 have hg:gs=[]∧q=[]:=by
  rw [hv] at hV
  exact trodVars_none hV
 obtain ⟨rfl,rfl⟩:=hg
 simp only [List.append_nil] at hW0 hlt
 refine ⟨ds,[],p,[],p,[],hW0,?_,?_,?_,?_,fun h => by cases h⟩
 ·rw [hspec,hrt]
  exact trodAll_cons_mk (shut_bool hb true) trodAll_mk0
 ·rw [hspec]
  refine trodAll_stays hl hbel (fun t h => ?_) hA (fun x hx => ⟨hlt x hx,by simpa using hlt x hx⟩)
  have:=List.all_eq_true.1 ht t h
  simpa using this
 ·rw [hspec,hv]
  rfl
 ·exact hbel.frame _
end
section
variable {H:Type} {enc:TypeId × Value→H} {P:Program} {w:World} {base:Nat} {spare:Nat→Bool} {held:Bool}
end
end Go.Proofs.YtmjnmpifibemjaaGreatDoor
set_option linter.unusedSimpArgs false
namespace Go.Proofs.YtmjnmpifibemjaaGreatDoor
open Go.RowKit
def rk (d:Bool):Int:=if d then 0 else 1
theorem rank_ok (a b c:Int) (d:Bool) (e f:Int) (w:World):Calls Tryz.prog 82 #[.agg #[.int .i64 a,.int .i64 b,.int .i64 c,.bool d,.int .i64 e,.int .i64 f]] w fun e w' => e=.returned (.int .i64 (rk d))∧Upd [] w w':=by
 cases d with
 | true =>
   go_enter Tryz.func82,Tryz.ntmps82
   go_wp2_with fail
   go_ret
   exact ⟨rfl,(Upd.refl [] w).alloc _⟩
 | false =>
   go_enter Tryz.func82,Tryz.ntmps82
   go_wp2_with fail
   go_ret
   exact ⟨rfl,(Upd.refl [] w).alloc _⟩
theorem ahead_ok (ad:Addr) (n c i j:Nat) (hi:i < n) (hj:j < n) (a1 a2 a3:Int) (a4:Bool) (a5 a6 b1 b2 b3:Int) (b4:Bool) (b5 b6:Int) (w:World)
 (x1:w.cell? (ad.add (i * 6))=some (.int .i64 a1)) (x2:w.cell? ⟨(ad.add (i * 6)).block,(ad.add (i * 6)).off + 1,none⟩=some (.int .i64 a2)) (x3:w.cell? ⟨(ad.add (i * 6)).block,(ad.add (i * 6)).off + 2,none⟩=some (.int .i64 a3)) (x4:w.cell? ⟨(ad.add (i * 6)).block,(ad.add (i * 6)).off + 3,none⟩=some (.bool a4)) (x5:w.cell? ⟨(ad.add (i * 6)).block,(ad.add (i * 6)).off + 4,none⟩=some (.int .i64 a5)) (x6:w.cell? ⟨(ad.add (i * 6)).block,(ad.add (i * 6)).off + 5,none⟩=some (.int .i64 a6))
 (y1:w.cell? (ad.add (j * 6))=some (.int .i64 b1)) (y2:w.cell? ⟨(ad.add (j * 6)).block,(ad.add (j * 6)).off + 1,none⟩=some (.int .i64 b2)) (y3:w.cell? ⟨(ad.add (j * 6)).block,(ad.add (j * 6)).off + 2,none⟩=some (.int .i64 b3)) (y4:w.cell? ⟨(ad.add (j * 6)).block,(ad.add (j * 6)).off + 3,none⟩=some (.bool b4)) (y5:w.cell? ⟨(ad.add (j * 6)).block,(ad.add (j * 6)).off + 4,none⟩=some (.int .i64 b5)) (y6:w.cell? ⟨(ad.add (j * 6)).block,(ad.add (j * 6)).off + 5,none⟩=some (.int .i64 b6)) :
 Calls Tryz.prog 53 #[.slice (some ad) n c,.int .i64 i,.int .i64 j] w fun e w' => e=.returned (.bool (decide (orL [cmpI a3 b3,cmpI (rk a4) (rk b4),cmpI a6 b6,cmpI i j] < 0)))∧Upd [] w w':=by
 have n1:=World.new_ne w _ x1
 have n2:=World.new_ne w _ x2
 have n3:=World.new_ne w _ x3
 have n4:=World.new_ne w _ x4
 have n5:=World.new_ne w _ x5
 have n6:=World.new_ne w _ x6
 have n7:=World.new_ne w _ y1
 have n8:=World.new_ne w _ y2
 have n9:=World.new_ne w _ y3
 have n10:=World.new_ne w _ y4
 have n11:=World.new_ne w _ y5
 have n12:=World.new_ne w _ y6
 go_enter Tryz.func53,Tryz.ntmps53
 go_wp2_with fail
 go_region_held3 (fun W => W.cell? (ad.add (i * 6))=some (.int .i64 a1)∧W.cell? ⟨(ad.add (i * 6)).block,(ad.add (i * 6)).off + 1,none⟩=some (.int .i64 a2)∧W.cell? ⟨(ad.add (i * 6)).block,(ad.add (i * 6)).off + 2,none⟩=some (.int .i64 a3)∧W.cell? ⟨(ad.add (i * 6)).block,(ad.add (i * 6)).off + 3,none⟩=some (.bool a4)∧W.cell? ⟨(ad.add (i * 6)).block,(ad.add (i * 6)).off + 4,none⟩=some (.int .i64 a5)∧W.cell? ⟨(ad.add (i * 6)).block,(ad.add (i * 6)).off + 5,none⟩=some (.int .i64 a6)∧W.cell? (ad.add (j * 6))=some (.int .i64 b1)∧W.cell? ⟨(ad.add (j * 6)).block,(ad.add (j * 6)).off + 1,none⟩=some (.int .i64 b2)∧W.cell? ⟨(ad.add (j * 6)).block,(ad.add (j * 6)).off + 2,none⟩=some (.int .i64 b3)∧W.cell? ⟨(ad.add (j * 6)).block,(ad.add (j * 6)).off + 3,none⟩=some (.bool b4)∧W.cell? ⟨(ad.add (j * 6)).block,(ad.add (j * 6)).off + 4,none⟩=some (.int .i64 b5)∧W.cell? ⟨(ad.add (j * 6)).block,(ad.add (j * 6)).off + 5,none⟩=some (.int .i64 b6)) (go_keep) (fail)
 all_goals go_wp2_with fail
 all_goals clear n1 n2 n3 n4 n5 n6 n7 n8 n9 n10 n11 n12 x1 x2 x3 x4 x5 x6 y1 y2 y3 y4 y5 y6
 ·have bF:Blk (((w.alloc (.cells #[.int .i64 a1,.int .i64 a2,.int .i64 a3,.bool a4,.int .i64 a5,.int .i64 a6] 39)).alloc (.cells #[.int .i64 b1,.int .i64 b2,.int .i64 b3,.bool b4,.int .i64 b5,.int .i64 b6] 39)).drew) w.heap.size 39 #[.int .i64 a1,.int .i64 a2,.int .i64 a3,.bool a4,.int .i64 a5,.int .i64 a6]:=((Blk.new w 39 _).alloc _).drew
  have bL:Blk (((w.alloc (.cells #[.int .i64 a1,.int .i64 a2,.int .i64 a3,.bool a4,.int .i64 a5,.int .i64 a6] 39)).alloc (.cells #[.int .i64 b1,.int .i64 b2,.int .i64 b3,.bool b4,.int .i64 b5,.int .i64 b6] 39)).drew) (w.heap.size + 1) 39 #[.int .i64 b1,.int .i64 b2,.int .i64 b3,.bool b4,.int .i64 b5,.int .i64 b6]:=by have:=Blk.new (w.alloc (.cells #[.int .i64 a1,.int .i64 a2,.int .i64 a3,.bool a4,.int .i64 a5,.int .i64 a6] 39)) 39 #[.int .i64 b1,.int .i64 b2,.int .i64 b3,.bool b4,.int .i64 b5,.int .i64 b6]; rw [show (w.alloc (.cells #[.int .i64 a1,.int .i64 a2,.int .i64 a3,.bool a4,.int .i64 a5,.int .i64 a6] 39)).heap.size=w.heap.size + 1 by simp] at this; exact this.drew
  have hz:(((w.alloc (.cells #[.int .i64 a1,.int .i64 a2,.int .i64 a3,.bool a4,.int .i64 a5,.int .i64 a6] 39)).alloc (.cells #[.int .i64 b1,.int .i64 b2,.int .i64 b3,.bool b4,.int .i64 b5,.int .i64 b6] 39)).drew).heap.size=w.heap.size + 2:=by simp
  have v0:Upd [] (((w.alloc (.cells #[.int .i64 a1,.int .i64 a2,.int .i64 a3,.bool a4,.int .i64 a5,.int .i64 a6] 39)).alloc (.cells #[.int .i64 b1,.int .i64 b2,.int .i64 b3,.bool b4,.int .i64 b5,.int .i64 b6] 39)).drew) (((w.alloc (.cells #[.int .i64 a1,.int .i64 a2,.int .i64 a3,.bool a4,.int .i64 a5,.int .i64 a6] 39)).alloc (.cells #[.int .i64 b1,.int .i64 b2,.int .i64 b3,.bool b4,.int .i64 b5,.int .i64 b6] 39)).drew).drew:=(Upd.refl [] _).drew
  have vv:Upd [] w (((w.alloc (.cells #[.int .i64 a1,.int .i64 a2,.int .i64 a3,.bool a4,.int .i64 a5,.int .i64 a6] 39)).alloc (.cells #[.int .i64 b1,.int .i64 b2,.int .i64 b3,.bool b4,.int .i64 b5,.int .i64 b6] 39)).drew):=(((Upd.refl [] _).alloc _).alloc _).drew
  have kp:∀ W,Upd [] (((w.alloc (.cells #[.int .i64 a1,.int .i64 a2,.int .i64 a3,.bool a4,.int .i64 a5,.int .i64 a6] 39)).alloc (.cells #[.int .i64 b1,.int .i64 b2,.int .i64 b3,.bool b4,.int .i64 b5,.int .i64 b6] 39)).drew) W→W.cell? ⟨w.heap.size,0,none⟩=some (.int .i64 a1)∧W.cell? ⟨w.heap.size,1,none⟩=some (.int .i64 a2)∧W.cell? ⟨w.heap.size,2,none⟩=some (.int .i64 a3)∧W.cell? ⟨w.heap.size,3,none⟩=some (.bool a4)∧W.cell? ⟨w.heap.size,4,none⟩=some (.int .i64 a5)∧W.cell? ⟨w.heap.size,5,none⟩=some (.int .i64 a6)∧W.cell? ⟨w.heap.size + 1,0,none⟩=some (.int .i64 b1)∧W.cell? ⟨w.heap.size + 1,1,none⟩=some (.int .i64 b2)∧W.cell? ⟨w.heap.size + 1,2,none⟩=some (.int .i64 b3)∧W.cell? ⟨w.heap.size + 1,3,none⟩=some (.bool b4)∧W.cell? ⟨w.heap.size + 1,4,none⟩=some (.int .i64 b5)∧W.cell? ⟨w.heap.size + 1,5,none⟩=some (.int .i64 b6):=by
   intro W hu
   have b1:=bF.upd hu (by simp)
   have b2:=bL.upd hu (by simp)
   refine ⟨b1.cell _,b1.cell _,b1.cell _,b1.cell _,b1.cell _,b1.cell _,b2.cell _,b2.cell _,b2.cell _,b2.cell _,b2.cell _,b2.cell _⟩
  have KP:=Zh kp
  have VV:=Zh vv
  clear kp bF bL vv
  generalize (((w.alloc (.cells #[.int .i64 a1,.int .i64 a2,.int .i64 a3,.bool a4,.int .i64 a5,.int .i64 a6] 39)).alloc (.cells #[.int .i64 b1,.int .i64 b2,.int .i64 b3,.bool b4,.int .i64 b5,.int .i64 b6] 39)).drew)=W0 at *
  go_region_held3 (fun W => W.cell? ⟨w.heap.size,0,none⟩=some (.int .i64 a1)∧W.cell? ⟨w.heap.size,1,none⟩=some (.int .i64 a2)∧W.cell? ⟨w.heap.size,2,none⟩=some (.int .i64 a3)∧W.cell? ⟨w.heap.size,3,none⟩=some (.bool a4)∧W.cell? ⟨w.heap.size,4,none⟩=some (.int .i64 a5)∧W.cell? ⟨w.heap.size,5,none⟩=some (.int .i64 a6)∧W.cell? ⟨w.heap.size + 1,0,none⟩=some (.int .i64 b1)∧W.cell? ⟨w.heap.size + 1,1,none⟩=some (.int .i64 b2)∧W.cell? ⟨w.heap.size + 1,2,none⟩=some (.int .i64 b3)∧W.cell? ⟨w.heap.size + 1,3,none⟩=some (.bool b4)∧W.cell? ⟨w.heap.size + 1,4,none⟩=some (.int .i64 b5)∧W.cell? ⟨w.heap.size + 1,5,none⟩=some (.int .i64 b6)) (first | exact KP.out _ (v2.alloc _) | exact KP.out _ v2 | exact KP.out _ v1 | exact KP.out _ v0)
   (first | (go_at_call 81; refine (compare_ok _ _ _).mono ?_; rintro e w' ⟨rfl,rfl⟩) | (go_at_call 82; refine (rank_ok _ _ _ _ _ _ _).mono ?_; rintro e p1 ⟨rfl,u1⟩; first | have v2:=v1.trans u1 | have v1:=v0.trans u1) | (go_at_call 80; refine (or_ok _ 4 [cmpI a3 b3,cmpI (rk a4) (rk b4),cmpI a6 b6,cmpI i j] _ (Blk.new _ _ _) (by simp)).mono ?_; rintro e w' ⟨rfl,rfl⟩))
  go_wp2_with fail
  go_ret
  exact ⟨rfl,VV.out.trans (v2.alloc _)⟩
 ·have bF:Blk (((w.alloc (.cells #[.int .i64 b1,.int .i64 b2,.int .i64 b3,.bool b4,.int .i64 b5,.int .i64 b6] 39)).alloc (.cells #[.int .i64 a1,.int .i64 a2,.int .i64 a3,.bool a4,.int .i64 a5,.int .i64 a6] 39)).drew) w.heap.size 39 #[.int .i64 b1,.int .i64 b2,.int .i64 b3,.bool b4,.int .i64 b5,.int .i64 b6]:=((Blk.new w 39 _).alloc _).drew
  have bL:Blk (((w.alloc (.cells #[.int .i64 b1,.int .i64 b2,.int .i64 b3,.bool b4,.int .i64 b5,.int .i64 b6] 39)).alloc (.cells #[.int .i64 a1,.int .i64 a2,.int .i64 a3,.bool a4,.int .i64 a5,.int .i64 a6] 39)).drew) (w.heap.size + 1) 39 #[.int .i64 a1,.int .i64 a2,.int .i64 a3,.bool a4,.int .i64 a5,.int .i64 a6]:=by have:=Blk.new (w.alloc (.cells #[.int .i64 b1,.int .i64 b2,.int .i64 b3,.bool b4,.int .i64 b5,.int .i64 b6] 39)) 39 #[.int .i64 a1,.int .i64 a2,.int .i64 a3,.bool a4,.int .i64 a5,.int .i64 a6]; rw [show (w.alloc (.cells #[.int .i64 b1,.int .i64 b2,.int .i64 b3,.bool b4,.int .i64 b5,.int .i64 b6] 39)).heap.size=w.heap.size + 1 by simp] at this; exact this.drew
  have hz:(((w.alloc (.cells #[.int .i64 b1,.int .i64 b2,.int .i64 b3,.bool b4,.int .i64 b5,.int .i64 b6] 39)).alloc (.cells #[.int .i64 a1,.int .i64 a2,.int .i64 a3,.bool a4,.int .i64 a5,.int .i64 a6] 39)).drew).heap.size=w.heap.size + 2:=by simp
  have v0:Upd [] (((w.alloc (.cells #[.int .i64 b1,.int .i64 b2,.int .i64 b3,.bool b4,.int .i64 b5,.int .i64 b6] 39)).alloc (.cells #[.int .i64 a1,.int .i64 a2,.int .i64 a3,.bool a4,.int .i64 a5,.int .i64 a6] 39)).drew) (((w.alloc (.cells #[.int .i64 b1,.int .i64 b2,.int .i64 b3,.bool b4,.int .i64 b5,.int .i64 b6] 39)).alloc (.cells #[.int .i64 a1,.int .i64 a2,.int .i64 a3,.bool a4,.int .i64 a5,.int .i64 a6] 39)).drew).drew:=(Upd.refl [] _).drew
  have vv:Upd [] w (((w.alloc (.cells #[.int .i64 b1,.int .i64 b2,.int .i64 b3,.bool b4,.int .i64 b5,.int .i64 b6] 39)).alloc (.cells #[.int .i64 a1,.int .i64 a2,.int .i64 a3,.bool a4,.int .i64 a5,.int .i64 a6] 39)).drew):=(((Upd.refl [] _).alloc _).alloc _).drew
  have kp:∀ W,Upd [] (((w.alloc (.cells #[.int .i64 b1,.int .i64 b2,.int .i64 b3,.bool b4,.int .i64 b5,.int .i64 b6] 39)).alloc (.cells #[.int .i64 a1,.int .i64 a2,.int .i64 a3,.bool a4,.int .i64 a5,.int .i64 a6] 39)).drew) W→W.cell? ⟨w.heap.size,0,none⟩=some (.int .i64 b1)∧W.cell? ⟨w.heap.size,1,none⟩=some (.int .i64 b2)∧W.cell? ⟨w.heap.size,2,none⟩=some (.int .i64 b3)∧W.cell? ⟨w.heap.size,3,none⟩=some (.bool b4)∧W.cell? ⟨w.heap.size,4,none⟩=some (.int .i64 b5)∧W.cell? ⟨w.heap.size,5,none⟩=some (.int .i64 b6)∧W.cell? ⟨w.heap.size + 1,0,none⟩=some (.int .i64 a1)∧W.cell? ⟨w.heap.size + 1,1,none⟩=some (.int .i64 a2)∧W.cell? ⟨w.heap.size + 1,2,none⟩=some (.int .i64 a3)∧W.cell? ⟨w.heap.size + 1,3,none⟩=some (.bool a4)∧W.cell? ⟨w.heap.size + 1,4,none⟩=some (.int .i64 a5)∧W.cell? ⟨w.heap.size + 1,5,none⟩=some (.int .i64 a6):=by
   intro W hu
   have b1:=bF.upd hu (by simp)
   have b2:=bL.upd hu (by simp)
   refine ⟨b1.cell _,b1.cell _,b1.cell _,b1.cell _,b1.cell _,b1.cell _,b2.cell _,b2.cell _,b2.cell _,b2.cell _,b2.cell _,b2.cell _⟩
  have KP:=Zh kp
  have VV:=Zh vv
  clear kp bF bL vv
  generalize (((w.alloc (.cells #[.int .i64 b1,.int .i64 b2,.int .i64 b3,.bool b4,.int .i64 b5,.int .i64 b6] 39)).alloc (.cells #[.int .i64 a1,.int .i64 a2,.int .i64 a3,.bool a4,.int .i64 a5,.int .i64 a6] 39)).drew)=W0 at *
  go_region_held3 (fun W => W.cell? ⟨w.heap.size,0,none⟩=some (.int .i64 b1)∧W.cell? ⟨w.heap.size,1,none⟩=some (.int .i64 b2)∧W.cell? ⟨w.heap.size,2,none⟩=some (.int .i64 b3)∧W.cell? ⟨w.heap.size,3,none⟩=some (.bool b4)∧W.cell? ⟨w.heap.size,4,none⟩=some (.int .i64 b5)∧W.cell? ⟨w.heap.size,5,none⟩=some (.int .i64 b6)∧W.cell? ⟨w.heap.size + 1,0,none⟩=some (.int .i64 a1)∧W.cell? ⟨w.heap.size + 1,1,none⟩=some (.int .i64 a2)∧W.cell? ⟨w.heap.size + 1,2,none⟩=some (.int .i64 a3)∧W.cell? ⟨w.heap.size + 1,3,none⟩=some (.bool a4)∧W.cell? ⟨w.heap.size + 1,4,none⟩=some (.int .i64 a5)∧W.cell? ⟨w.heap.size + 1,5,none⟩=some (.int .i64 a6)) (first | exact KP.out _ (v2.alloc _) | exact KP.out _ v2 | exact KP.out _ v1 | exact KP.out _ v0)
   (first | (go_at_call 81; refine (compare_ok _ _ _).mono ?_; rintro e w' ⟨rfl,rfl⟩) | (go_at_call 82; refine (rank_ok _ _ _ _ _ _ _).mono ?_; rintro e p1 ⟨rfl,u1⟩; first | have v2:=v1.trans u1 | have v1:=v0.trans u1) | (go_at_call 80; refine (or_ok _ 4 [cmpI a3 b3,cmpI (rk a4) (rk b4),cmpI a6 b6,cmpI i j] _ (Blk.new _ _ _) (by simp)).mono ?_; rintro e w' ⟨rfl,rfl⟩))
  go_wp2_with fail
  go_ret
  exact ⟨rfl,VV.out.trans (v2.alloc _)⟩
end Go.Proofs.YtmjnmpifibemjaaGreatDoor
namespace Go.Proofs.YtmjnmpifibemjaaGreatDoor
open Go.RowKit
structure Att where
 th:Int
 ix:Int
 st:Int
 wr:Bool
 be:Int
 en:Int
deriving Inhabited
def Atts (w:World) (A:Option Addr) (L:List Att):Prop:=∀ k v,L[k]?=some v→∃ ad,A=some ad∧w.cell? (ad.add (k * 6))=some (.int .i64 v.th)∧w.cell? ⟨(ad.add (k * 6)).block,(ad.add (k * 6)).off + 1,none⟩=some (.int .i64 v.ix) ∧
 w.cell? ⟨(ad.add (k * 6)).block,(ad.add (k * 6)).off + 2,none⟩=some (.int .i64 v.st)∧w.cell? ⟨(ad.add (k * 6)).block,(ad.add (k * 6)).off + 3,none⟩=some (.bool v.wr) ∧
 w.cell? ⟨(ad.add (k * 6)).block,(ad.add (k * 6)).off + 4,none⟩=some (.int .i64 v.be)∧w.cell? ⟨(ad.add (k * 6)).block,(ad.add (k * 6)).off + 5,none⟩=some (.int .i64 v.en)∧(ad.add (k * 6)).block < w.heap.size
theorem upd_cell {w w':World} {p:Addr} (hu:Upd [] w w') (hp:p.block < w.heap.size):w'.cell? p=w.cell? p:=(Upd.below hu (Nat.le_refl _) (by simp)).cell hp
theorem Atts.upd {w w':World} {A:Option Addr} {L:List Att} (h:Atts w A L) (hu:Upd [] w w'):Atts w' A L:=by
 intro k v hk
 obtain ⟨ad,e,c1,c2,c3,c4,c5,c6,hl⟩:=h k v hk
 exact ⟨ad,e,(upd_cell hu hl).trans c1,(upd_cell hu (p:=⟨_,_,none⟩) hl).trans c2,(upd_cell hu (p:=⟨_,_,none⟩) hl).trans c3,(upd_cell hu (p:=⟨_,_,none⟩) hl).trans c4,
  (upd_cell hu (p:=⟨_,_,none⟩) hl).trans c5,(upd_cell hu (p:=⟨_,_,none⟩) hl).trans c6,Nat.lt_of_lt_of_le hl hu.size⟩
def ahd (L:List Att) (i j:Nat):Bool :=
 decide (orL [cmpI (L.getD i default).st (L.getD j default).st,cmpI (rk (L.getD i default).wr) (rk (L.getD j default).wr),cmpI (L.getD i default).en (L.getD j default).en,cmpI i j] < 0)
theorem ahead_at (A:Option Addr) (n c:Nat) (L:List Att) (w:World) (h:Atts w A L) (hn:L.length=n) (i j:Nat) (hi:i < n) (hj:j < n) :
 Calls Tryz.prog 53 #[.slice A n c,.int .i64 i,.int .i64 j] w fun e w' => e=.returned (.bool (ahd L i j))∧Upd [] w w':=by
 obtain ⟨ad,rfl,c1,c2,c3,c4,c5,c6,_⟩:=h i _ (List.getElem?_eq_getElem (by omega))
 obtain ⟨ad',e,d1,d2,d3,d4,d5,d6,_⟩:=h j _ (List.getElem?_eq_getElem (by omega))
 obtain rfl:=Option.some.inj e
 unfold ahd
 rw [List.getD_eq_getElem?_getD,List.getD_eq_getElem?_getD,List.getElem?_eq_getElem (show i < L.length by omega),List.getElem?_eq_getElem (show j < L.length by omega)]
 exact ahead_ok ad n c i j hi hj _ _ _ _ _ _ _ _ _ _ _ _ w c1 c2 c3 c4 c5 c6 d1 d2 d3 d4 d5 d6
end Go.Proofs.YtmjnmpifibemjaaGreatDoor
namespace Go.Proofs.YtmjnmpifibemjaaGreatDoor.HeapPlain
structure Ord {α:Type} (lt:α→α→Bool):Prop where
 asym:∀ a b,lt a b=true→lt b a=false
 tran:∀ a b c,lt b a=false→lt c b=false→lt c a=false
variable {α:Type} [Inhabited α]
def swp (xs:List α) (i j:Nat):List α:=(xs.set i (xs.getD j default)).set j (xs.getD i default)
theorem swp_length (xs:List α) (i j:Nat):(swp xs i j).length=xs.length:=by simp [swp]
theorem swp_getD (xs:List α) (i j k:Nat) (hi:i < xs.length) (hj:j < xs.length) :
 (swp xs i j).getD k default=if k=j then xs.getD i default else if k=i then xs.getD j default else xs.getD k default:=by
 unfold swp
 simp only [List.getD_eq_getElem?_getD,List.getElem?_set,List.length_set]
 by_cases h1:k=j
 ·subst h1; simp [hj]
 ·rw [if_neg (fun h => h1 h.symm),if_neg h1]
  by_cases h2:k=i
  ·subst h2; simp [hi]
  ·rw [if_neg (fun h => h2 h.symm),if_neg h2]
theorem swp_perm (xs:List α) (i j:Nat) (hi:i < xs.length) (hj:j < xs.length):(swp xs i j).Perm xs:=by
 unfold swp
 rw [List.getD_eq_getElem?_getD,List.getD_eq_getElem?_getD,List.getElem?_eq_getElem hi,List.getElem?_eq_getElem hj]
 exact List.set_set_perm hi hj
def Hp (lt:α→α→Bool) (n:Nat) (xs:List α):Prop:=∀ k,0 < k→k < n→lt (xs.getD k default) (xs.getD ((k - 1) / 2) default)=false
def Up (lt:α→α→Bool) (n:Nat) (xs:List α) (j:Nat):Prop :=
 (∀ k,0 < k→k < n→k≠j→lt (xs.getD k default) (xs.getD ((k - 1) / 2) default)=false) ∧
 (∀ k,0 < k→k < n→(k - 1) / 2=j→0 < j→lt (xs.getD k default) (xs.getD ((j - 1) / 2) default)=false)
def Dn (lt:α→α→Bool) (n:Nat) (xs:List α) (i:Nat):Prop :=
 (∀ k,0 < k→k < n→(k - 1) / 2≠i→lt (xs.getD k default) (xs.getD ((k - 1) / 2) default)=false) ∧
 (∀ k,0 < k→k < n→(k - 1) / 2=i→0 < i→lt (xs.getD k default) (xs.getD ((i - 1) / 2) default)=false)
theorem Up.stop {lt:α→α→Bool} {n:Nat} {xs:List α} {j:Nat} (h:Up lt n xs j) (hj:j=0∨lt (xs.getD j default) (xs.getD ((j - 1) / 2) default)=false):Hp lt n xs:=by
 intro k h0 hk
 by_cases e:k=j
 ·subst e
  rcases hj with hj | hj
  ·omega
  ·exact hj
 ·exact h.1 k h0 hk e
theorem Up.step {lt:α→α→Bool} (o:Ord lt) {n:Nat} {xs:List α} {j:Nat} (h:Up lt n xs j) (hn:n≤xs.length) (hj:j < n) (h0:0 < j)
 (hl:lt (xs.getD j default) (xs.getD ((j - 1) / 2) default)=true):Up lt n (swp xs ((j - 1) / 2) j) ((j - 1) / 2):=by
 have hi:(j - 1) / 2 < j:=by omega
 constructor
 ·intro k k0 kn ke
  rw [swp_getD _ _ _ _ (by omega) (by omega),swp_getD _ _ _ _ (by omega) (by omega)]
  by_cases e1:k=j
  ·subst e1
   rw [if_pos rfl,if_neg (by omega),if_pos rfl]
   exact o.asym _ _ hl
  ·rw [if_neg e1,if_neg ke]
   by_cases e2:(k - 1) / 2=j
   ·rw [if_pos e2]
    exact h.2 k k0 kn e2 h0
   ·rw [if_neg e2]
    by_cases e3:(k - 1) / 2=(j - 1) / 2
    ·rw [if_pos e3]
     have a1:=h.1 k k0 kn e1
     rw [e3] at a1
     exact o.tran _ _ _ (o.asym _ _ hl) a1
    ·rw [if_neg e3]
     exact h.1 k k0 kn e1
 ·intro k k0 kn ke i0
  rw [swp_getD _ _ _ _ (by omega) (by omega),swp_getD _ _ _ _ (by omega) (by omega)]
  have b1:¬ ((j - 1) / 2 - 1) / 2=j:=by omega
  have b2:¬ ((j - 1) / 2 - 1) / 2=(j - 1) / 2:=by omega
  rw [if_neg b1,if_neg b2]
  have p1:=h.1 ((j - 1) / 2) i0 (by omega) (by omega)
  by_cases e1:k=j
  ·subst e1
   rw [if_pos rfl]
   exact p1
  ·rw [if_neg e1,if_neg (by omega)]
   have a1:=h.1 k k0 kn e1
   rw [ke] at a1
   exact o.tran _ _ _ p1 a1
theorem Hp.up {lt:α→α→Bool} {xs:List α} (h:Hp lt xs.length xs) (x:α):Up lt (xs.length + 1) (xs ++ [x]) xs.length:=by
 have g:∀ k,k < xs.length→(xs ++ [x]).getD k default=xs.getD k default:=fun k hk => by
  simp only [List.getD_eq_getElem?_getD]
  rw [List.getElem?_append_left hk]
 constructor
 ·intro k k0 kn ke
  rw [g k (by omega),g _ (by omega)]
  exact h k k0 (by omega)
 ·intro k k0 kn ke
  omega
theorem Dn.stop {lt:α→α→Bool} {n:Nat} {xs:List α} {i:Nat} (h:Dn lt n xs i) (hc:∀ k,0 < k→k < n→(k - 1) / 2=i→lt (xs.getD k default) (xs.getD i default)=false):Hp lt n xs:=by
 intro k k0 kn
 by_cases e:(k - 1) / 2=i
 ·rw [e]; exact hc k k0 kn e
 ·exact h.1 k k0 kn e
def Ex (lt:α→α→Bool) (n:Nat) (xs:List α) (i:Nat):Prop :=
 (∀ k,0 < k→k < n→k≠i→(k - 1) / 2≠i→lt (xs.getD k default) (xs.getD ((k - 1) / 2) default)=false) ∧
 (∀ k,0 < k→k < n→(k - 1) / 2=i→0 < i→lt (xs.getD k default) (xs.getD ((i - 1) / 2) default)=false)
theorem Dn.ex {lt:α→α→Bool} {n:Nat} {xs:List α} {i:Nat} (h:Dn lt n xs i):Ex lt n xs i:=⟨fun k a b _ c => h.1 k a b c,h.2⟩
theorem Ex.up {lt:α→α→Bool} {n:Nat} {xs:List α} {i:Nat} (h:Ex lt n xs i) (hc:∀ k,0 < k→k < n→(k - 1) / 2=i→lt (xs.getD k default) (xs.getD i default)=false):Up lt n xs i:=by
 refine ⟨fun k k0 kn ke => ?_,h.2⟩
 by_cases e:(k - 1) / 2=i
 ·rw [e]; exact hc k k0 kn e
 ·exact h.1 k k0 kn ke e
theorem Ex.step {lt:α→α→Bool} (o:Ord lt) {n:Nat} {xs:List α} {i j:Nat} (h:Ex lt n xs i) (hn:n≤xs.length) (hj:j < n) (h0:0 < j) (hp:(j - 1) / 2=i)
 (hl:lt (xs.getD j default) (xs.getD i default)=true) (hc:∀ k,0 < k→k < n→(k - 1) / 2=i→lt (xs.getD k default) (xs.getD j default)=false):Dn lt n (swp xs i j) j:=by
 have hi:i < j:=by omega
 constructor
 ·intro k k0 kn ke
  rw [swp_getD _ _ _ _ (by omega) (by omega),swp_getD _ _ _ _ (by omega) (by omega)]
  rw [if_neg ke]
  by_cases e1:k=j
  ·subst e1
   rw [if_pos rfl,if_pos hp]
   exact o.asym _ _ hl
  ·rw [if_neg e1]
   by_cases e2:k=i
   ·subst e2
    rw [if_pos rfl,if_neg (by omega)]
    exact h.2 j h0 hj hp k0
   ·rw [if_neg e2]
    by_cases e3:(k - 1) / 2=i
    ·rw [if_pos e3]
     exact hc k k0 kn e3
    ·rw [if_neg e3]
     exact h.1 k k0 kn e2 e3
 ·intro k k0 kn ke j0
  rw [swp_getD _ _ _ _ (by omega) (by omega),swp_getD _ _ _ _ (by omega) (by omega)]
  rw [if_neg (by omega),if_neg (by omega),if_neg (by omega),if_pos hp]
  have a1:=h.1 k k0 kn (by omega) (by omega)
  rw [ke] at a1
  exact a1
theorem Hp.dn {lt:α→α→Bool} {n:Nat} {xs:List α} (h:Hp lt (n + 1) xs) (hl:xs.length=n + 1):Dn lt n (swp xs 0 n) 0:=by
 constructor
 ·intro k k0 kn ke
  rw [swp_getD _ _ _ _ (by omega) (by omega),swp_getD _ _ _ _ (by omega) (by omega)]
  rw [if_neg (by omega),if_neg (by omega),if_neg (by omega),if_neg ke]
  exact h k k0 (by omega)
 ·intro k k0 kn ke h0
  omega
theorem Hp.least {lt:α→α→Bool} (o:Ord lt) (hir:∀ a,lt a a=false) {n:Nat} {xs:List α} (h:Hp lt n xs):∀ k,k < n→lt (xs.getD k default) (xs.getD 0 default)=false:=by
 intro k
 induction k using Nat.strongRecOn with
 | _ k ih =>
   intro hk
   by_cases h0:k=0
   ·subst h0; exact hir _
   ·exact o.tran _ _ _ (ih ((k - 1) / 2) (by omega) (by omega)) (h k (by omega) hk)
theorem Hp.mono {lt:α→α→Bool} {n m:Nat} {xs:List α} (h:Hp lt n xs) (hm:m≤n):Hp lt m xs:=fun k k0 kn => h k k0 (Nat.lt_of_lt_of_le kn hm)
theorem Hp.take {lt:α→α→Bool} {n:Nat} {xs:List α} (h:Hp lt n xs):Hp lt n (xs.take n):=by
 intro k k0 kn
 have g:∀ j,j < n→(xs.take n).getD j default=xs.getD j default:=fun j hj => by
  simp only [List.getD_eq_getElem?_getD]
  rw [List.getElem?_take,if_pos hj]
 rw [g k kn,g _ (by omega)]
 exact h k k0 kn
end Go.Proofs.YtmjnmpifibemjaaGreatDoor.HeapPlain

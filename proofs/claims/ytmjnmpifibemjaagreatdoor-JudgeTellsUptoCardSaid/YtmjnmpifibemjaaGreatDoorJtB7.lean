/-
 Transactions that ended, counted, plainly.
-/
import Derived.Test.YtmjnmpifibemjaaGreatDoorJtB0
import Derived.Test.YtmjnmpifibemjaaGreatDoorJtB4
import Derived.Test.YtmjnmpifibemjaaGreatDoorProg
import Derived.IntWalk
import Derived.Test.YtmjnmpifibemjaaGreatDoorJtB6
import Derived.BigQuiet
import Derived.Deep.QuietTactic
set_option linter.unusedVariables false
set_option linter.unusedSimpArgs false
set_option maxRecDepth 100000
set_option maxHeartbeats 16000000
namespace Go.Proofs.YtmjnmpifibemjaaGreatDoor.St
open Go Go.RowKit
structure En where
 th:Int
 ix:Int
 st:Int
 wr:Bool
 be:Int
 en:Int
 kd:Int
 er:Int
 ta:Option Addr
 tn:Nat
 tc:Nat
structure Tal where
 dn:Int
 wo:Int
 ab:Int
 bl:Int
 cp:Int
 fl:Int
 tm:Int
 lg:Int
def zero:Tal:=⟨0,0,0,0,0,0,0,0⟩
def isI (b:Bool):Int:=if b then 1 else 0
def one (x:En):Tal:=⟨isI (x.kd == 1),isI (x.kd == 1 && x.wr),isI (x.kd == 2),isI (x.kd == 3),isI (x.kd == 4),isI (!(x.kd == 1 || x.kd == 2 || x.kd == 3 || x.kd == 4)),x.en - x.be,x.en - x.be⟩
def EB (x:En):Prop:=-1000000≤x.be∧x.be≤1000000∧-1000000≤x.en∧x.en≤1000000
end Go.Proofs.YtmjnmpifibemjaaGreatDoor.St
namespace Go.Proofs.YtmjnmpifibemjaaGreatDoor
open Go.RowKit
structure Enc (α:Type) where
 c:α→List Value
 s:Nat
 len:∀ a,(c a).length=s
 one:∀ a,∀ u ∈ c a,u.oneCell'=true
 pos:0 < s
def flat {α:Type} (E:Enc α) (L:List α):List Value:=L.flatMap E.c
section
variable {α:Type} {E:Enc α} {L M:List α} {a:α} {k j:Nat}
theorem flat_cons:flat E (a :: L)=E.c a ++ flat E L:=by unfold flat; rw [List.flatMap_cons]
theorem flat_append:flat E (L ++ M)=flat E L ++ flat E M:=by unfold flat; rw [List.flatMap_append]
theorem flat_one_:flat E [a]=E.c a:=by unfold flat; simp
theorem flat_len:(flat E L).length=L.length * E.s:=by
 induction L with
 | nil => simp [flat]
 | cons a L ih => rw [flat_cons,List.length_append,ih,E.len,List.length_cons,Nat.add_mul]; omega
theorem flat_cells:∀ u ∈ flat E L,u.oneCell'=true:=by
 intro u hu
 obtain ⟨a,_,h⟩:=List.mem_flatMap.1 hu
 exact E.one a u h
theorem flat_get (h:L[k]?=some a) (hj:j < E.s):(flat E L)[k * E.s + j]?=(E.c a)[j]?:=by
 induction L generalizing k with
 | nil => simp at h
 | cons b L ih =>
   rw [flat_cons]
   cases k with
   | zero =>
     simp at h
     subst h
     rw [Nat.zero_mul,Nat.zero_add,List.getElem?_append_left (by rw [E.len]; exact hj)]
   | succ k =>
     rw [List.getElem?_append_right (by rw [E.len,Nat.add_mul]; omega),E.len,show (k + 1) * E.s + j - E.s=k * E.s + j by rw [Nat.add_mul]; omega]
     exact ih (by simpa using h)
theorem flat_take (k:Nat):flat E (L.take k)=(flat E L).take (k * E.s):=by
 induction L generalizing k with
 | nil => simp [flat]
 | cons a L ih =>
   cases k with
   | zero => simp [flat]
   | succ k =>
     rw [List.take_succ_cons,flat_cons,flat_cons,ih,List.take_append,E.len,List.take_of_length_le (l:=E.c a) (by rw [E.len,Nat.add_mul]; omega),show (k + 1) * E.s - E.s=k * E.s by rw [Nat.add_mul]; omega]
theorem flat_drop (k:Nat):flat E (L.drop k)=(flat E L).drop (k * E.s):=by
 induction L generalizing k with
 | nil => simp [flat]
 | cons a L ih =>
   cases k with
   | zero => simp [flat]
   | succ k =>
     have h0:(E.c a).drop ((k + 1) * E.s)=[]:=List.drop_eq_nil_of_le (by rw [E.len,Nat.add_mul]; omega)
     rw [List.drop_succ_cons,flat_cons,ih,List.drop_append,E.len,h0,show (k + 1) * E.s - E.s=k * E.s by rw [Nat.add_mul]; omega]
     rfl
end
def Rd {α:Type} (E:Enc α) (w:World) (v:Value) (L:List α):Prop:=Src w E.s v L.length (flat E L)
def Ow {α:Type} (E:Enc α) (e:TypeId) (w:World) (B:Nat) (v:Value) (L:List α):Prop:=w.ownsRow B e E.s v L.length (flat E L)
section
variable {α:Type} {E:Enc α} {L M:List α} {a:α} {k j B:Nat} {e:TypeId} {w w':World} {v:Value} {S:List Nat}
theorem Rd.nil (E:Enc α) (w:World) (c:Nat):Rd E w (.slice none 0 c) []:=⟨by simp [flat],none,c,rfl,by simp [flat]⟩
theorem Ow.nil (E:Enc α) (e:TypeId) (w:World) (B:Nat):Ow E e w B (.slice none 0 0) []:=own_nil _ _ _ _
theorem Ow.rd (h:Ow E e w B v L):Rd E w v L:=Src.of_own h
theorem Rd.upd (h:Rd E w v L) (hu:Upd S w w') (hS:∀ b,v.ownBlock=some b→b ∉ S):Rd E w' v L:=Src.upd h hu hS
theorem Rd.upd0 (h:Rd E w v L) (hu:Upd [] w w'):Rd E w' v L:=Src.upd0 h hu
theorem Ow.upd (h:Ow E e w B v L) (hu:Upd S w w') (hS:∀ b,v.ownBlock=some b→b ∉ S):Ow E e w' B v L:=own_upd h hu hS
theorem Ow.upd0 (h:Ow E e w B v L) (hu:Upd [] w w'):Ow E e w' B v L:=own_upd0 h hu
theorem Rd.form (h:Rd E w v L):∃ A c,v=.slice A L.length c:=by
 obtain ⟨_,A,c,e,_⟩:=h
 exact ⟨A,c,e⟩
theorem Ow.form (h:Ow E e w B v L):∃ A c,v=.slice A L.length c∧L.length≤c∧c≤maxLen:=own_slice h
theorem Rd.at_ {A:Option Addr} {n c:Nat} (h:Rd E w (.slice A n c) L) (hk:L[k]?=some a):∃ ad:Addr,A=some ad∧ad.block < w.heap.size∧∀ j u,(E.c a)[j]?=some u→w.cell? (ad.add (k * E.s + j))=some u:=by
 obtain ⟨h1,A',c',he,h2⟩:=h
 injection he with hA _ _
 subst hA
 have h0:=E.pos
 have hl:=E.len a
 obtain ⟨u,hu⟩:∃ u,(E.c a)[0]?=some u:=⟨_,List.getElem?_eq_getElem (by omega)⟩
 obtain ⟨ad,rfl,hb,_⟩:=h2 (k * E.s + 0) u ((flat_get hk h0).trans hu)
 refine ⟨ad,rfl,hb,fun j u hj => ?_⟩
 have hjl:j < E.s:=by have:=(List.getElem?_eq_some_iff.1 hj).1; omega
 obtain ⟨ad',e,_,hc⟩:=h2 (k * E.s + j) u ((flat_get hk hjl).trans hj)
 cases e
 exact hc
theorem Ow.at_ {g n c:Nat} (h:Ow E e w B (.slice (some ⟨g,0,none⟩) n c) L) (hk:L[k]?=some a):∀ j u,(E.c a)[j]?=some u→w.cell? ⟨g,k * E.s + j,none⟩=some u:=by
 intro j u hj
 have hjl:j < E.s:=by have:=(List.getElem?_eq_some_iff.1 hj).1; rw [E.len] at this; exact this
 have hn:n=L.length:=by
  obtain ⟨A,c',he,_⟩:=own_slice h
  injection he
 subst hn
 exact own_cell h _ u ((flat_get hk hjl).trans hj)
theorem Rd.take {A:Option Addr} {n c:Nat} (h:Rd E w (.slice A n c) L) (k:Nat) (hk:k≤L.length) (c':Nat):Rd E w (.slice A k c') (L.take k):=by
 have hn:n=L.length:=by
  obtain ⟨_,A',c2,he,_⟩:=h
  injection he
 subst hn
 unfold Rd
 rw [flat_take,List.length_take,Nat.min_eq_left hk]
 exact Src.take h k hk c'
theorem Rd.drop {A:Option Addr} {n c:Nat} (h:Rd E w (.slice A n c) L) (k:Nat) (hk:k≤L.length) (hc:n≤c) (c':Nat):Rd E w (.slice (if c=k then A else A.map (·.add (k * E.s))) (n - k) c') (L.drop k):=by
 have hn:n=L.length:=by
  obtain ⟨_,A',c2,he,_⟩:=h
  injection he
 subst hn
 unfold Rd
 rw [flat_drop,List.length_drop]
 exact Src.drop h k hk hc c'
end
structure Frm (F F':List Nat) (w w':World):Prop where
 upd:Upd F w w'
 sub:∀ k ∈ F',k ∈ F∨w.heap.size≤k
def Disj (F G:List Nat):Prop:=∀ k ∈ F,k ∉ G
section
variable {F F' F'' G:List Nat} {w w' w0 w1:World} {B:Nat}
theorem Frm.refl (F:List Nat) (w:World):Frm F F w w:=⟨.refl _ _,fun _ h => .inl h⟩
theorem Frm.trans (h:Frm F F' w w1) (h':Frm F' F'' w1 w'):Frm F F'' w w' :=
 ⟨h.upd.trans' h'.upd h.sub,fun k hk => (h'.sub k hk).elim (h.sub k) (fun g => .inr (Nat.le_trans h.upd.size g))⟩
theorem Frm.of0 (h:Upd [] w w'):Frm F F w w':=⟨h.mono (by simp),fun _ h => .inl h⟩
theorem Frm.pre (h0:Upd [] w0 w) (h:Frm F F' w w'):Frm F F' w0 w':=(Frm.of0 h0).trans h
theorem Frm.post (h:Frm F F' w w') (h0:Upd [] w' w1):Frm F F' w w1:=h.trans (.of0 h0)
theorem Disj.symm (h:Disj F G):Disj G F:=fun k hk hf => h k hf hk
theorem Frm.base (h:Frm F F' w w') (hB:∀ k ∈ F,B≤k) (hw:B≤w.heap.size):∀ k ∈ F',B≤k:=fun k hk => (h.sub k hk).elim (hB k) (fun hs => Nat.le_trans hw hs)
theorem Frm.rest (h:Frm F F' w w') (h0:Upd [] w0 w) (hF:∀ k ∈ F,w0.heap.size≤k):Upd [] w0 w':=h0.trans' h.upd (fun k hk => .inr (hF k hk))
theorem Upd.rest (h:Upd F w w') (h0:Upd [] w0 w) (hF:∀ k ∈ F,w0.heap.size≤k):Upd [] w0 w':=h0.trans' h (fun k hk => .inr (hF k hk))
end
end Go.Proofs.YtmjnmpifibemjaaGreatDoor
namespace Go.Proofs.YtmjnmpifibemjaaGreatDoor
open Go.RowKit Go.Deep Go.WideShapes Go.ChangeShapes
def ReadsAs {α:Type} (P:Program) (t:TypeId) (E:Enc α) (good:α→Prop):Prop :=
 P.cellsOf t=E.s∧∀ {H:Type} {enc:TypeId × Value→H} {w:World} {base:Nat} {spare:Nat→Bool} {held:Bool} {fuel:Nat} {cs:List Value} {x:DataW H × List MemPlace},
  DataW.trod enc P w base spare held fuel t cs=some x→∃ a,cs=E.c a∧good a
theorem pick_list {α:Type} {Q:Nat→α→Prop}:∀ n,(∀ i,i < n→∃ a,Q i a)→∃ L:List α,L.length=n∧∀ i a,L[i]?=some a→Q i a
 | 0,_ => ⟨[],rfl,by simp⟩
 | n + 1,h => by
   obtain ⟨L,hl,hL⟩:=pick_list n (fun i hi => h i (by omega))
   obtain ⟨a,ha⟩:=h n (by omega)
   refine ⟨L ++ [a],by simp [hl],fun i b hb => ?_⟩
   rw [List.getElem?_append] at hb
   split at hb
   ·exact hL i b hb
   ·rename_i hi
    have hi':i=n:=by
     have:=(List.getElem?_eq_some_iff.1 hb).1
     simp at this
     omega
    subst hi'
    simp [hl] at hb
    subst hb
    exact ha
section
variable {H:Type} {enc:TypeId × Value→H} {P:Program} {w:World} {base:Nat} {spare:Nat→Bool} {held:Bool}
end
def encI (q:IntKind):Enc Int:=⟨fun a => [.int q a],1,fun _ => rfl,by intro a u hu; simp at hu; subst hu; rfl,by omega⟩
def encII (q q':IntKind):Enc (Int × Int):=⟨fun p => [.int q p.1,.int q' p.2],2,fun _ => rfl,by intro a u hu; simp at hu; rcases hu with rfl | rfl <;> rfl,by omega⟩
def inK (q:IntKind) (a:Int):Prop:=(Lit.int q a).wf=true
end Go.Proofs.YtmjnmpifibemjaaGreatDoor
namespace Go.Proofs.YtmjnmpifibemjaaGreatDoor
open Go.RowKit Go.Deep Go.WideShapes Go.ChangeShapes St
def enCells (x:En):List Value:=[.int .i64 x.th,.int .i64 x.ix,.int .i64 x.st,.bool x.wr,.int .i64 x.be,.int .i64 x.en,.int .i64 x.kd,.slice x.ta x.tn x.tc,.int .i64 x.er]
def encE:Enc En:=⟨enCells,9,fun _ => rfl,by intro a u hu; simp [enCells] at hu; rcases hu with rfl | rfl | rfl | rfl | rfl | rfl | rfl | rfl | rfl <;> rfl,by omega⟩
theorem list9e {α:Type} {l:List α} (h:l.length=9):∃ a0 a1 a2 a3 a4 a5 a6 a7 a8,l=[a0,a1,a2,a3,a4,a5,a6,a7,a8]:=by
 match l,h with
 | [a0,a1,a2,a3,a4,a5,a6,a7,a8],_ => exact ⟨a0,a1,a2,a3,a4,a5,a6,a7,a8,rfl⟩
theorem reads_en:ReadsAs Tryz.prog 42 encE (fun x => inK .i64 x.th) :=
 ⟨by kernel_rfl,fun {H enc w base spare held fuel cs x} h => by
   have c9:Tryz.prog.cellsOf 42=9:=by kernel_rfl
   have c6:Tryz.prog.cellsOf 39=6:=by kernel_rfl
   have c1:Tryz.prog.cellsOf 3=1:=by kernel_rfl
   have cb:Tryz.prog.cellsOf 4=1:=by kernel_rfl
   have cs1:Tryz.prog.cellsOf 22=1:=by kernel_rfl
   have ce:Tryz.prog.cellsOf 40=1:=by kernel_rfl
   obtain ⟨xs,n,_,_,hl,hxl,hf⟩:=DataW.trod_struct Tryz.underlying42 h
   rw [c9] at hl
   obtain ⟨v0,v1,v2,v3,v4,v5,v6,v7,v8,rfl⟩:=list9e hl
   have hx:∀ j (hj:j < 4),xs[j]?=some (xs[j]'(by rw [hxl]; exact hj)):=fun j hj => List.getElem?_eq_getElem _
   have t0:=hf 0 _ rfl
   have t1:=hf 1 _ rfl
   have t2:=hf 2 _ rfl
   have t3:=hf 3 _ rfl
   simp only [List.getElem_toArray,List.getElem_cons_zero,List.getElem_cons_succ,c1,c6,cs1,ce,List.drop_zero,List.drop_succ_cons,List.take_succ_cons,List.take_zero,List.drop_nil,List.take_nil] at t0 t1 t2 t3
   rw [hx 0 (by omega)] at t0
   rw [hx 1 (by omega)] at t1
   rw [hx 2 (by omega)] at t2
   rw [hx 3 (by omega)] at t3
   obtain ⟨ys,m,_,_,yl,hyl,yf⟩:=DataW.trod_struct Tryz.underlying39 t0
   have hy:∀ j (hj:j < 6),ys[j]?=some (ys[j]'(by rw [hyl]; exact hj)):=fun j hj => List.getElem?_eq_getElem _
   have s0:=yf 0 _ rfl
   have s1:=yf 1 _ rfl
   have s2:=yf 2 _ rfl
   have s3:=yf 3 _ rfl
   have s4:=yf 4 _ rfl
   have s5:=yf 5 _ rfl
   simp only [List.getElem_toArray,List.getElem_cons_zero,List.getElem_cons_succ,c1,cb,List.drop_zero,List.drop_succ_cons,List.take_succ_cons,List.take_zero,List.drop_nil,List.take_nil] at s0 s1 s2 s3 s4 s5
   rw [hy 0 (by omega)] at s0
   rw [hy 1 (by omega)] at s1
   rw [hy 2 (by omega)] at s2
   rw [hy 3 (by omega)] at s3
   rw [hy 4 (by omega)] at s4
   rw [hy 5 (by omega)] at s5
   obtain ⟨y0,g0,_,w0⟩:=DataW.trod_int Tryz.underlying3 s0
   obtain ⟨y1,g1,_,_⟩:=DataW.trod_int Tryz.underlying3 s1
   obtain ⟨y2,g2,_,_⟩:=DataW.trod_int Tryz.underlying3 s2
   obtain ⟨y3,g3,_⟩:=DataW.trod_bool Tryz.underlying4 s3
   obtain ⟨y4,g4,_,_⟩:=DataW.trod_int Tryz.underlying3 s4
   obtain ⟨y5,g5,_,_⟩:=DataW.trod_int Tryz.underlying3 s5
   obtain ⟨y6,g6,_,_⟩:=DataW.trod_int Tryz.underlying3 t1
   obtain ⟨y8,g8,_,_⟩:=DataW.trod_int Tryz.underlying40 t3
   obtain ⟨ta,tn,tc,g7⟩:∃ ta tn tc,v7=.slice ta tn tc:=by
    rcases DataW.trod_slice Tryz.underlying22 t2 with ⟨h0,_⟩ | ⟨a,len,cap,elems,rest,n,hfu,hcs,_⟩
    ·simp only [List.cons.injEq,and_true] at h0
     exact ⟨_,_,_,h0⟩
    ·simp only [List.cons.injEq,and_true] at hcs
     exact ⟨_,_,_,hcs⟩
   simp only [List.cons.injEq,and_true] at g0 g1 g2 g3 g4 g5 g6 g8
   subst g0 g1 g2 g3 g4 g5 g6 g7 g8
   exact ⟨⟨y0,y1,y2,y3,y4,y5,y6,y8,ta,tn,tc⟩,rfl,w0⟩⟩
end Go.Proofs.YtmjnmpifibemjaaGreatDoor
namespace Go.Proofs.YtmjnmpifibemjaaGreatDoor
open Go.RowKit
attribute [local go_sem] litStep_value
def wtG (r:Nat→List Stm→Nat) (d:Nat):List Stm→Nat→Nat
 | [],n => n
 | .mk _ _ _ _ _ _ _ b e :: l,n => if n < 1000 then wtG r d l (n + 1 + r (d + 1) b + r (d + 1) e) else n
def wtF:Nat→Nat→List Stm→Nat
 | 0,_,_ => 0
 | m + 1,d,l => if 30 < d then 1000 else min (wtG (wtF m) d l 0) 1000
theorem wtF_le:∀ m d l,wtF m d l≤1000
 | 0,_,_ => by simp [wtF]
 | m + 1,d,l => by unfold wtF; split <;> omega
theorem wtG_done (r:Nat→List Stm→Nat) (d:Nat) (l:List Stm) (n:Nat) (h:¬ n < 1000):wtG r d l n=n:=by
 cases l with
 | nil => rfl
 | cons s l => cases s; unfold wtG; rw [if_neg h]
theorem wtG_cons (r:Nat→List Stm→Nat) (d:Nat) (a1 a2 a3 a4 a5 a6 a7:Int) (b e l:List Stm) (n:Nat):wtG r d (.mk a1 a2 a3 a4 a5 a6 a7 b e :: l) n=if n < 1000 then wtG r d l (n + 1 + r (d + 1) b + r (d + 1) e) else n:=rfl
theorem weight_ok {B:Nat}:∀ (m:Nat) (d:Nat) (l:List Stm) (v:Value) (w:World),31 < m + d→d≤31→Stms w B v l→B≤w.heap.size →
 Calls Tryz.prog 74 #[v,.int .i64 d] w fun e w' => e=.returned (.int .i64 (wtF m d l))∧Upd [] w w':=by
 intro m
 induction m with
 | zero => intro d l v w h1 h2; omega
 | succ m ih =>
   intro d l v w hm hd hv hB
   by_cases h30:30 < d
   ·have h30':decide ((30:Int) < d)=true:=by simp; omega
    have HR:Hid (wtF (m + 1) d l=1000):=Zh (by unfold wtF; rw [if_pos h30])
    go_enter Tryz.func74,Tryz.ntmps74
    go_wp2_with fail
    go_ret
    rw [HR.out]
    exact ⟨rfl,.refl _ _⟩
   ·have h30':decide ((30:Int) < d)=false:=by simp; omega
    have HR:Hid (wtF (m + 1) d l=min (wtG (wtF m) d (l.drop 0) 0) 1000):=Zh (by unfold wtF; rw [if_neg h30]; rfl)
    obtain ⟨tot,htot⟩:∃ t,wtF (m + 1) d l=t:=⟨_,rfl⟩
    rw [htot] at HR ⊢
    have IH:=Zh ih
    have HLI:=Zh hv
    have HLE:Hid (∀ d l,wtF m d l≤1000):=Zh (wtF_le m)
    clear htot ih
    cases hv with
    | mk A nn c l vb ve hln hc hcm hcell hbb hee =>
    have hnn:nn≤9223372036854775807:=by omega
    have HLN:=Zh hln
    have HCE:=Zh hcell
    have HBB:=Zh hbb
    have HEE:=Zh hee
    clear hln hcell hbb hee
    go_enter Tryz.func74,Tryz.ntmps74
    go_wp2_with fail
    go_loopw [5,6] (fun u i wr => ∃ (k n:Nat),u=.int .i64 n∧n≤3000∧i=.int .i64 k∧k≤nn∧Hid (tot=min (wtG (wtF m) d (l.drop k) n) 1000)∧Hid (Upd [] w wr)) (fun _ i _ => nn - (intOf i).toNat)
    case atStart => exact ⟨0,0,rfl,by omega,rfl,by omega,HR,Zh (.refl _ _)⟩
    case round =>
     obtain ⟨k,n,rfl,hn,rfl,hk,KR,KU⟩:=hrel
     by_cases hkn:k < nn
     ·have hkn':decide ((k:Int) < nn)=true:=by simp; omega
      by_cases hn1:n < 1000
      ·have hn1':decide ((n:Int) < 1000)=true:=by simp; omega
       obtain ⟨x,hx⟩:∃ x,l[k]?=some x:=⟨_,List.getElem?_eq_getElem (by rw [HLN.out]; exact hkn)⟩
       obtain ⟨a1,a2,a3,a4,a5,a6,a7,bo,el⟩:=x
       have HZ:Hid (tot=min (wtG (wtF m) d (l.drop (k + 1)) (n + 1 + wtF m (d + 1) bo + wtF m (d + 1) el)) 1000):=Zh (by
        rw [KR.out]
        obtain ⟨hl,he⟩:=List.getElem?_eq_some_iff.1 hx
        rw [List.drop_eq_getElem_cons hl,he,wtG_cons,if_pos hn1])
       obtain ⟨ad,rfl,hlt,hcc⟩:=HCE.out k a1 a2 a3 a4 a5 a6 a7 bo el hx
       have hsb:=HBB.out k a1 a2 a3 a4 a5 a6 a7 bo el hx
       have hse:=HEE.out k a1 a2 a3 a4 a5 a6 a7 bo el hx
       obtain ⟨Ab,nb,cb,hvb⟩:=hsb.slice
       obtain ⟨Ae,ne,ce,hve⟩:=hse.slice
       rw [hvb,hve] at hcc
       rw [hvb] at hsb
       rw [hve] at hse
       have HSB:=Zh hsb
       have HSE:=Zh hse
       have CS:Hid (∀ W,Upd [] wr.drew W→W.cell? ⟨(ad.add (k * 9)).block,(ad.add (k * 9)).off + (6 + 1),none⟩=some (.slice Ab nb cb)∧W.cell? ⟨(ad.add (k * 9)).block,(ad.add (k * 9)).off + (7 + 1),none⟩=some (.slice Ae ne ce)):=Zh (fun W hW => by
        have hb:Below B w W:=(KU.out.drew.trans hW).below hB (by simp)
        constructor
        ·rw [← add_more]; exact (hb.cell (by rw [block_add]; exact hlt)).trans (hcc 7 _ rfl)
        ·rw [← add_more]; exact (hb.cell (by rw [block_add]; exact hlt)).trans (hcc 8 _ rfl))
       have hr1:=HLE.out (d + 1) bo
       have hr2:=HLE.out (d + 1) el
       obtain ⟨r1,hr1e⟩:∃ r,wtF m (d + 1) bo=r:=⟨_,rfl⟩
       obtain ⟨r2,hr2e⟩:∃ r,wtF m (d + 1) el=r:=⟨_,rfl⟩
       rw [hr1e,hr2e] at HZ
       rw [hr1e] at hr1
       rw [hr2e] at hr2
       have HE1:=Zh hr1e
       have HE2:=Zh hr2e
       clear hvb hve hsb hse hcc hx hr1e hr2e
       have e1:IntKind.i64.wrap ((n:Int) + 1)=(n:Int) + 1:=IntWalk.i64_in _ (by omega)
       have e2:IntKind.i64.wrap ((n:Int) + 1 + r1)=(n:Int) + 1 + r1:=IntWalk.i64_in _ (by omega)
       have e3:IntKind.i64.wrap ((n:Int) + 1 + r1 + r2)=(n:Int) + 1 + r1 + r2:=IntWalk.i64_in _ (by omega)
       have e4:IntKind.i64.wrap ((d:Int) + 1)=(d:Int) + 1:=IntWalk.i64_in _ (by omega)
       have q1:(0:Int)≤(k:Int):=by omega
       have q2:(k:Int) < (nn:Int):=by omega
       go_wp2_with fail
       refine wp_invN [(9,.det (.int .i64 r1)),(18,.det (.int .i64 r2))] [] (by kernel_rfl) (by kernel_rfl) (by kernel_rfl) ⟨lasts_det _,lasts_det _,trivial⟩ ?_
       iterate 9 (
        with_reducible apply wpV_light
        ·simp only [lightOp]
        ·intro W hU hF
         have f0:=CS.out W hU
         clear hU hF
         go_simp
         exact rfl
        simp only [aP])
       refine wpV_heavy (by simp only [lightOp]) (by rfl) (fun W hU hk hF K hK => ?_) ?_
       ·go_wp2_with fail
        have hc:=IH.out (d + 1) bo (.slice Ab nb cb) W (by omega) (by omega) (HSB.out.belowW ((KU.out.drew.trans hU).below hB (by simp))) (Nat.le_trans hB (KU.out.drew.trans hU).size)
        rw [show ((d + 1:Nat):Int)=(d:Int) + 1 by omega,HE1.out] at hc
        refine hc.mono ?_; rintro e w2 ⟨rfl,u2⟩
        go_wp2_with fail
        exact hK.out _ _ (outV_new rfl rfl (by intro b hb; cases hb) u2)
       rintro _ rfl
       simp only [aP]
       iterate 8 (
        with_reducible apply wpV_light
        ·simp only [lightOp]
        ·intro W hU hF
         have f0:=CS.out W hU
         clear hU hF
         go_simp
         exact rfl
        simp only [aP])
       refine wpV_heavy (by simp only [lightOp]) (by rfl) (fun W hU hk hF K hK => ?_) ?_
       ·go_wp2_with fail
        have hc:=IH.out (d + 1) el (.slice Ae ne ce) W (by omega) (by omega) (HSE.out.belowW ((KU.out.drew.trans hU).below hB (by simp))) (Nat.le_trans hB (KU.out.drew.trans hU).size)
        rw [show ((d + 1:Nat):Int)=(d:Int) + 1 by omega,HE2.out] at hc
        refine hc.mono ?_; rintro e w2 ⟨rfl,u2⟩
        go_wp2_with fail
        exact hK.out _ _ (outV_new rfl rfl (by intro b hb; cases hb) u2)
       rintro _ rfl
       simp only [aP]
       iterate 2 (
        with_reducible apply wpV_light
        ·simp only [lightOp]
        ·intro W hU hF
         have f0:=CS.out W hU
         clear hU hF
         go_simp
         exact rfl
        simp only [aP])
       refine wpV_end (fun W hU _ _ => ?_)
       have KU2:Hid (Upd [] w W):=Zh (KU.out.drew.trans hU)
       clear hU e1 e2 e3 e4 q1 q2
       refine wpT_end ?_
       go_wp2_with fail
       go_roundw
       case rel => exact ⟨k + 1,n + 1 + r1 + r2,by go_num,by omega,by go_num,by omega,HZ,KU2⟩
       case measure => simp [intOf]; omega
      ·have hn1':decide ((n:Int) < 1000)=false:=by simp; omega
       have HZ:Hid (tot=1000):=Zh (by rw [KR.out,wtG_done _ _ _ _ hn1]; omega)
       go_wp2_with fail
       all_goals
        go_ret
        refine ⟨congrArg (fun x => Ending.returned (.int .i64 x)) ?_,KU.out⟩
        rw [HZ.out]
        omega
     ·obtain rfl:nn=k:=by omega
      have HZ:Hid (tot=min n 1000):=Zh (by rw [KR.out,List.drop_eq_nil_of_le (by rw [HLN.out]; exact Nat.le_refl _)]; rfl)
      go_wp2_with fail
      all_goals
       go_ret
       refine ⟨congrArg (fun x => Ending.returned (.int .i64 x)) ?_,KU.out⟩
       rw [HZ.out]
       omega
end Go.Proofs.YtmjnmpifibemjaaGreatDoor
namespace Go.Proofs.YtmjnmpifibemjaaGreatDoor
open Go.RowKit
def fewB (l:List Stm):Bool:=decide (wtF 32 0 l≤250)
theorem few_ok (l:List Stm) (v:Value) (w:World) (hv:Stms w w.heap.size v l):Calls Tryz.prog 44 #[v] w fun e w' => e=.returned (.bool (fewB l))∧Upd [] w w':=by
 have hc:=weight_ok 32 0 l v w (by omega) (by omega) hv (Nat.le_refl _)
 rw [show ((0:Nat):Int)=0 from rfl] at hc
 have HC:=Zh hc
 have HF:Hid (fewB l=decide ((wtF 32 0 l:Int)≤250)):=Zh (by unfold fewB; rw [Bool.eq_iff_iff]; simp; omega)
 clear hc hv
 go_enter Tryz.func44,Tryz.ntmps44
 go_wp2_with fail
 refine HC.out.mono ?_; rintro e w1 ⟨rfl,u1⟩
 have U1:=Zh u1
 clear u1
 go_wp2_with fail
 go_ret
 rw [HF.out]
 exact ⟨rfl,U1.out⟩
theorem stms_one {w:World} {g:Nat} {t:TypeId} {a1 a2 a3 a4 a5 a6 a7:Int} {vb ve:Value} {bo el:List Stm} (h:Blk w g t (stmCells a1 a2 a3 a4 a5 a6 a7 vb ve).toArray) (B:Nat) (hg:g < B) (c:Nat) (hc:1≤c) (hm:c≤9223372036854775807) (hb:Stms w B vb bo) (he:Stms w B ve el) :
 Stms w B (.slice (some ⟨g,0,none⟩) 1 c) [.mk a1 a2 a3 a4 a5 a6 a7 bo el]:=by
 have one:∀ {k:Nat} {s:Stm},[Stm.mk a1 a2 a3 a4 a5 a6 a7 bo el][k]?=some s→k=0∧s=.mk a1 a2 a3 a4 a5 a6 a7 bo el:=fun {k s} h => by
  cases k with
  | zero => simp at h; exact ⟨rfl,h.symm⟩
  | succ k => simp at h
 refine .mk _ 1 c _ (fun _ => vb) (fun _ => ve) rfl hc hm (fun k b1 b2 b3 b4 b5 b6 b7 b e hk => ?_) (fun k b1 b2 b3 b4 b5 b6 b7 b e hk => ?_) (fun k b1 b2 b3 b4 b5 b6 b7 b e hk => ?_)
 ·obtain ⟨rfl,hs⟩:=one hk
  cases hs
  refine ⟨_,rfl,hg,fun j u hu => ?_⟩
  rw [add_head,h.cell,← Array.getElem?_toList,Nat.zero_mul,Nat.zero_add]
  exact hu
 ·obtain ⟨rfl,hs⟩:=one hk
  cases hs
  exact hb
 ·obtain ⟨rfl,hs⟩:=one hk
  cases hs
  exact he
theorem stms_nil (w:World) (B:Nat):Stms w B (.slice none 0 0) []:=.mk none 0 0 [] (fun _ => .nilIface) (fun _ => .nilIface) rfl (Nat.le_refl _) (by omega) (by simp) (by simp) (by simp)
end Go.Proofs.YtmjnmpifibemjaaGreatDoor
namespace Go.Proofs.YtmjnmpifibemjaaGreatDoor
open Go Go.RowKit
section
variable {P:Program} {ops:Array Oper} {Q:Exit→Act→World→Prop} {o:Oper} {l:List Oper} {j s:Nat} {A:Act} {G:List (Nat × Value)}
variable {S:List Nat} {w0:World} {Kx:Nat→World→Prop} {L:List (Nat × Spec)} {C:List (Nat × List Nat)} {CH:List Nat} {nb:Nat} {tl:List Oper}
theorem outV_own {w w':World} {v v':Value} {B N sz:Nat} {e:TypeId} {XS:List Value} (hch:CH.contains j=false) (hsp:specOf L j=.own B e sz N XS) (hu:usedV (mkI S w0 Kx L C CH nb tl) j G=v.ownBlock.toList)
 (o':w'.ownsRow B e sz v' N XS) (u':Upd v.ownBlock.toList w w') (b':v'.ownBlock=v.ownBlock∨v'.ownBlock=some w.heap.size):outV (mkI S w0 Kx L C CH nb tl) j s G w v' w':=by
 refine ⟨?_,fun b hb => ?_,?_,fun h => ?_⟩
 ·show (specOf L j).R _ _
  rw [hsp]; exact o'
 ·have hb':b ∈ (specOf L j).fp v':=hb
  rw [hsp] at hb'
  have hb2:v'.ownBlock=some b:=by simpa [Spec.own] using hb'
  rw [hu]
  rcases b' with e1 | e1
  ·left
   rw [← e1,hb2]; simp
  ·right
   rw [e1] at hb2
   injection hb2 with hb2
   subst hb2
   exact ⟨Nat.le_refl _,(own_lt o' e1).2⟩
 ·show Upd (if CH.contains j=true then _ else _) _ _
  rw [hch,hu]
  exact u'
 ·have:CH.contains j=true:=h
  rw [hch] at this
  cases this
theorem wpV_app {w:World} {K:Act→World→Prop} {B N n m sz bytes:Nat} {e:TypeId} {XS xs news:List Value}
 (hK:Hid (∀ v w',outV (mkI S w0 Kx L C CH nb tl) j s G w v w'→K (A.put o.dst v) w')) (s' x':Operand) (t:TypeId) (ho:o.op=.call { callee:=.builtin .append,args:=#[s',x'],argTypes:=#[t,t] })
 (ET:Elem P t e sz bytes) (v x:Value) (hs:A.eval s'=v) (hx:A.eval x'=x) (hch:CH.contains j=false) (hsp:specOf L j=.own B e sz N XS) (hu:usedV (mkI S w0 Kx L C CH nb tl) j G=v.ownBlock.toList)
 (hown:w.ownsRow B e sz v n xs) (hsrc:Src w sz x m news) (hN:N=n + m) (hXS:XS=xs ++ news) (h1:∀ u ∈ news,u.oneCell'=true) (h63:n + m≤maxLen) (hby:(n + m) * bytes≤140737488355328) (hB:B≤w.heap.size):o.wp P A w K Q:=by
 subst hN hXS
 refine wp_app w s' x' t ho ET v x hs hx hown hsrc h1 h63 hby hB ?_
 intro v' w' o' u' b'
 exact hK.out v' w' (outV_own hch hsp hu o' u' b')
theorem wpV_made {w:World} {K:Act→World→Prop} {B sz H:Nat} {e:TypeId} {d:Option Tmp} (hK:Hid (∀ v w',outV (mkI S w0 Kx L C CH nb tl) j s G w v w'→K (A.put d v) w')) (hch:CH.contains j=false) (hsp:specOf L j=.own B e sz 0 []) (hu:usedV (mkI S w0 Kx L C CH nb tl) j G=[])
 (hH:w.heap.size=H) (hB:B≤w.heap.size):K (A.put d (.slice (some ⟨H,0,none⟩) 0 0)) (w.alloc (.cells #[] e)):=by
 subst hH
 refine hK.out _ _ (outV_own (v:=undef) hch hsp (by rw [hu]; rfl) (own_made sz (Blk.new w e #[]) hB) ((Upd.refl _ w).alloc _) (.inr rfl))
end
end Go.Proofs.YtmjnmpifibemjaaGreatDoor
namespace Go.Proofs.YtmjnmpifibemjaaGreatDoor
open Go.RowKit St Jd
structure PlanV (w:World) (p:Pn) (kv tv:Value):Prop where
 ks:Src w 1 kv p.ks.length (p.ks.map (Value.int .i64))
 ths:∃ vs,Src w 1 tv p.ths.length vs∧∀ (i:Nat) v ts,vs[i]?=some v→p.ths[i]?=some ts→∃ us,Src w 1 v ts.length us∧∀ (j:Nat) u l,us[j]?=some u→ts[j]?=some l→Stms w w.heap.size u l
abbrev planC (p:Pn) (kv tv:Value):Value:=.agg #[.int .i64 p.words,.int .i64 p.pat,kv,tv]
theorem Stms.upd0 {w w':World} {v:Value} {l:List Stm} (h:Stms w w.heap.size v l) (hu:Upd [] w w'):Stms w' w'.heap.size v l:=(h.belowW (hu.below (Nat.le_refl _) (by simp))).more hu.size
theorem PlanV.upd0 {w w':World} {p:Pn} {kv tv:Value} (h:PlanV w p kv tv) (hu:Upd [] w w'):PlanV w' p kv tv:=by
 obtain ⟨h1,vs,h2,h3⟩:=h
 refine ⟨h1.upd0 hu,vs,h2.upd0 hu,fun i v ts hv ht => ?_⟩
 obtain ⟨us,h4,h5⟩:=h3 i v ts hv ht
 exact ⟨us,h4.upd0 hu,fun j u l hj hl => (h5 j u l hj hl).upd0 hu⟩
def tlW (w:World) (m:En):List Int:=(List.range m.tn).map fun i => match m.ta with | some a => intOf ((w.cell? (a.add i)).getD undef) | none => 0
def attE (m:En):Att:=⟨m.th,m.ix,m.st,m.wr,m.be,m.en⟩
def edW (w:World) (m:En):Ed:=⟨attE m,m.kd,tlW w m,m.er⟩
def edsW (w:World) (M:List En):List Ed:=M.map (edW w)
theorem tlW_len (w:World) (m:En):(tlW w m).length=m.tn:=by simp [tlW]
theorem tlW_eq {w:World} {m:En} {l:List Int} (h:Src w 1 (.slice m.ta m.tn m.tc) m.tn (l.map (Value.int .i64))):tlW w m=l:=by
 obtain ⟨h1,A,c,e,h2⟩:=h
 injection e with e1 e2 e3
 have hl:l.length=m.tn:=by simpa using h1
 apply List.ext_getElem?
 intro i
 by_cases hi:i < m.tn
 ·have hli:l[i]?=some l[i]:=List.getElem?_eq_getElem (by omega)
  obtain ⟨ad,hA,_,hc⟩:=h2 i (.int .i64 l[i]) (by rw [List.getElem?_map,hli]; rfl)
  unfold tlW
  rw [List.getElem?_map,List.getElem?_range hi,hli]
  simp only [Option.map_some]
  rw [e1,hA]
  simp only [hc,Option.getD_some,intOf]
 ·rw [List.getElem?_eq_none (by rw [tlW_len]; omega),List.getElem?_eq_none (by omega)]
def EnOk (w:World) (m:En):Prop:=Src w 1 (.slice m.ta m.tn m.tc) m.tn ((tlW w m).map (Value.int .i64))
theorem EnOk.upd0 {w w':World} {m:En} (h:EnOk w m) (hu:Upd [] w w'):EnOk w' m∧tlW w' m=tlW w m:=by
 have h1:Src w' 1 (.slice m.ta m.tn m.tc) m.tn ((tlW w m).map (Value.int .i64)):=Src.upd0 h hu
 have e:=tlW_eq h1
 exact ⟨by unfold EnOk; rw [e]; exact h1,e⟩
def encA:Enc Att:=⟨fun x => [.int .i64 x.th,.int .i64 x.ix,.int .i64 x.st,.bool x.wr,.int .i64 x.be,.int .i64 x.en],6,fun _ => rfl,by intro a u hu; simp at hu; rcases hu with rfl | rfl | rfl | rfl | rfl | rfl <;> rfl,by omega⟩
theorem atts_rd {w:World} {A:Option Addr} {n c:Nat} {L:List Att} (h:Rd encA w (.slice A n c) L):Atts w A L:=by
 intro k v hk
 obtain ⟨ad,hA,hl,hc⟩:=h.at_ hk
 have e:∀ j,ad.add (k * 6 + (j + 1))=⟨(ad.add (k * 6)).block,(ad.add (k * 6)).off + (j + 1),none⟩:=fun j => add_more ad (k * 6) j
 refine ⟨ad,hA,hc 0 _ rfl,?_,?_,?_,?_,?_,by rw [block_add]; exact hl⟩
 ·rw [← e 0]; exact hc 1 _ rfl
 ·rw [← e 1]; exact hc 2 _ rfl
 ·rw [← e 2]; exact hc 3 _ rfl
 ·rw [← e 3]; exact hc 4 _ rfl
 ·rw [← e 4]; exact hc 5 _ rfl
theorem att_elem:Elem Tryz.prog 84 39 6 48:=.mk' (z:=((Tryz.prog.info? 39).bind (·.zero)).getD undef) Tryz.underlying84 (by kernel_rfl) (by kernel_rfl) (by omega)
theorem ended_elem:Elem Tryz.prog 31 42 9 88:=.mk' (z:=((Tryz.prog.info? 42).bind (·.zero)).getD undef) Tryz.underlying31 (by kernel_rfl) (by kernel_rfl) (by omega)
theorem stoppedJ {p:Prop} (h:Hid p):p:=h.out
theorem jwrong_ok (at_ no:Int) (h1:1≤no) (h2:no≤17) (w:World):Calls Tryz.prog 25 #[.int .i64 at_,.int .i64 no] w fun e w' => ∃ v,e=.returned v∧ErrV w' v no at_∧Upd [] w w':=by
 go_enter Tryz.func25,Tryz.ntmps25
 go_wp2_with fail
 go_ret
 exact ⟨_,rfl,.fault (Blk.new _ _ _) h1 h2,(Upd.refl _ _).alloc _⟩
theorem attempts_ok (A:Option Addr) (n c:Nat) (M:List En) (w:World) (h:Rd encE w (.slice A n c) M) (hn:M.length=n) (hm:n≤100) :
 Calls Tryz.prog 28 #[.slice A n c] w fun e w' => ∃ v,e=.returned v∧Ow encA 39 w' w.heap.size v (M.map attE)∧Upd [] w w':=by
 have HR:=Zh h
 have HN:=Zh hn
 have HM:=Zh hm
 have hn3:(n:Int)≤100:=by omega
 clear h hn hm
 go_enter Tryz.func28,Tryz.ntmps28
 go_wp2_with fail
 go_loopw [3,5,8] (fun u3 u5 u8 wr => ∃ k:Nat,u8=.int .i64 k∧k≤n∧Hid (Upd [] w wr∧Ow encA 39 wr w.heap.size u3 ((M.take k).map attE))) (fun _ _ u _ => n - (intOf u).toNat)
 case atStart => exact ⟨0,rfl,by omega,Zh ⟨.refl _ _,Ow.nil _ _ _ _⟩⟩
 case round =>
  obtain ⟨k,rfl,hk,KX⟩:=hrel
  by_cases hlt:k < n
  ·have hki:(k:Int) < n:=by omega
   obtain ⟨m,hmm⟩:∃ m,M[k]?=some m:=⟨_,List.getElem?_eq_getElem (by rw [HN.out]; exact hlt)⟩
   obtain ⟨ad,hA,hl,hc⟩:=(HR.out.upd0 KX.out.1).at_ hmm
   have e:∀ j,ad.add (k * 9 + (j + 1))=⟨(ad.add (k * 9)).block,(ad.add (k * 9)).off + (j + 1),none⟩:=fun j => add_more ad (k * 9) j
   have c0:wr.cell? (ad.add (k * 9))=some (.int .i64 m.th):=hc 0 _ rfl
   have c1:wr.cell? ⟨(ad.add (k * 9)).block,(ad.add (k * 9)).off + 1,none⟩=some (.int .i64 m.ix):=by rw [← e 0]; exact hc 1 _ rfl
   have c2:wr.cell? ⟨(ad.add (k * 9)).block,(ad.add (k * 9)).off + 2,none⟩=some (.int .i64 m.st):=by rw [← e 1]; exact hc 2 _ rfl
   have c3:wr.cell? ⟨(ad.add (k * 9)).block,(ad.add (k * 9)).off + 3,none⟩=some (.bool m.wr):=by rw [← e 2]; exact hc 3 _ rfl
   have c4:wr.cell? ⟨(ad.add (k * 9)).block,(ad.add (k * 9)).off + 4,none⟩=some (.int .i64 m.be):=by rw [← e 3]; exact hc 4 _ rfl
   have c5:wr.cell? ⟨(ad.add (k * 9)).block,(ad.add (k * 9)).off + 5,none⟩=some (.int .i64 m.en):=by rw [← e 4]; exact hc 5 _ rfl
   have c6:wr.cell? ⟨(ad.add (k * 9)).block,(ad.add (k * 9)).off + 6,none⟩=some (.int .i64 m.kd):=by rw [← e 5]; exact hc 6 _ rfl
   have c7:wr.cell? ⟨(ad.add (k * 9)).block,(ad.add (k * 9)).off + 7,none⟩=some (.slice m.ta m.tn m.tc):=by rw [← e 6]; exact hc 7 _ rfl
   have c8:wr.cell? ⟨(ad.add (k * 9)).block,(ad.add (k * 9)).off + 8,none⟩=some (.int .i64 m.er):=by rw [← e 7]; exact hc 8 _ rfl
   have hb:(ad.add (k * 9)).block < wr.heap.size:=by rw [block_add]; exact hl
   have HMM:Hid (M[k]?=some m∧k < n):=Zh ⟨hmm,hlt⟩
   clear hmm hc e hl hk hlt
   subst hA
   go_wp2_with (at_builtin; refine stoppedJ ?_)
   refine Zh ?_
   refine wpList_app _ (by rfl) (.tmp 12) (.tmp 15) _ (by rfl) att_elem u3 _ (by rfl) (by rfl) (own_upd0 KX.out.2 (((Upd.refl [] wr).alloc _).alloc _)) (.of_blk (Blk.newAt _ _ (by simp)) (m:=1) 1 rfl) (by intro u hu; simp at hu; rcases hu with rfl | rfl | rfl | rfl | rfl | rfl <;> rfl) (by have:=HM.out; have:=HMM.out.2; simp only [maxLen,List.length_map,List.length_take]; omega) (by have:=HM.out; have:=HMM.out.2; simp only [List.length_map,List.length_take]; omega) (by have:=KX.out.1.size; simp; omega) ?_
   intro v5 w5 o5 u5 b5
   have X5:Hid (Upd [] w w5∧Ow encA 39 w5 w.heap.size v5 ((M.take (k + 1)).map attE)):=Zh (by
    refine ⟨((KX.out.1.alloc _).alloc _).trans' u5 (fun y hy => .inr (own_lt KX.out.2 (b:=y) (by simpa using hy)).1),?_⟩
    unfold Ow
    rw [List.take_add_one,HMM.out.1]
    simp only [Option.toList_some,List.map_append,List.map_cons,List.map_nil]
    rw [flat_append,List.length_append]
    exact o5)
   clear o5 u5 b5
   go_wp2_with fail
   go_round
   case rel => exact ⟨k + 1,by simp,by have:=HMM.out.2; omega,X5⟩
   case measure => have:=HMM.out.2; simp [intOf]; omega
  ·have hki:¬ ((k:Int) < n):=by omega
   have KX2:Hid (Upd [] w wr∧Ow encA 39 wr w.heap.size u3 (M.map attE)):=Zh (by
    have h:=KX.out
    rwa [List.take_of_length_le (by rw [HN.out]; omega)] at h)
   go_wp2_with fail
   go_ret
   exact ⟨_,rfl,KX2.out.2,KX2.out.1⟩
theorem en_cells {w:World} {ad:Addr} {k:Nat} {m:En} (hc:∀ j u,(encE.c m)[j]?=some u→w.cell? (ad.add (k * 9 + j))=some u) :
 w.cell? (ad.add (k * 9))=some (.int .i64 m.th)∧w.cell? ⟨(ad.add (k * 9)).block,(ad.add (k * 9)).off + 1,none⟩=some (.int .i64 m.ix)∧w.cell? ⟨(ad.add (k * 9)).block,(ad.add (k * 9)).off + 2,none⟩=some (.int .i64 m.st) ∧
  w.cell? ⟨(ad.add (k * 9)).block,(ad.add (k * 9)).off + 3,none⟩=some (.bool m.wr)∧w.cell? ⟨(ad.add (k * 9)).block,(ad.add (k * 9)).off + 4,none⟩=some (.int .i64 m.be)∧w.cell? ⟨(ad.add (k * 9)).block,(ad.add (k * 9)).off + 5,none⟩=some (.int .i64 m.en) ∧
  w.cell? ⟨(ad.add (k * 9)).block,(ad.add (k * 9)).off + 6,none⟩=some (.int .i64 m.kd)∧w.cell? ⟨(ad.add (k * 9)).block,(ad.add (k * 9)).off + 7,none⟩=some (.slice m.ta m.tn m.tc)∧w.cell? ⟨(ad.add (k * 9)).block,(ad.add (k * 9)).off + 8,none⟩=some (.int .i64 m.er):=by
 have e:∀ j,ad.add (k * 9 + (j + 1))=⟨(ad.add (k * 9)).block,(ad.add (k * 9)).off + (j + 1),none⟩:=fun j => add_more ad (k * 9) j
 refine ⟨hc 0 _ rfl,?_,?_,?_,?_,?_,?_,?_,?_⟩
 ·rw [← e 0]; exact hc 1 _ rfl
 ·rw [← e 1]; exact hc 2 _ rfl
 ·rw [← e 2]; exact hc 3 _ rfl
 ·rw [← e 3]; exact hc 4 _ rfl
 ·rw [← e 4]; exact hc 5 _ rfl
 ·rw [← e 5]; exact hc 6 _ rfl
 ·rw [← e 6]; exact hc 7 _ rfl
 ·rw [← e 7]; exact hc 8 _ rfl
def dnE (m:En):Bool:=m.kd == 1
def SplitPost (M:List En) (w:World) (v1 v2:Value) (w':World):Prop:=Upd [] w w'∧Ow encE 42 w' w.heap.size v1 (M.filter dnE)∧Ow encE 42 w' w.heap.size v2 (M.filter fun m => !dnE m)∧∀ b,v1.ownBlock=some b→v2.ownBlock≠some b
theorem split_put {M:List En} {k:Nat} {m:En} {w wr w5:World} {v1 v2 v5:Value} {o:Obj} {o':Obj} (hm:M[k]?=some m) (h:SplitPost (M.take k) w v1 v2 wr) :
 (dnE m=true→w5.ownsRow w.heap.size 42 9 v5 (((M.take k).filter dnE).length + 1) (flat encE ((M.take k).filter dnE) ++ encE.c m)→Upd v1.ownBlock.toList ((wr.alloc o).alloc o') w5→(v5.ownBlock=v1.ownBlock∨v5.ownBlock=some ((wr.alloc o).alloc o').heap.size)→SplitPost (M.take (k + 1)) w v5 v2 w5) ∧
 (dnE m=false→w5.ownsRow w.heap.size 42 9 v5 (((M.take k).filter fun m => !dnE m).length + 1) (flat encE ((M.take k).filter fun m => !dnE m) ++ encE.c m)→Upd v2.ownBlock.toList ((wr.alloc o).alloc o') w5→(v5.ownBlock=v2.ownBlock∨v5.ownBlock=some ((wr.alloc o).alloc o').heap.size)→SplitPost (M.take (k + 1)) w v1 v5 w5):=by
 obtain ⟨h1,h2,h3,h4⟩:=h
 have hu:Upd [] wr ((wr.alloc o).alloc o'):=((Upd.refl _ _).alloc _).alloc _
 have et:M.take (k + 1)=M.take k ++ [m]:=by rw [List.take_add_one,hm]; rfl
 refine ⟨fun hd o5 u5 b5 => ?_,fun hd o5 u5 b5 => ?_⟩
 ·have e1:(M.take (k + 1)).filter dnE=(M.take k).filter dnE ++ [m]:=by rw [et,List.filter_append]; simp [hd]
  have e2:((M.take (k + 1)).filter fun m => !dnE m)=(M.take k).filter fun m => !dnE m:=by rw [et,List.filter_append]; simp [hd]
  refine ⟨(h1.trans hu).trans' u5 (fun y hy => .inr (own_lt h2 (b:=y) (by simpa using hy)).1),?_,?_,fun b hb hb2 => ?_⟩
  ·rw [e1]; unfold Ow; rw [flat_append,flat_one_,List.length_append]; exact o5
  ·rw [e2]; exact (h3.upd0 hu).upd u5 (fun b hb hm => h4 b (by simpa using hm) hb)
  ·rcases b5 with b5 | b5
   ·exact h4 b (b5 ▸ hb) hb2
   ·rw [b5] at hb; injection hb with hb; have:=(own_lt h3 hb2).2; simp at hb; omega
 ·have e1:(M.take (k + 1)).filter dnE=(M.take k).filter dnE:=by rw [et,List.filter_append]; simp [hd]
  have e2:((M.take (k + 1)).filter fun m => !dnE m)=((M.take k).filter fun m => !dnE m) ++ [m]:=by rw [et,List.filter_append]; simp [hd]
  refine ⟨(h1.trans hu).trans' u5 (fun y hy => .inr (own_lt h3 (b:=y) (by simpa using hy)).1),?_,?_,fun b hb hb2 => ?_⟩
  ·rw [e1]; exact (h2.upd0 hu).upd u5 (fun b hb hm => h4 b hb (by simpa using hm))
  ·rw [e2]; unfold Ow; rw [flat_append,flat_one_,List.length_append]; exact o5
  ·rcases b5 with b5 | b5
   ·exact h4 b hb (b5 ▸ hb2)
   ·rw [b5] at hb2; injection hb2 with hb2; have:=(own_lt h2 hb).2; simp at hb2; omega
theorem split_ok (A:Option Addr) (n c:Nat) (M:List En) (w:World) (h:Rd encE w (.slice A n c) M) (hn:M.length=n) (hm:n≤100) :
 Calls Tryz.prog 26 #[.slice A n c] w fun e w' => ∃ v1 v2,e=.returned (.tuple #[v1,v2])∧SplitPost M w v1 v2 w':=by
 have HR:=Zh h
 have HN:=Zh hn
 have HM:=Zh hm
 have hn3:(n:Int)≤100:=by omega
 clear h hn hm
 go_enter Tryz.func26,Tryz.ntmps26
 go_wp2_with fail
 go_loopw [4,5,7,10] (fun u4 u5 u7 u10 wr => ∃ k:Nat,u10=.int .i64 k∧k≤n∧Hid (SplitPost (M.take k) w u4 u5 wr)) (fun _ _ _ u _ => n - (intOf u).toNat)
 case atStart => exact ⟨0,rfl,by omega,Zh ⟨.refl _ _,Ow.nil _ _ _ _,Ow.nil _ _ _ _,by simp [Value.ownBlock]⟩⟩
 case round =>
  obtain ⟨k,rfl,hk,KX⟩:=hrel
  by_cases hlt:k < n
  ·have hki:(k:Int) < n:=by omega
   obtain ⟨m,hmm⟩:∃ m,M[k]?=some m:=⟨_,List.getElem?_eq_getElem (by rw [HN.out]; exact hlt)⟩
   obtain ⟨ad,hA,hl,hc⟩:=(HR.out.upd0 KX.out.1).at_ hmm
   obtain ⟨c0,c1,c2,c3,c4,c5,c6,c7,c8⟩:=en_cells hc
   have hb:(ad.add (k * 9)).block < wr.heap.size:=by rw [block_add]; exact hl
   have HMM:Hid (M[k]?=some m∧k < n):=Zh ⟨hmm,hlt⟩
   have LEN:Hid (((M.take k).filter dnE).length≤k∧((M.take k).filter fun m => !dnE m).length≤k):=Zh (by
    have h1:=List.length_filter_le dnE (M.take k)
    have h2:=List.length_filter_le (fun m => !dnE m) (M.take k)
    simp only [List.length_take] at h1 h2
    omega)
   clear hmm hc hl hk hlt
   subst hA
   by_cases hd:m.kd=1
   ·have HD:Hid (dnE m=true):=Zh (by simp [dnE,hd])
    have hd2:(m.kd == 1)=true:=by simp [hd]
    clear hd
    go_wp2_with (at_builtin; refine stoppedJ ?_)
    refine Zh ?_
    refine wpList_app _ (by rfl) (.tmp 22) (.tmp 24) _ (by rfl) ended_elem u4 _ (by rfl) (by rfl) (own_upd0 KX.out.2.1 (((Upd.refl [] wr).alloc _).alloc _)) (.of_blk (Blk.newAt _ _ (by simp)) (m:=1) 1 rfl) (by intro u hu; simp at hu; rcases hu with rfl | rfl | rfl | rfl | rfl | rfl | rfl | rfl | rfl <;> rfl) (by have:=HM.out; have:=HMM.out.2; have:=LEN.out; simp only [maxLen]; omega) (by have:=HM.out; have:=HMM.out.2; have:=LEN.out; omega) (by have:=KX.out.1.size; simp; omega) ?_
    intro v5 w5 o5 u5 b5
    have X5:=Zh ((split_put HMM.out.1 KX.out).1 HD.out o5 u5 b5)
    clear o5 u5 b5
    go_wp2_with fail
    go_round
    case rel => exact ⟨k + 1,by simp,by have:=HMM.out.2; omega,X5⟩
    case measure => have:=HMM.out.2; simp [intOf]; omega
   ·have HD:Hid (dnE m=false):=Zh (by simp [dnE,hd])
    have hd2:(m.kd == 1)=false:=by simp [hd]
    clear hd
    go_wp2_with (at_builtin; refine stoppedJ ?_)
    refine Zh ?_
    refine wpList_app _ (by rfl) (.tmp 14) (.tmp 16) _ (by rfl) ended_elem u5 _ (by rfl) (by rfl) (own_upd0 KX.out.2.2.1 (((Upd.refl [] wr).alloc _).alloc _)) (.of_blk (Blk.newAt _ _ (by simp)) (m:=1) 1 rfl) (by intro u hu; simp at hu; rcases hu with rfl | rfl | rfl | rfl | rfl | rfl | rfl | rfl | rfl <;> rfl) (by have:=HM.out; have:=HMM.out.2; have:=LEN.out; simp only [maxLen]; omega) (by have:=HM.out; have:=HMM.out.2; have:=LEN.out; omega) (by have:=KX.out.1.size; simp; omega) ?_
    intro v5 w5 o5 u5' b5
    have X5:=Zh ((split_put HMM.out.1 KX.out).2 HD.out o5 u5' b5)
    clear o5 u5' b5
    go_wp2_with fail
    go_round
    case rel => exact ⟨k + 1,by simp,by have:=HMM.out.2; omega,X5⟩
    case measure => have:=HMM.out.2; simp [intOf]; omega
  ·have hki:¬ ((k:Int) < n):=by omega
   have KX2:Hid (SplitPost M w u4 u5 wr):=Zh (by
    have h:=KX.out
    rwa [List.take_of_length_le (by rw [HN.out]; omega)] at h)
   go_wp2_with fail
   go_ret2
   exact ⟨_,_,rfl,KX2.out⟩
end Go.Proofs.YtmjnmpifibemjaaGreatDoor
namespace Go.Proofs.YtmjnmpifibemjaaGreatDoor
open Go.RowKit St Jd
def TxnP (p:Pn) (a:Att) (w:World) (e:Ending) (w':World):Prop:=∃ v,e=.returned (.tuple #[v,.bool (txnR p a).isSome])∧(∀ l,txnR p a=some l→Stms w' w'.heap.size v l)∧Upd [] w w'
theorem txn_none {p:Pn} {a:Att} {w w':World} (h:txnR p a=none) (hu:Upd [] w w'):TxnP p a w (.returned (.tuple #[.slice none 0 0,.bool false])) w':=by
 refine ⟨_,by rw [h]; rfl,fun l hl => ?_,hu⟩
 rw [h] at hl; cases hl
theorem txn_some {p:Pn} {a:Att} {w w':World} {l:List Stm} {v:Value} (h:txnR p a=some l) (hs:Stms w w.heap.size v l) (hu:Upd [] w w'):TxnP p a w (.returned (.tuple #[v,.bool true])) w':=by
 refine ⟨_,by rw [h]; rfl,fun l' hl => ?_,hu⟩
 rw [h] at hl
 injection hl with hl
 subst hl
 exact hs.upd0 hu
theorem txn_ok (p:Pn) (kv tv:Value) (m:En) (w:World) (h:PlanV w p kv tv) (h100:p.ths.length≤100∧∀ t ∈ p.ths,t.length≤100) :
 Calls Tryz.prog 24 #[planC p kv tv,.agg (enCells m).toArray] w (TxnP p (attE m) w):=by
 obtain ⟨th,ix,st,wr,be,en,kd,er,ta,tn,tc⟩:=m
 obtain ⟨hks,vs,hts,hrow⟩:=h
 obtain ⟨nk,hnk⟩:∃ n,n=p.ks.length:=⟨_,rfl⟩
 obtain ⟨_,Ak,ck,rfl,_⟩:=hks
 have hvl:vs.length=p.ths.length:=by simpa using hts.1
 obtain ⟨hts1,At,ct,rfl,hts2⟩:=hts
 obtain ⟨nt,hnt⟩:∃ n,n=p.ths.length:=⟨_,rfl⟩
 have HNT:Hid (nt=p.ths.length∧nt≤100):=Zh ⟨hnt,by rw [hnt]; exact h100.1⟩
 have H100:=Zh h100.2
 have HTS:=Zh hts2
 have HROW:=Zh hrow
 have HVL:=Zh hvl
 rw [← hnk,← hnt]
 have hn1:(nt:Int)≤100:=by have:=HNT.out.2; omega
 clear hts2 hrow hvl hnt hnk hts1 h100
 simp only [enCells]
 go_enter Tryz.func24,Tryz.ntmps24
 have U1:∀ (o1 o2:Obj),Upd [] w ((w.alloc o1).alloc o2):=fun o1 o2 => ((Upd.refl _ _).alloc _).alloc _
 by_cases h0:th < 0
 ·have e0:decide (th < 0)=true:=by simpa using h0
  have HX:Hid (txnR p ⟨th,ix,st,wr,be,en⟩=none):=Zh (by unfold txnR; rw [if_neg (by simp only; omega)])
  go_wp2_with fail
  go_quiet (fail)
  go_wp2_with fail
  go_ret2
  exact txn_none HX.out ((U1 _ _).drewN _)
 ·have e0:decide (th < 0)=false:=by simpa using h0
  obtain ⟨i,rfl⟩:=Int.eq_ofNat_of_zero_le (Int.not_lt.1 h0)
  by_cases h1:nt≤i
  ·have e1:decide ((nt:Int)≤(i:Int))=true:=by simpa using h1
   have HX:Hid (txnR p ⟨i,ix,st,wr,be,en⟩=none):=Zh (by
    unfold txnR
    split
    ·simp only [Int.toNat_natCast]
     rw [List.getElem?_eq_none (by rw [← HNT.out.1]; exact h1)]; rfl
    ·rfl)
   go_wp2_with fail
   go_quiet (fail)
   go_wp2_with fail
   go_ret2
   exact txn_none HX.out ((U1 _ _).drewN _)
  ·have e1:decide ((nt:Int)≤(i:Int))=false:=by simpa using h1
   by_cases h2:ix < 0
   ·have e2:decide (ix < 0)=true:=by simpa using h2
    have HX:Hid (txnR p ⟨i,ix,st,wr,be,en⟩=none):=Zh (by unfold txnR; rw [if_neg (by simp only; omega)])
    go_wp2_with fail
    go_quiet (fail)
    go_wp2_with fail
    go_ret2
    exact txn_none HX.out ((U1 _ _).drewN _)
   ·have e2:decide (ix < 0)=false:=by simpa using h2
    obtain ⟨j,rfl⟩:=Int.eq_ofNat_of_zero_le (Int.not_lt.1 h2)
    have hil:i < p.ths.length:=by rw [← HNT.out.1]; omega
    obtain ⟨v,hv⟩:∃ v,vs[i]?=some v:=⟨_,List.getElem?_eq_getElem (by rw [HVL.out]; exact hil)⟩
    obtain ⟨ts,hts⟩:∃ ts,p.ths[i]?=some ts:=⟨_,List.getElem?_eq_getElem hil⟩
    obtain ⟨us,hus,hst⟩:=HROW.out i v ts hv hts
    obtain ⟨ad,rfl,hadl,hadc⟩:=HTS.out i v hv
    obtain ⟨hul,Aj,cj,rfl,hus2⟩:=hus
    obtain ⟨nj,hnj⟩:∃ n,n=ts.length:=⟨_,rfl⟩
    have HNJ:Hid (nj=ts.length∧nj≤100):=Zh ⟨hnj,by rw [hnj]; exact H100.out _ (List.mem_of_getElem? hts)⟩
    rw [← hnj] at hadc
    have HT:Hid (p.ths[i]?=some ts):=Zh hts
    have hii:(i:Int) < nt:=by omega
    have hb1:(ad.add i).block < w.heap.size:=by rw [block_add]; exact hadl
    have hb2:(ad.add i).block < w.heap.size + 1:=by omega
    have hj1:(nj:Int)≤100:=by have:=HNJ.out.2; omega
    by_cases h3:nj≤j
    ·have e3:decide ((nj:Int)≤(j:Int))=true:=by simpa using h3
     have HX:Hid (txnR p ⟨i,j,st,wr,be,en⟩=none):=Zh (by
      unfold txnR
      rw [if_pos (by simp only; omega)]
      simp only [Int.toNat_natCast]
      rw [HT.out]
      simp only [Option.bind_some]
      exact List.getElem?_eq_none (by rw [← HNJ.out.1]; exact h3))
     clear hus2 hst hv hts hul hnj
     go_wp2_with fail
     go_quiet (fail)
     go_wp2_with fail
     go_ret2
     exact txn_none HX.out ((U1 _ _).drewN _)
    ·have e3:decide ((nj:Int)≤(j:Int))=false:=by simpa using h3
     have hjl:j < ts.length:=by rw [← HNJ.out.1]; omega
     obtain ⟨u,hu⟩:∃ u,us[j]?=some u:=⟨_,List.getElem?_eq_getElem (by omega)⟩
     obtain ⟨l,hl⟩:∃ l,ts[j]?=some l:=⟨_,List.getElem?_eq_getElem hjl⟩
     have HS:=Zh (hst j u l hu hl)
     obtain ⟨ad2,rfl,had2l,had2c⟩:=hus2 j u hu
     have HX:Hid (txnR p ⟨i,j,st,wr,be,en⟩=some l):=Zh (by
      unfold txnR
      rw [if_pos (by simp only; omega)]
      simp only [Int.toNat_natCast]
      rw [HT.out]
      simp only [Option.bind_some]
      exact hl)
     have hjj:(j:Int) < nj:=by omega
     have hb3:(ad2.add j).block < w.heap.size:=by rw [block_add]; exact had2l
     have hb4:(ad2.add j).block < w.heap.size + 1:=by omega
     clear hus2 hst hv hts hul hnj hu hl hjl
     go_wp2_with fail
     go_quiet (fail)
     go_wp2_with fail
     go_quiet (fail)
     go_wp2_with fail
     go_ret2
     exact txn_some HX.out HS.out (((U1 _ _).drewN _).drewN _)
end Go.Proofs.YtmjnmpifibemjaaGreatDoor

/-
 The arguments of judge's laws: a plan, transactions that ended; what the bound on their bulk gives.
-/
import Derived.Test.YtmjnmpifibemjaaGreatDoorRows
import Derived.Test.YtmjnmpifibemjaaGreatDoorJtB15
import Derived.Test.YtmjnmpifibemjaaGreatDoorJtB4
import Derived.Test.YtmjnmpifibemjaaGreatDoorJtB12
set_option linter.unusedVariables false
set_option linter.unusedSimpArgs false
set_option maxRecDepth 100000
set_option maxHeartbeats 16000000
namespace Go.Proofs.YtmjnmpifibemjaaGreatDoor
open Go.RowKit Go.Deep Go.WideShapes Go.ChangeShapes St Jd
theorem bulk_one {H:Type} (d:DataW H):1≤Rows.uptoBulk d:=by
 cases d with
 | lit l => cases l <;> simp [Rows.uptoBulk]
 | nil => simp [Rows.uptoBulk]
 | ptr d => simp [Rows.uptoBulk]
 | slice elems spare => simp [Rows.uptoBulk]
 | agg parts => simp [Rows.uptoBulk]
 | iface t d => simp [Rows.uptoBulk]
 | map entries => simp [Rows.uptoBulk]
 | held h => simp [Rows.uptoBulk]
theorem bulk_part {H:Type} {d:DataW H} {l:List (DataW H)} (h:d ∈ l):Rows.uptoBulk d≤Rows.uptoBulkAll l:=by
 induction l with
 | nil => cases h
 | cons x r ih =>
   simp only [Rows.uptoBulkAll]
   cases List.mem_cons.1 h with
   | inl e => subst e; omega
   | inr e => have:=ih e; omega
theorem bulk_len {H:Type} (l:List (DataW H)):l.length≤Rows.uptoBulkAll l:=by
 induction l with
 | nil => simp [Rows.uptoBulkAll]
 | cons x r ih => have:=bulk_one x; simp only [Rows.uptoBulkAll,List.length_cons]; omega
theorem bulk_sizes {H:Type}:∀ (L:List Stm) (E:List (DataW H)),(∀ (i:Nat) (s:Stm) (d:DataW H),L[i]?=some s→E[i]?=some d→2 * s.size≤Rows.uptoBulk d)→L.length≤E.length→2 * sizes L≤Rows.uptoBulkAll E
 | [],E,_,_ => by have e:sizes []=0:=rfl; omega
 | s :: L,[],_,h => by simp at h
 | s :: L,d :: E,h,hl => by
   have h0:=h 0 s d rfl rfl
   have h1:=bulk_sizes L E (fun i s' d' hs hd => h (i + 1) s' d' hs hd) (by simpa using hl)
   simp only [Rows.uptoBulkAll]
   rw [sizes_cons]
   omega
section
variable {H:Type} {enc:TypeId × Value→H} {W:World} {base:Nat} {spare:Nat→Bool} {held:Bool}
theorem stms_bulk:∀ (fuel:Nat) (v:Value) (x:DataW H × List MemPlace),DataW.trod enc Tryz.prog W base spare held fuel 37 [v]=some x→∃ l,Stms W W.heap.size v l∧2 * sizes l + 1≤Rows.uptoBulk x.1:=by
 intro fuel
 induction fuel using Nat.strongRecOn with
 | _ fuel ih =>
   intro v x h
   rcases DataW.trod_slice Tryz.underlying37 h with ⟨h0,hx0⟩ | ⟨a,len,cap,elems,rest,n,hfu,hcs,hxx,_,hlc,hcm,hel,hi,_⟩
   ·simp only [List.cons.injEq,and_true] at h0
    subst h0
    exact ⟨[],.mk none 0 0 [] (fun _ => .nilIface) (fun _ => .nilIface) rfl (Nat.le_refl _) (by omega) (by simp) (by simp) (by simp),by have:=bulk_one x.1; have e:sizes []=0:=rfl; omega⟩
   ·simp only [List.cons.injEq,and_true] at hcs
    subst hcs
    have c9:Tryz.prog.cellsOf 62=9:=by kernel_rfl
    have c1:Tryz.prog.cellsOf 3=1:=by kernel_rfl
    have c2:Tryz.prog.cellsOf 60=2:=by kernel_rfl
    have cb:Tryz.prog.cellsOf 37=1:=by kernel_rfl
    rw [c9] at hi
    have key:∀ i,i < len→∃ F:(Int × Int × Int × Int × Int × Int × Int) × (List Stm × List Stm) × (Value × Value),a.block < W.heap.size∧(∀ j u,(stmCells F.1.1 F.1.2.1 F.1.2.2.1 F.1.2.2.2.1 F.1.2.2.2.2.1 F.1.2.2.2.2.2.1 F.1.2.2.2.2.2.2 F.2.2.1 F.2.2.2)[j]?=some u→W.cell? (a.add (i * 9 + j))=some u) ∧
     Stms W W.heap.size F.2.2.1 F.2.1.1∧Stms W W.heap.size F.2.2.2 F.2.1.2∧∀ d,(elems.map (·.1))[i]?=some d→2 * (1 + sizes F.2.1.1 + sizes F.2.1.2)≤Rows.uptoBulk d:=by
     intro i hlt
     have h1:=hi i hlt
     have he:elems[i]?=some (elems[i]'(by omega)):=List.getElem?_eq_getElem _
     rw [he,Option.bind_eq_some_iff] at h1
     obtain ⟨cs',hc,ht⟩:=h1
     obtain ⟨_,hcl,hat⟩:=World.cells?_some hc
     obtain ⟨v0,v1,v2,v3,v4,v5,v6,v7,v8,rfl⟩:=list9 hcl
     obtain ⟨xs,k,hk,hxk,_,hxl,hf⟩:=DataW.trod_struct Tryz.underlying62 ht
     obtain ⟨q0,q1,q2,q3,q4,q5,q6,rfl⟩:∃ q0 q1 q2 q3 q4 q5 q6,xs=[q0,q1,q2,q3,q4,q5,q6]:=by
      clear hf hxk
      match xs,hxl with
      | [q0,q1,q2,q3,q4,q5,q6],_ => exact ⟨q0,q1,q2,q3,q4,q5,q6,rfl⟩
     have t0:=hf 0 _ rfl
     have t1:=hf 1 _ rfl
     have t2:=hf 2 _ rfl
     have t3:=hf 3 _ rfl
     have t4:=hf 4 _ rfl
     have t5:=hf 5 _ rfl
     have t6:=hf 6 _ rfl
     simp only [List.getElem_toArray,List.getElem_cons_zero,List.getElem_cons_succ,c1,c2,cb,List.drop_zero,List.drop_succ_cons,List.take_succ_cons,List.take_zero,List.drop_nil,List.take_nil,List.getElem?_cons_zero,List.getElem?_cons_succ] at t0 t1 t2 t3 t4 t5 t6
     obtain ⟨y0,g0,_,_⟩:=DataW.trod_int Tryz.underlying3 t0
     obtain ⟨y1,g1,_,_⟩:=DataW.trod_int Tryz.underlying3 t1
     obtain ⟨y2,g2,_,_⟩:=DataW.trod_int Tryz.underlying3 t2
     obtain ⟨y3,y4,g3,g4⟩:=arg_of t3
     obtain ⟨y5,y6,g5,g6⟩:=arg_of t4
     simp only [List.cons.injEq,and_true] at g0 g1 g2
     subst g0 g1 g2 g3 g4 g5 g6
     obtain ⟨lb,hb,b5⟩:=ih k (by omega) v7 _ t5
     obtain ⟨le,hle,b6⟩:=ih k (by omega) v8 _ t6
     refine ⟨((y0,y1,y2,y3,y4,y5,y6),(lb,le),(v7,v8)),?_,fun j u hu => ?_,hb,hle,fun d hd => ?_⟩
     ·have h9:=hat 0 (by omega)
      have:=World.block_lt_of_cell? _ _ h9
      rwa [block_add,block_add] at this
     ·have hj:j < 9:=(List.getElem?_eq_some_iff.1 hu).1
      rw [← Go.Deep.add_add,hat j hj]
      exact hu
     ·rw [List.getElem?_map,he,Option.map_some] at hd
      injection hd with hd
      rw [hxk] at hd
      subst hd
      simp only [List.map_cons,List.map_nil,Rows.uptoBulk,Rows.uptoBulkAll]
      omega
    obtain ⟨F,hF⟩:∃ F:Nat→(Int × Int × Int × Int × Int × Int × Int) × (List Stm × List Stm) × (Value × Value),∀ i,i < len→a.block < W.heap.size∧(∀ j u,(stmCells (F i).1.1 (F i).1.2.1 (F i).1.2.2.1 (F i).1.2.2.2.1 (F i).1.2.2.2.2.1 (F i).1.2.2.2.2.2.1 (F i).1.2.2.2.2.2.2 (F i).2.2.1 (F i).2.2.2)[j]?=some u→W.cell? (a.add (i * 9 + j))=some u) ∧
     Stms W W.heap.size (F i).2.2.1 (F i).2.1.1∧Stms W W.heap.size (F i).2.2.2 (F i).2.1.2∧∀ d,(elems.map (·.1))[i]?=some d→2 * (1 + sizes (F i).2.1.1 + sizes (F i).2.1.2)≤Rows.uptoBulk d :=
     ⟨fun i => if h:i < len then (key i h).choose else ((0,0,0,0,0,0,0),([],[]),(.nilIface,.nilIface)),fun i h => by simp only [dif_pos h]; exact (key i h).choose_spec⟩
    have get:∀ k a1 a2 a3 a4 a5 a6 a7 b e,((List.range len).map fun i => Stm.mk (F i).1.1 (F i).1.2.1 (F i).1.2.2.1 (F i).1.2.2.2.1 (F i).1.2.2.2.2.1 (F i).1.2.2.2.2.2.1 (F i).1.2.2.2.2.2.2 (F i).2.1.1 (F i).2.1.2)[k]?=some (.mk a1 a2 a3 a4 a5 a6 a7 b e) →
     k < len∧(F k).1=(a1,a2,a3,a4,a5,a6,a7)∧(F k).2.1=(b,e):=by
     intro k a1 a2 a3 a4 a5 a6 a7 b e h
     have hk:k < len:=by have:=(List.getElem?_eq_some_iff.1 h).1; simpa using this
     simp only [List.getElem?_map,List.getElem?_range hk,Option.map_some,Option.some.injEq,Stm.mk.injEq] at h
     obtain ⟨h1,h2,h3,h4,h5,h6,h7,h8,h9⟩:=h
     exact ⟨hk,Prod.ext h1 (Prod.ext h2 (Prod.ext h3 (Prod.ext h4 (Prod.ext h5 (Prod.ext h6 h7))))),Prod.ext h8 h9⟩
    refine ⟨_,.mk (some a) len cap ((List.range len).map fun i => Stm.mk (F i).1.1 (F i).1.2.1 (F i).1.2.2.1 (F i).1.2.2.2.1 (F i).1.2.2.2.2.1 (F i).1.2.2.2.2.2.1 (F i).1.2.2.2.2.2.2 (F i).2.1.1 (F i).2.1.2) (fun i => (F i).2.2.1) (fun i => (F i).2.2.2) (by simp) hlc (by simpa [maxLen] using hcm)
     (fun k a1 a2 a3 a4 a5 a6 a7 b e h => ?_) (fun k a1 a2 a3 a4 a5 a6 a7 b e h => ?_) (fun k a1 a2 a3 a4 a5 a6 a7 b e h => ?_),?_⟩
    ·obtain ⟨hk,e1,e2⟩:=get _ _ _ _ _ _ _ _ _ _ h
     obtain ⟨q1,q2,_,_⟩:=hF k hk
     rw [e1] at q2
     exact ⟨a,rfl,q1,q2⟩
    ·obtain ⟨hk,e1,e2⟩:=get _ _ _ _ _ _ _ _ _ _ h
     obtain ⟨_,_,q3,_⟩:=hF k hk
     rw [e2] at q3
     exact q3
    ·obtain ⟨hk,e1,e2⟩:=get _ _ _ _ _ _ _ _ _ _ h
     obtain ⟨_,_,_,q4,_⟩:=hF k hk
     rw [e2] at q4
     exact q4
    ·have hs:=bulk_sizes ((List.range len).map fun i => Stm.mk (F i).1.1 (F i).1.2.1 (F i).1.2.2.1 (F i).1.2.2.2.1 (F i).1.2.2.2.2.1 (F i).1.2.2.2.2.2.1 (F i).1.2.2.2.2.2.2 (F i).2.1.1 (F i).2.1.2) (elems.map (·.1)) (fun i s d hs hd => by
      have hk:i < len:=by have:=(List.getElem?_eq_some_iff.1 hs).1; simpa using this
      rw [List.getElem?_map,List.getElem?_range hk] at hs
      simp only [Option.map_some,Option.some.injEq] at hs
      subst hs
      rw [size_mk]
      exact (hF i hk).2.2.2.2 d hd) (by simp; omega)
     rw [hxx]
     simp only [Rows.uptoBulk]
     omega
theorem trod_list {α:Type} {R:Value→α→Prop} {good:α→Nat→Prop} {t e:TypeId} (ht:Tryz.prog.underlying t=some (.slice e)) (hc1:Tryz.prog.cellsOf e=1) (hmono:∀ a b b',b≤b'→good a b→good a b')
 (hr:∀ fuel v (x:DataW H × List MemPlace),DataW.trod enc Tryz.prog W base spare held fuel e [v]=some x→∃ a,R v a∧good a (Rows.uptoBulk x.1)) {fuel:Nat} {v:Value} {x:DataW H × List MemPlace} (h:DataW.trod enc Tryz.prog W base spare held fuel t [v]=some x) :
 ∃ (L:List α) (vs:List Value),Src W 1 v L.length vs∧(∀ (i:Nat) u a,vs[i]?=some u→L[i]?=some a→R u a)∧L.length≤Rows.uptoBulk x.1∧L.length≤maxLen∧∀ a ∈ L,good a (Rows.uptoBulk x.1):=by
 rcases open_slice ht h with ⟨h0,_⟩ | ⟨a,len,cap,m,k,D,Pl,hcs,hb,hl,hm,hmm,hx,hi⟩
 ·simp only [List.cons.injEq,and_true] at h0
  subst h0
  exact ⟨[],[],⟨by simp,none,0,rfl,by simp⟩,fun i u a hi => by simp at hi,by simp,by simp,by simp⟩
 ·simp only [List.cons.injEq,and_true] at hcs
  subst hcs
  have hD:∀ i,i < len→Rows.uptoBulk (D i)≤Rows.uptoBulk x.1:=fun i hil => by
   rw [hx]
   have:=bulk_part (l:=(List.range len).map D) (List.mem_map.2 ⟨i,List.mem_range.2 hil,rfl⟩)
   simp only [Rows.uptoBulk]
   omega
  have hlen:len≤Rows.uptoBulk x.1:=by
   rw [hx]
   have:=bulk_len ((List.range len).map D)
   simp only [List.length_map,List.length_range] at this
   simp only [Rows.uptoBulk]
   omega
  obtain ⟨M,hM,hQ⟩:=pick_list (Q:=fun i (y:Value × α) => W.cell? (a.add i)=some y.1∧R y.1 y.2∧good y.2 (Rows.uptoBulk x.1)) len (fun i hil => by
   have him:i < m:=by rw [hmm]; split <;> omega
   obtain ⟨cs',hc,ht'⟩:=hi i him
   rw [hc1] at hc
   obtain ⟨_,hcl,hat⟩:=World.cells?_some hc
   obtain ⟨u,rfl⟩:∃ u,cs'=[u]:=List.length_eq_one_iff.1 hcl
   obtain ⟨y,h1,h2⟩:=hr _ _ _ ht'
   have h0:=hat 0 (by omega)
   rw [Nat.mul_one] at h0
   exact ⟨(u,y),h0,h1,hmono _ _ _ (hD i hil) h2⟩)
  subst hM
  refine ⟨M.map (·.2),M.map (·.1),⟨by simp,some a,cap,by simp,fun j u hj => ?_⟩,fun i u l hu hl' => ?_,by simpa using hlen,by simp; omega,fun y hy => ?_⟩
  ·rw [List.getElem?_map] at hj
   cases hx':M[j]? with
   | none => rw [hx'] at hj; cases hj
   | some z =>
     rw [hx'] at hj
     injection hj with hj
     subst hj
     have hc:=(hQ j z hx').1
     refine ⟨a,rfl,?_,hc⟩
     have:=World.block_lt_of_cell? _ _ hc
     rwa [block_add] at this
  ·rw [List.getElem?_map] at hu hl'
   cases hx':M[i]? with
   | none => rw [hx'] at hu; cases hu
   | some z =>
     rw [hx'] at hu hl'
     injection hu with hu
     injection hl' with hl'
     subst hu hl'
     exact (hQ i z hx').2.1
  ·obtain ⟨z,hz,rfl⟩:=List.mem_map.1 hy
   obtain ⟨i,hi',rfl⟩:=List.getElem_of_mem hz
   exact (hQ i _ (List.getElem?_eq_getElem hi')).2.2
theorem ints_trod {fuel:Nat} {v:Value} {x:DataW H × List MemPlace} (h:DataW.trod enc Tryz.prog W base spare held fuel 22 [v]=some x) :
 ∃ L:List Int,Src W 1 v L.length (L.map (Value.int .i64))∧L.length≤maxLen:=by
 obtain ⟨L,vs,h1,h2,_,h4,_⟩:=trod_list (R:=fun v (a:Int) => v=.int .i64 a) (good:=fun _ _ => True) Tryz.underlying22 (by kernel_rfl) (fun _ _ _ _ _ => trivial) (fun fuel v x hx => by
  obtain ⟨y,g,_,_⟩:=DataW.trod_int Tryz.underlying3 hx
  simp only [List.cons.injEq,and_true] at g
  exact ⟨y,g,trivial⟩) h
 have e:vs=L.map (Value.int .i64):=by
  apply List.ext_getElem?
  intro i
  have hl:vs.length=L.length:=by simpa using h1.1
  by_cases hi:i < L.length
  ·rw [List.getElem?_map,List.getElem?_eq_getElem hi,List.getElem?_eq_getElem (by omega),h2 i _ _ (List.getElem?_eq_getElem (by omega)) (List.getElem?_eq_getElem hi)]
   rfl
  ·rw [List.getElem?_eq_none (by omega),List.getElem?_eq_none (by simp; omega)]
 rw [e] at h1
 exact ⟨L,h1,h4⟩
theorem plan_of {v:Value} {d:DataW H} {ps:List MemPlace} {r:Reach} {b0:Nat} (hok:Value.okWide Tryz.prog W r b0 25 v) (h:DataW.Trod enc Tryz.prog W base spare held 25 v d ps) (hb:Rows.uptoBulk d≤1048576) :
 ∃ (p:Pn) (kv tv:Value),v=planC p kv tv∧PlanV W p kv tv∧SzP p∧CntP p:=by
 obtain ⟨cs,rfl,hs⟩:=okWide_struct Tryz.underlying25 hok
 obtain ⟨fuel,hf⟩:=h
 have hc:Tryz.prog.cellsOf 25=4:=by kernel_rfl
 rw [hc] at hs
 obtain ⟨l⟩:=cs
 match l,hs with
 | [v0,v1,v2,v3],_ =>
   obtain ⟨xs,n,_,hxx,_,hxl,hf⟩:=DataW.trod_struct Tryz.underlying25 hf
   have t0:=hf 0 _ rfl
   have t1:=hf 1 _ rfl
   have t2:=hf 2 _ rfl
   have t3:=hf 3 _ rfl
   have c1:Tryz.prog.cellsOf 3=1:=by kernel_rfl
   have c2:Tryz.prog.cellsOf 22=1:=by kernel_rfl
   have c3:Tryz.prog.cellsOf 23=1:=by kernel_rfl
   have hl4:xs.length=4:=hxl
   match xs,hl4 with
   | [x0,x1,x2,x3],_ =>
     simp only [Value.cells,List.getElem_toArray,List.getElem_cons_zero,List.getElem_cons_succ,c1,c2,c3,List.drop_zero,List.drop_succ_cons,List.take_succ_cons,List.take_zero,List.getElem?_cons_zero,List.getElem?_cons_succ] at t0 t1 t2 t3
     obtain ⟨y0,g0,_,_⟩:=DataW.trod_int Tryz.underlying3 t0
     obtain ⟨y1,g1,_,_⟩:=DataW.trod_int Tryz.underlying3 t1
     simp only [List.cons.injEq,and_true] at g0 g1
     subst g0 g1
     obtain ⟨ks,hk,hkm⟩:=ints_trod t2
     have hr1:∀ fuel v (x:DataW H × List MemPlace),DataW.trod enc Tryz.prog W base spare held fuel 37 [v]=some x→∃ l,Stms W W.heap.size v l∧2 * sizes l≤Rows.uptoBulk x.1:=fun fuel v x hx => by
      obtain ⟨l,h1,h2⟩:=stms_bulk fuel v x hx
      exact ⟨l,h1,by omega⟩
     have hr2:∀ fuel v (x:DataW H × List MemPlace),DataW.trod enc Tryz.prog W base spare held fuel 32 [v]=some x→∃ ts:List (List Stm),(∃ us,Src W 1 v ts.length us∧∀ (j:Nat) u l,us[j]?=some u→ts[j]?=some l→Stms W W.heap.size u l)∧(ts.length≤maxLen∧∀ l ∈ ts,2 * sizes l≤Rows.uptoBulk x.1):=fun fuel v x hx => by
      obtain ⟨ts,us,h1,h2,_,h4,h5⟩:=trod_list (R:=fun v l => Stms W W.heap.size v l) (good:=fun l b => 2 * sizes l≤b) Tryz.underlying32 (by kernel_rfl) (fun _ _ _ h1 h2 => Nat.le_trans h2 h1) hr1 hx
      exact ⟨ts,⟨us,h1,h2⟩,h4,h5⟩
     obtain ⟨ths,vs,h1,h2,_,h4,h5⟩:=trod_list (R:=fun v (ts:List (List Stm)) => ∃ us,Src W 1 v ts.length us∧∀ (j:Nat) u l,us[j]?=some u→ts[j]?=some l→Stms W W.heap.size u l) (good:=fun ts b => ts.length≤maxLen∧∀ l ∈ ts,2 * sizes l≤b) Tryz.underlying23 (by kernel_rfl) (fun _ _ _ h1 h2 => ⟨h2.1,fun l hl => Nat.le_trans (h2.2 l hl) h1⟩) hr2 t3
     have hb3:Rows.uptoBulk x3.1≤1048576:=by
      refine Nat.le_trans ?_ hb
      have e:d=.agg [x0.1,x1.1,x2.1,x3.1]:=by injection hxx
      rw [e]
      simp only [Rows.uptoBulk,Rows.uptoBulkAll]
      omega
     refine ⟨⟨y0,y1,ks,ths⟩,v2,v3,rfl,⟨hk,vs,h1,fun i v ts hv ht => h2 i v ts hv ht⟩,fun t ht l hl => ?_,?_,?_,fun t ht => ?_⟩
     ·have:=(h5 t ht).2 l hl
      omega
     ·simp only [maxLen] at hkm
      exact hkm
     ·simp only [maxLen] at h4
      exact h4
     ·have:=(h5 t ht).1
      simp only [maxLen] at this
      exact this
theorem rd_argW {α:Type} {E:Enc α} {good:α→Prop} {t e:TypeId} {v:Value} {d:DataW H} {ps:List MemPlace} {r:Reach} {b0:Nat} (ht:Tryz.prog.underlying t=some (.slice e)) (hc1:Tryz.prog.cellsOf e=E.s) (hr:∀ {fuel:Nat} {cs:List Value} {x:DataW H × List MemPlace},DataW.trod enc Tryz.prog W base spare held fuel e cs=some x→∃ a,cs=E.c a∧good a)
 (hok:Value.okWide Tryz.prog W r b0 t v) (h:DataW.Trod enc Tryz.prog W base spare held t v d ps) :
 ∃ (L:List α) (A:Option Addr) (c:Nat),v=.slice A L.length c∧L.length≤c∧c≤maxLen∧Rd E W v L∧∀ a ∈ L,good a:=by
 obtain ⟨a0,len,cap,rfl⟩:=okWide_slice ht hok
 obtain ⟨fuel,hf⟩:=h
 rcases open_slice ht hf with ⟨h0,_⟩ | ⟨a,len',cap',m,k,D,Pl,hcs,hb,hl,hm,hmm,hx,hi⟩
 ·simp only [Value.cells,List.cons.injEq,and_true] at h0
  injection h0 with h1 h2 h3
  subst h1 h2 h3
  exact ⟨[],_,_,rfl,Nat.le_refl _,by simp [maxLen],Rd.nil E W 0,by simp⟩
 ·simp only [Value.cells,List.cons.injEq,and_true] at hcs
  injection hcs with h1 h2 h3
  subst h1 h2 h3
  obtain ⟨L,hL,hQ⟩:=pick_list (Q:=fun i (x:α) => good x∧∀ j u,(E.c x)[j]?=some u→W.cell? (a.add (i * E.s + j))=some u) len (fun i hil => by
   have him:i < m:=by rw [hmm]; split <;> omega
   obtain ⟨cs',hc,ht'⟩:=hi i him
   obtain ⟨x,rfl,hg⟩:=hr ht'
   rw [hc1] at hc
   obtain ⟨_,hcl,hat⟩:=World.cells?_some hc
   refine ⟨x,hg,fun j u hu => ?_⟩
   have hj:j < E.s:=by have:=(List.getElem?_eq_some_iff.1 hu).1; rwa [E.len] at this
   rw [← Go.Deep.add_add,hat j hj]
   exact hu)
  subst hL
  refine ⟨L,some a,cap,rfl,hl,hm,⟨flat_len,some a,cap,rfl,fun j u hj => ?_⟩,fun x hx => ?_⟩
  ·have hjl:=(List.getElem?_eq_some_iff.1 hj).1
   rw [flat_len] at hjl
   have hk:j / E.s < L.length:=Nat.div_lt_of_lt_mul (by rw [Nat.mul_comm]; exact hjl)
   have hr':j % E.s < E.s:=Nat.mod_lt _ E.pos
   obtain ⟨x,hx⟩:∃ x,L[j / E.s]?=some x:=⟨_,List.getElem?_eq_getElem hk⟩
   have he:j / E.s * E.s + j % E.s=j:=by rw [Nat.mul_comm]; exact Nat.div_add_mod j E.s
   have hg:=flat_get (E:=E) hx hr'
   rw [he,hj] at hg
   have hc:=(hQ _ x hx).2 _ u hg.symm
   rw [he] at hc
   refine ⟨a,rfl,?_,hc⟩
   have:=World.block_lt_of_cell? _ _ hc
   rwa [block_add] at this
  ·obtain ⟨i,hi',rfl⟩:=List.getElem_of_mem hx
   exact (hQ i _ (List.getElem?_eq_getElem hi')).1
theorem en_read {fuel:Nat} {cs:List Value} {x:DataW H × List MemPlace} (h:DataW.trod enc Tryz.prog W base spare held fuel 42 cs=some x):∃ m:En,cs=encE.c m∧(EnOk W m∧m.tn≤9223372036854775807):=by
 have c9:Tryz.prog.cellsOf 42=9:=by kernel_rfl
 have c6:Tryz.prog.cellsOf 39=6:=by kernel_rfl
 have c1:Tryz.prog.cellsOf 3=1:=by kernel_rfl
 have cs1:Tryz.prog.cellsOf 22=1:=by kernel_rfl
 have ce:Tryz.prog.cellsOf 40=1:=by kernel_rfl
 obtain ⟨m,rfl,_⟩:=reads_en.2 h
 refine ⟨m,rfl,?_⟩
 obtain ⟨xs,n,_,_,hl,hxl,hf⟩:=DataW.trod_struct Tryz.underlying42 h
 have t2:=hf 2 _ rfl
 have hx2:xs[2]?=some (xs[2]'(by rw [hxl]; decide)):=List.getElem?_eq_getElem _
 rw [hx2] at t2
 have ec:encE.c m=[.int .i64 m.th,.int .i64 m.ix,.int .i64 m.st,.bool m.wr,.int .i64 m.be,.int .i64 m.en,.int .i64 m.kd,.slice m.ta m.tn m.tc,.int .i64 m.er]:=rfl
 rw [ec] at t2
 simp only [List.getElem_toArray,List.getElem_cons_zero,List.getElem_cons_succ,c1,c6,cs1,ce,List.drop_zero,List.drop_succ_cons,List.take_succ_cons,List.take_zero,List.drop_nil,List.take_nil] at t2
 obtain ⟨L,hL,hm⟩:=ints_trod t2
 obtain ⟨A,c,e⟩:∃ A c,Value.slice m.ta m.tn m.tc=.slice A L.length c:=by obtain ⟨_,A,c,e,_⟩:=hL; exact ⟨A,c,e⟩
 have e2:m.tn=L.length:=by injection e
 rw [← e2] at hL
 have et:=tlW_eq hL
 refine ⟨by unfold EnOk; rw [et]; exact hL,by rw [e2]; simpa [maxLen] using hm⟩
theorem eds_of {v:Value} {d:DataW H} {ps:List MemPlace} {r:Reach} {b0:Nat} (hok:Value.okWide Tryz.prog W r b0 31 v) (h:DataW.Trod enc Tryz.prog W base spare held 31 v d ps) :
 ∃ (L:List En) (A:Option Addr) (c:Nat),v=.slice A L.length c∧L.length≤c∧c≤9223372036854775807∧Rd encE W (.slice A L.length c) L∧∀ m ∈ L,EnOk W m∧m.tn≤9223372036854775807:=by
 obtain ⟨L,A,c,h1,h2,h3,h4,h5⟩:=rd_argW Tryz.underlying31 (by kernel_rfl) en_read hok h
 exact ⟨L,A,c,h1,h2,by simpa [maxLen] using h3,by rw [← h1]; exact h4,h5⟩
end
end Go.Proofs.YtmjnmpifibemjaaGreatDoor
namespace Go.Proofs.YtmjnmpifibemjaaGreatDoor
open Go.RowKit St Jd Ev
attribute [local go_sem] litStep_value
theorem attsR_edsW (w:World) (M:List En):attsR (edsW w M)=M.map attE:=by
 unfold attsR edsW
 rw [List.map_map]
 rfl
theorem edsW_upd {w w':World} {M:List En} (h:∀ m ∈ M,EnOk w m) (hu:Upd [] w w'):edsW w' M=edsW w M:=by
 unfold edsW
 exact List.map_congr_left fun m hm => edW_upd (h m hm) hu
structure AllSt (p:Pn) (d:List Ed) (od:List Nat) (sts:List MP.MS):Prop where
 ol:od.length=d.length
 sl:sts.length=d.length + 1
 at_:∀ k,k≤d.length→sts[k]?=some (stN p (seqR d) k)
theorem seen_yes {p:Pn} {d:List Ed} {x:Ed} {k:Nat} (hk:k≤d.length) (hb:wth (attsR d) x.a.be≤k) (ht:toldB p x (stN p (seqR d) k)=true):seenR p d x=true:=by
 unfold seenR
 rw [List.any_eq_true]
 exact ⟨k,by simp; omega,by rw [decide_eq_true hb,ht]; rfl⟩
theorem seen_no {p:Pn} {d:List Ed} {x:Ed} (h:∀ i,wth (attsR d) x.a.be≤i→i < d.length + 1→toldB p x (stN p (seqR d) i)=false):seenR p d x=false:=by
 unfold seenR
 rw [List.any_eq_false]
 intro i hi
 by_cases hb:wth (attsR d) x.a.be≤i
 ·rw [h i hb (by simpa using hi)]; simp
 ·rw [decide_eq_false hb]; simp
theorem seen_ok {B jb:Nat} {p:Pn} {kv tv dv ov av:Value} {M:List En} {od:List Nat} {sts:List MP.MS} {fp:List (Nat × List Nat)} (w:World) (h:JSt B jb p kv tv dv ov av M od sts fp w) (hf:FitP p) (hz:SzP p) (m:En) (hm:EnOk w m) (h1k:m.tn≤300000) {l:List Stm} (hx:txnR p (attE m)=some l)
 (hM:M.length≤40) (d:List Ed) (hd:d=edsW w M) (ha:AllSt p d od sts) :
 Calls Tryz.prog 32 #[.pointer (some ⟨jb,0,none⟩),.agg (enCells m).toArray] w fun e w' => e=.returned (.bool (seenR p d (edW w m)))∧Upd [] w w':=by
 obtain ⟨Ad,cd,rfl,_,_⟩:=own_slice h.dn
 obtain ⟨Ao,co,rfl,_,_⟩:=own_slice h.od
 have HJ:=Zh h
 have HF:=Zh (And.intro hf hz)
 have HM:=Zh hm
 have HX:=Zh hx
 have H1K:=Zh h1k
 have HD:=Zh hd
 have HA:=Zh ha
 obtain ⟨n,hn⟩:∃ n,n=M.length:=⟨_,rfl⟩
 have hdl:d.length=n:=by rw [hd,hn]; simp [edsW]
 have HN:Hid (n=M.length∧n≤40∧d.length=n∧od.length=n):=Zh ⟨hn,by omega,hdl,by rw [ha.ol,hdl]⟩
 have hn40:(n:Int)≤40:=by omega
 obtain ⟨b0,hb0⟩:∃ b0,b0=wth (attsR d) m.be:=⟨_,rfl⟩
 have HB0:=Zh hb0
 have hbe:(b0:Int)≤n:=by
  have:=wthK_le (attsR d) (srt (ahd (attsR d)) (List.range (attsR d).length)) m.be (attsR d).length
  have hl:(attsR d).length=n:=by rw [← hdl]; simp [attsR]
  unfold wth at hb0
  omega
 clear h hf hz hm hx h1k hd ha hn hdl hM hb0
 simp only [enCells]
 go_enter Tryz.func32,Tryz.ntmps32
 have W1:Upd [] w (w.alloc (.cells #[.int .i64 m.th,.int .i64 m.ix,.int .i64 m.st,.bool m.wr,.int .i64 m.be,.int .i64 m.en,.int .i64 m.kd,.slice m.ta m.tn m.tc,.int .i64 m.er] 42)):=(Upd.refl _ _).alloc _
 have BX:Hid (Blk (w.alloc (.cells #[.int .i64 m.th,.int .i64 m.ix,.int .i64 m.st,.bool m.wr,.int .i64 m.be,.int .i64 m.en,.int .i64 m.kd,.slice m.ta m.tn m.tc,.int .i64 m.er] 42)) w.heap.size 42 #[.int .i64 m.th,.int .i64 m.ix,.int .i64 m.st,.bool m.wr,.int .i64 m.be,.int .i64 m.en,.int .i64 m.kd,.slice m.ta m.tn m.tc,.int .i64 m.er]):=Zh (Blk.new w _ _)
 go_wp2_with fail
 generalize hwb:(w.alloc (.cells #[.int .i64 m.th,.int .i64 m.ix,.int .i64 m.st,.bool m.wr,.int .i64 m.be,.int .i64 m.en,.int .i64 m.kd,.slice m.ta m.tn m.tc,.int .i64 m.er] 42))=wb at *
 have UB:=Zh W1
 clear hwb W1
 have CS:Hid (∀ W,Upd [] wb.drew W→W.cell? ⟨jb,4,none⟩=some (.slice Ad n cd)∧W.cell? ⟨w.heap.size,4,none⟩=some (.int .i64 m.be)):=Zh (fun W hW => by
  have hu:Upd [] wb W:=(Upd.refl [] wb).drew.trans hW
  have h1:=(HJ.out.box.upd (UB.out.trans hu) (by simp)).cell 4
  have h2:=(BX.out.upd hu (by simp)).cell 4
  rw [← HN.out.1] at h1
  exact ⟨h1,h2⟩)
 refine wp_invN [(4,.own w.heap.size 39 6 n (flat encA (M.map attE))),(8,.det (.int .i64 b0))] [] (by kernel_rfl) (by kernel_rfl) (by kernel_rfl) ⟨lasts_own _ _ _ _ _ (by have:=HN.out; unfold maxLen; omega),lasts_det _,trivial⟩ ?_
 iterate 4 (
  with_reducible apply wpV_light
  ·simp only [lightOp]
  ·intro W hU hF
   have f0:=CS.out W hU
   clear hU hF
   go_simp
   exact rfl
  simp only [aP])
 refine wpV_heavy (by simp only [lightOp]) (by rfl) (fun W hU hk hF K hK => ?_) ?_
 ·go_wp2_with fail
  have hu:Upd [] w W:=UB.out.trans ((Upd.refl [] wb).drew.trans hU)
  refine (attempts_ok Ad n cd M W (by rw [HN.out.1]; exact (HJ.out.dn.upd0 hu).rd) HN.out.1.symm (by have:=HN.out; omega)).mono ?_
  rintro e w2 ⟨v2,rfl,o2,u2⟩
  go_wp2_with fail
  refine hK.out _ _ (outV_new rfl ?_ ?_ u2)
  ·have o3:w2.ownsRow w.heap.size 39 6 v2 n (flat encA (M.map attE)):=own_base (by have:=o2; unfold Ow at this; rw [List.length_map,← HN.out.1] at this; exact this) hu.size
   exact o3
  ·intro b hb
   have hb1:b ∈ v2.ownBlock.toList:=hb
   have hb2:v2.ownBlock=some b:=by simpa using hb1
   exact own_lt o2 hb2
 rintro _ ⟨A2,c2,rfl,_,_⟩
 simp only [aP]
 iterate 3 (
  with_reducible apply wpV_light
  ·simp only [lightOp]
  ·intro W hU hF
   have f0:=CS.out W hU
   clear hU hF
   go_simp
   exact rfl
  simp only [aP])
 refine wpV_heavy (by simp only [lightOp]) (by rfl) (fun W hU hk hF K hK => ?_) ?_
 ·go_wp2_with fail
  have o2:W.ownsRow w.heap.size 39 6 (.slice A2 n c2) n (flat encA (M.map attE)):=hF.out.1 (by kernel_rfl)
  have hr:Rd encA W (.slice A2 n c2) (attsR d):=by
   rw [HD.out,attsR_edsW]
   have:=Src.of_own o2
   unfold Rd
   rw [List.length_map,← HN.out.1]
   exact this
  refine (within_ok A2 n c2 (attsR d) m.be W (atts_rd hr) (by have:=HN.out; simp [attsR]; omega) (by have:=HN.out; omega)).mono ?_
  rintro e w3 ⟨rfl,u3⟩
  rw [← HB0.out]
  go_wp2_with fail
  exact hK.out _ _ (outV_new rfl rfl (by intro b hb; cases hb) u3)
 rintro _ rfl
 simp only [aP]
 with_reducible apply wpV_light
 ·simp only [lightOp]
 ·intro W hU hF
  have f0:=CS.out W hU
  clear hU hF
  go_simp
  exact rfl
 simp only [aP]
 refine wpV_end (fun W hU _ _ => ?_)
 have UW:Hid (Upd [] w W):=Zh (UB.out.trans ((Upd.refl [] wb).drew.trans hU))
 have BW:Hid (Blk W w.heap.size 42 #[.int .i64 m.th,.int .i64 m.ix,.int .i64 m.st,.bool m.wr,.int .i64 m.be,.int .i64 m.en,.int .i64 m.kd,.slice m.ta m.tn m.tc,.int .i64 m.er]):=Zh (BX.out.upd ((Upd.refl [] wb).drew.trans hU) (by simp))
 clear hU
 refine wpT_end ?_
 go_wp2_with fail
 go_loopw [5] (fun u5 wr => ∃ k:Nat,u5=.int .i64 k∧k≤n + 1∧b0≤k∧Hid (Upd [] W wr)∧Hid (∀ i,b0≤i→i < k→toldB p (edW w m) (stN p (seqR d) i)=false)) (fun u _ => n + 1 - (intOf u).toNat)
 case atStart => exact ⟨b0,rfl,by omega,Nat.le_refl _,Zh (.refl _ _),Zh (fun i h1 h2 => by omega)⟩
 case round =>
  obtain ⟨k,rfl,hk,hbk,UR,KR⟩:=hrel
  have b1:=(HJ.out.box.upd (UW.out.trans UR.out) (by simp)).facts
  have b2:=(BW.out.upd UR.out (by simp)).facts
  have e0:od.length=n:=HN.out.2.2.2
  rw [e0] at b1
  by_cases hlt:k≤n
  ·have hki:(k:Int)≤n:=by omega
   have HK:=Zh (And.intro hlt hbk)
   clear hk hlt hbk e0
   go_wp2_with fail
   have hjw:=HJ.out.upd0 (UW.out.trans UR.out)
   have hs:sts[k]?=some (stN p (seqR d) k):=HA.out.at_ k (by rw [HN.out.2.2.1]; exact HK.out.1)
   refine (told_ok wr hjw HF.out.1 HF.out.2 m (HM.out.upd0 (UW.out.trans UR.out)).1 H1K.out HX.out k hs (st_n p _ k) (by rw [HA.out.sl,HN.out.2.2.1]; have:=HN.out; omega)).mono ?_
   rintro e w4 ⟨rfl,u4⟩
   have ED:edW wr m=edW w m:=edW_upd HM.out (UW.out.trans UR.out)
   rw [ED]
   have U4:=Zh (UR.out.trans u4)
   clear hjw hs u4 ED b1 b2
   cases hb:toldB p (edW w m) (stN p (seqR d) k) with
   | true =>
     have HSE:Hid (seenR p d (edW w m)=true):=Zh (seen_yes (by rw [HN.out.2.2.1]; exact HK.out.1) (by have:=HB0.out; have:=HK.out.2; show wth (attsR d) m.be≤k; omega) hb)
     clear hb
     go_wp2_with fail
     go_ret
     rw [HSE.out]
     exact ⟨rfl,UW.out.trans U4.out⟩
   | false =>
     have KR2:Hid (∀ i,b0≤i→i < k + 1→toldB p (edW w m) (stN p (seqR d) i)=false):=Zh (fun i h1 h2 => by
      by_cases e:i=k
      ·rw [e]; exact hb
      ·exact KR.out i h1 (by omega))
     clear hb
     go_wp2_with fail
     go_round
     case rel => exact ⟨k + 1,by simp,by have:=HK.out; omega,by have:=HK.out; omega,U4,KR2⟩
     case measure => have:=HK.out; simp [intOf]; omega
  ·have hki:¬ (k:Int)≤n:=by omega
   have HSE:Hid (seenR p d (edW w m)=false):=Zh (seen_no (fun i h1 h2 => KR.out i (by rw [HB0.out]; exact h1) (by have:=HN.out.2.2.1; omega)))
   go_wp2_with fail
   go_ret
   rw [HSE.out]
   exact ⟨rfl,UW.out.trans UR.out⟩
end Go.Proofs.YtmjnmpifibemjaaGreatDoor
namespace Go.Proofs.YtmjnmpifibemjaaGreatDoor
open Go.RowKit Assoc MP
attribute [local go_sem] litStep_value
def kOk (k:Int):Bool:=decide (1≤k∧k≤3)
def badK (xs:List Int):Option Nat:=xs.findIdx? (fun k => !kOk k)
def newS (xs:List Int):MS:=⟨xs,List.replicate xs.length []⟩
theorem good_newS {xs:List Int} (h:xs.length≤8):MP.Good (newS xs):=by
 refine ⟨by simp [newS],fun l hl => ?_,fun l hl => ?_,h,fun l hl => ?_⟩ <;> (have:=List.eq_of_mem_replicate hl; subst this)
 ·exact .nil
 ·simp
 ·simp
theorem badK_at {xs:List Int} {k:Nat} (h:∀ j,j < k→kOk (xs.getD j 0)=true) {y:Int} (hy:xs[k]?=some y) (hb:kOk y=false):badK xs=some k:=by
 unfold badK
 obtain ⟨hk,rfl⟩:=List.getElem?_eq_some_iff.1 hy
 rw [List.findIdx?_eq_some_iff_getElem]
 refine ⟨hk,by simp [hb],fun j hj => ?_⟩
 have:=h j hj
 rw [List.getD_eq_getElem?_getD,List.getElem?_eq_getElem (by omega)] at this
 simpa using this
theorem badK_no {xs:List Int} (h:∀ j,j < xs.length→kOk (xs.getD j 0)=true):badK xs=none:=by
 unfold badK
 rw [List.findIdx?_eq_none_iff]
 intro x hx
 obtain ⟨j,hj,rfl⟩:=List.getElem_of_mem hx
 have:=h j hj
 rw [List.getD_eq_getElem?_getD,List.getElem?_eq_getElem hj] at this
 simpa using this
def MNewPost (xs:List Int) (w:World) (e:Ending) (w':World):Prop:=Upd [] w w' ∧
 ((∃ i g,badK xs=some i∧e=.returned (.tuple #[.pointer none,.iface 96 (.pointer (some ⟨g,0,none⟩))])∧Blk w' g 100 #[.int .i64 ((i:Int) + 1),.int .i64 17]) ∨
  (badK xs=none∧8 < xs.length∧e=.returned (.tuple #[.pointer none,.iface 40 (.int .i64 8)])) ∨
  (badK xs=none∧xs.length≤8∧∃ sb F,e=.returned (.tuple #[.pointer (some ⟨sb,0,none⟩),.nilIface])∧Mdl w.heap.size sb F w' (newS xs)))
theorem m_new (A:Option Addr) (n c:Nat) (xs:List Int) (w:World) (h:Rd encK w (.slice A n c) xs) (hn:xs.length=n) (hl:n≤1000) :
 Calls Tryz.prog 57 #[.slice A n c] w fun e w' => MNewPost xs w e w':=by
 have hm1:∀ w,(Instr.makeMap 149 none).run Tryz.prog w=.ok (.map (some w.heap.size)) (w.alloc (.map #[] 0)):=fun _ => by kernel_rfl
 have HR:=Zh h
 have HN:=Zh hn
 clear h hn
 go_enter Tryz.func57,Tryz.ntmps57
 go_wp2_with fail
 refine (clone_ints A n c xs w HR.out HN.out hl).mono ?_
 rintro e w1 ⟨v,rfl,o1,u1⟩
 obtain ⟨A1,k1,rfl,_,_⟩:=own_slice o1
 have O1:=Zh o1
 have U1:=Zh u1
 clear o1 u1
 obtain ⟨nk,hnk⟩:∃ nk,xs.length=nk:=⟨_,rfl⟩
 rw [hnk] at O1 ⊢
 have HNK:=Zh hnk
 clear hnk
 have UX:Hid (Upd [] w1 ((w1.alloc (.cells #[] 149)).alloc (.cells #[.slice A1 nk k1,.slice (some ⟨w1.heap.size,0,none⟩) 0 0] 148))):=Zh (((Upd.refl [] w1).alloc _).alloc _)
 have h2:(w1.alloc (.cells #[] 149)).heap.size=w1.heap.size + 1:=by simp
 have C0:Hid (MdlSt w.heap.size (w1.heap.size + 1) (.slice A1 nk k1) w1.heap.size 0 [] ((w1.alloc (.cells #[] 149)).alloc (.cells #[.slice A1 nk k1,.slice (some ⟨w1.heap.size,0,none⟩) 0 0] 148)) ⟨xs,List.replicate 0 []⟩):=Zh ⟨Blk.newAt 148 _ h2,O1.out.upd0 UX.out,own_made 1 ((Blk.new w1 149 #[]).upd ((Upd.refl [] _).alloc _) (by simp)) U1.out.size,by simp,.nil,by have:=U1.out.size; omega,by simp⟩
 go_wp2_with fail
 generalize ((w1.alloc (.cells #[] 149)).alloc (.cells #[.slice A1 nk k1,.slice (some ⟨w1.heap.size,0,none⟩) 0 0] 148))=w2 at *
 have U2:=Zh (U1.out.trans UX.out)
 obtain ⟨ob,hob⟩:∃ ob,w1.heap.size + 1=ob:=⟨_,rfl⟩
 rw [hob] at C0
 try rw [h2]
 try rw [hob]
 clear h2 hob UX
 go_loopw [14] (fun v wr => ∃ k:Nat,v=.int .i64 k∧k≤n∧Hid (∀ j,j < k→kOk (xs.getD j 0)=true)∧Hid ((∃ gc1 cc1 ms1,MdlSt w.heap.size ob (.slice A1 nk k1) gc1 cc1 ms1 wr ⟨xs,List.replicate k []⟩)∧Upd [] w wr)) (fun v _ => n - (intOf v).toNat)
 case atStart => exact ⟨0,rfl,by omega,Zh (fun j hj => by omega),Zh ⟨⟨_,_,_,C0.out⟩,U2.out⟩⟩
 case round =>
  obtain ⟨k,rfl,hk,HOK,HK⟩:=hrel
  obtain ⟨⟨gc1,cc1,ms1,hst⟩,hu⟩:=HK.out
  rename World => wi
  have ST:=Zh hst
  have UI:=Zh hu
  have OB:Hid (Blk wi ob 148 #[.slice A1 nk k1,.slice (some ⟨gc1,0,none⟩) k cc1]):=Zh (by have:=hst.box; rwa [show (⟨xs,List.replicate k []⟩:MS).L.length=k by simp] at this)
  have ON:Hid (wi.ownsRow w.heap.size 149 1 (.slice (some ⟨gc1,0,none⟩) k cc1) k (mapsV ms1)):=Zh (by have:=hst.c; rwa [show (⟨xs,List.replicate k []⟩:MS).L.length=k by simp] at this)
  clear HK hst hu C0
  by_cases hkn:k < n
  ·obtain ⟨y,hy⟩:∃ y,xs[k]?=some y:=⟨_,List.getElem?_eq_getElem (by rw [HN.out]; exact hkn)⟩
   obtain ⟨ad,rfl,hlt,hcells⟩:=(HR.out.upd0 UI.out).at_ hy
   have e0:wi.cell? (ad.add k)=some (.int .i64 y):=by have:=hcells 0 _ rfl; rwa [show k * encK.s + 0=k by simp [encI]] at this
   have HY:=Zh hy
   have q1:(0:Int)≤(k:Int):=by omega
   have q2:(k:Int) < (n:Int):=by omega
   clear hy hcells
   by_cases h1:y=1
   ·have d1:(y == 1)=true:=by simpa using h1
    have HOKY:Hid (kOk y=true):=Zh (by rw [h1]; rfl)
    clear h1
    have HO2:Hid (∀ j,j < k + 1→kOk (xs.getD j 0)=true):=Zh (fun j hj => by
     rcases Nat.lt_or_ge j k with h1 | h1
     ·exact HOK.out j h1
     ·obtain rfl:j=k:=by omega
      rw [List.getD_eq_getElem?_getD,HY.out]
      exact HOKY.out)
    have y1:wi.cell? ⟨ob,1,none⟩=some (.slice (some ⟨gc1,0,none⟩) k cc1):=OB.out.cell 1
    go_wp2_with (at_builtin; refine stopped ?_)
    refine Zh ?_
    refine wpList_app _ (by rfl) (.tmp 29) (.tmp 31) _ (by rfl) elem_map (.slice (some ⟨gc1,0,none⟩) k cc1) _ (by rfl) (by rfl) (own_upd0 ON.out (((Upd.refl [] wi).alloc (.map #[] 0)).alloc (.cells #[.map (some wi.heap.size)] 149))) (.of_blk (Blk.newAt 149 #[.map (some wi.heap.size)] (H:=wi.heap.size + 1) (by simp)) (m:=1) 1 rfl) (by intro u hu; simp at hu; subst hu; rfl) (by simp only [maxLen]; omega) (by omega) (Nat.le_trans UI.out.size (by simp; omega)) ?_
    intro v7 w7 o7 u7 b7
    have U6:Hid (Upd [] wi ((wi.alloc (.map #[] 0)).alloc (.cells #[.map (some wi.heap.size)] 149))):=Zh (((Upd.refl [] wi).alloc _).alloc _)
    have IM6:Hid (IMap ((wi.alloc (.map #[] 0)).alloc (.cells #[.map (some wi.heap.size)] 149)) .i64 wi.heap.size (mapI []) 0):=Zh (((IMap.new wi .i64).upd ((Upd.refl [] _).alloc _) (by simp)).congr (fun _ => rfl))
    have O7:Hid (w7.ownsRow w.heap.size 149 1 v7 (k + 1) (mapsV ms1 ++ [.map (some wi.heap.size)])):=Zh o7
    have U7:=Zh u7
    obtain ⟨g7,cg7,cur7,rfl,_⟩:=own_form O7.out (by omega)
    have OB7:=Zh ((OB.out.upd U6.out (by simp)).upd u7 (by intro hm; exact own_type ON.out OB.out (by decide) (by simpa using hm)))
    clear o7 u7 b7 y1 e0
    have z3:w7.cell? ⟨ob,1,none⟩=some (.slice (some ⟨gc1,0,none⟩) k cc1):=OB7.out.cell 1
    have z4:w7.frozen? ⟨ob,1,none⟩=false:=OB7.out.frozen 1
    have z5:ob < w7.heap.size:=OB7.out.lt
    have U8:Hid (Upd [ob] w7 (w7.setCell ⟨ob,1,none⟩ (.slice (some ⟨g7,0,none⟩) (k + 1) cg7))):=Zh ((Upd.refl [ob] w7).setCell (.inl (by simp)) _)
    have ST8:Hid (∃ gc1 cc1 ms1,MdlSt w.heap.size ob (.slice A1 nk k1) gc1 cc1 ms1 (w7.setCell ⟨ob,1,none⟩ (.slice (some ⟨g7,0,none⟩) (k + 1) cg7)) ⟨xs,List.replicate (k + 1) []⟩):=Zh (by
     have UT:Upd [ob,gc1] wi (w7.setCell ⟨ob,1,none⟩ (.slice (some ⟨g7,0,none⟩) (k + 1) cg7)):=((U6.out.mono (by simp)).trans (U7.out.mono (by intro y hy; simp [Value.ownBlock] at hy; subst hy; exact .inl (by simp)))).trans (U8.out.mono (by simp))
     have IMX:IMap (w7.setCell ⟨ob,1,none⟩ (.slice (some ⟨g7,0,none⟩) (k + 1) cg7)) .i64 wi.heap.size (mapI []) ([]:AL).length:=by
      have im7:=IM6.out.upd U7.out (by simp [Value.ownBlock]; intro e; have:=(own_lt ON.out (b:=gc1) rfl).2; omega)
      exact im7.upd U8.out (by simp; intro e; have:=OB.out.lt; omega)
     have hp:=ST.out.push (m:=wi.heap.size) (l:=[]) (gc':=g7) (cc':=cg7) UT (by rw [show (⟨xs,List.replicate k []⟩:MS).L.length=k by simp]; exact OB7.out.set_eq rfl) (by rw [show (⟨xs,List.replicate k []⟩:MS).L.length=k by simp]; exact own_upd O7.out U8.out (by intro b hb; simp; rintro rfl; exact own_type O7.out OB7.out (by decide) hb)) IMX (Nat.le_refl _) UI.out.size
     rw [List.replicate_succ']
     exact ⟨_,_,_,hp⟩)
    have UI8:Hid (Upd [] w (w7.setCell ⟨ob,1,none⟩ (.slice (some ⟨g7,0,none⟩) (k + 1) cg7))):=Zh (by
     have h1:=(UI.out.trans U6.out).trans' U7.out (fun x hx => .inr (own_lt ON.out (by simpa using hx)).1)
     exact h1.trans' U8.out (fun x hx => by simp at hx; subst hx; exact .inr ST.out.bs))
    go_wp2_with fail
    go_roundw
    case rel => exact ⟨k + 1,by go_num,by omega,HO2,Zh ⟨ST8.out,UI8.out⟩⟩
    case measure => simp [intOf]; omega
   have d1:(y == 1)=false:=by simpa using h1
   by_cases h2:y=2
   ·have d2:(y == 2)=true:=by simpa using h2
    have HOKY:Hid (kOk y=true):=Zh (by rw [h2]; rfl)
    clear h1 h2
    have HO2:Hid (∀ j,j < k + 1→kOk (xs.getD j 0)=true):=Zh (fun j hj => by
     rcases Nat.lt_or_ge j k with h1 | h1
     ·exact HOK.out j h1
     ·obtain rfl:j=k:=by omega
      rw [List.getD_eq_getElem?_getD,HY.out]
      exact HOKY.out)
    have y1:wi.cell? ⟨ob,1,none⟩=some (.slice (some ⟨gc1,0,none⟩) k cc1):=OB.out.cell 1
    go_wp2_with (at_builtin; refine stopped ?_)
    refine Zh ?_
    refine wpList_app _ (by rfl) (.tmp 29) (.tmp 31) _ (by rfl) elem_map (.slice (some ⟨gc1,0,none⟩) k cc1) _ (by rfl) (by rfl) (own_upd0 ON.out (((Upd.refl [] wi).alloc (.map #[] 0)).alloc (.cells #[.map (some wi.heap.size)] 149))) (.of_blk (Blk.newAt 149 #[.map (some wi.heap.size)] (H:=wi.heap.size + 1) (by simp)) (m:=1) 1 rfl) (by intro u hu; simp at hu; subst hu; rfl) (by simp only [maxLen]; omega) (by omega) (Nat.le_trans UI.out.size (by simp; omega)) ?_
    intro v7 w7 o7 u7 b7
    have U6:Hid (Upd [] wi ((wi.alloc (.map #[] 0)).alloc (.cells #[.map (some wi.heap.size)] 149))):=Zh (((Upd.refl [] wi).alloc _).alloc _)
    have IM6:Hid (IMap ((wi.alloc (.map #[] 0)).alloc (.cells #[.map (some wi.heap.size)] 149)) .i64 wi.heap.size (mapI []) 0):=Zh (((IMap.new wi .i64).upd ((Upd.refl [] _).alloc _) (by simp)).congr (fun _ => rfl))
    have O7:Hid (w7.ownsRow w.heap.size 149 1 v7 (k + 1) (mapsV ms1 ++ [.map (some wi.heap.size)])):=Zh o7
    have U7:=Zh u7
    obtain ⟨g7,cg7,cur7,rfl,_⟩:=own_form O7.out (by omega)
    have OB7:=Zh ((OB.out.upd U6.out (by simp)).upd u7 (by intro hm; exact own_type ON.out OB.out (by decide) (by simpa using hm)))
    clear o7 u7 b7 y1 e0
    have z3:w7.cell? ⟨ob,1,none⟩=some (.slice (some ⟨gc1,0,none⟩) k cc1):=OB7.out.cell 1
    have z4:w7.frozen? ⟨ob,1,none⟩=false:=OB7.out.frozen 1
    have z5:ob < w7.heap.size:=OB7.out.lt
    have U8:Hid (Upd [ob] w7 (w7.setCell ⟨ob,1,none⟩ (.slice (some ⟨g7,0,none⟩) (k + 1) cg7))):=Zh ((Upd.refl [ob] w7).setCell (.inl (by simp)) _)
    have ST8:Hid (∃ gc1 cc1 ms1,MdlSt w.heap.size ob (.slice A1 nk k1) gc1 cc1 ms1 (w7.setCell ⟨ob,1,none⟩ (.slice (some ⟨g7,0,none⟩) (k + 1) cg7)) ⟨xs,List.replicate (k + 1) []⟩):=Zh (by
     have UT:Upd [ob,gc1] wi (w7.setCell ⟨ob,1,none⟩ (.slice (some ⟨g7,0,none⟩) (k + 1) cg7)):=((U6.out.mono (by simp)).trans (U7.out.mono (by intro y hy; simp [Value.ownBlock] at hy; subst hy; exact .inl (by simp)))).trans (U8.out.mono (by simp))
     have IMX:IMap (w7.setCell ⟨ob,1,none⟩ (.slice (some ⟨g7,0,none⟩) (k + 1) cg7)) .i64 wi.heap.size (mapI []) ([]:AL).length:=by
      have im7:=IM6.out.upd U7.out (by simp [Value.ownBlock]; intro e; have:=(own_lt ON.out (b:=gc1) rfl).2; omega)
      exact im7.upd U8.out (by simp; intro e; have:=OB.out.lt; omega)
     have hp:=ST.out.push (m:=wi.heap.size) (l:=[]) (gc':=g7) (cc':=cg7) UT (by rw [show (⟨xs,List.replicate k []⟩:MS).L.length=k by simp]; exact OB7.out.set_eq rfl) (by rw [show (⟨xs,List.replicate k []⟩:MS).L.length=k by simp]; exact own_upd O7.out U8.out (by intro b hb; simp; rintro rfl; exact own_type O7.out OB7.out (by decide) hb)) IMX (Nat.le_refl _) UI.out.size
     rw [List.replicate_succ']
     exact ⟨_,_,_,hp⟩)
    have UI8:Hid (Upd [] w (w7.setCell ⟨ob,1,none⟩ (.slice (some ⟨g7,0,none⟩) (k + 1) cg7))):=Zh (by
     have h1:=(UI.out.trans U6.out).trans' U7.out (fun x hx => .inr (own_lt ON.out (by simpa using hx)).1)
     exact h1.trans' U8.out (fun x hx => by simp at hx; subst hx; exact .inr ST.out.bs))
    go_wp2_with fail
    go_roundw
    case rel => exact ⟨k + 1,by go_num,by omega,HO2,Zh ⟨ST8.out,UI8.out⟩⟩
    case measure => simp [intOf]; omega
   have d2:(y == 2)=false:=by simpa using h2
   by_cases h3:y=3
   ·have d3:(y == 3)=true:=by simpa using h3
    have HOKY:Hid (kOk y=true):=Zh (by rw [h3]; rfl)
    clear h1 h2 h3
    have HO2:Hid (∀ j,j < k + 1→kOk (xs.getD j 0)=true):=Zh (fun j hj => by
     rcases Nat.lt_or_ge j k with h1 | h1
     ·exact HOK.out j h1
     ·obtain rfl:j=k:=by omega
      rw [List.getD_eq_getElem?_getD,HY.out]
      exact HOKY.out)
    have y1:wi.cell? ⟨ob,1,none⟩=some (.slice (some ⟨gc1,0,none⟩) k cc1):=OB.out.cell 1
    go_wp2_with (at_builtin; refine stopped ?_)
    refine Zh ?_
    refine wpList_app _ (by rfl) (.tmp 29) (.tmp 31) _ (by rfl) elem_map (.slice (some ⟨gc1,0,none⟩) k cc1) _ (by rfl) (by rfl) (own_upd0 ON.out (((Upd.refl [] wi).alloc (.map #[] 0)).alloc (.cells #[.map (some wi.heap.size)] 149))) (.of_blk (Blk.newAt 149 #[.map (some wi.heap.size)] (H:=wi.heap.size + 1) (by simp)) (m:=1) 1 rfl) (by intro u hu; simp at hu; subst hu; rfl) (by simp only [maxLen]; omega) (by omega) (Nat.le_trans UI.out.size (by simp; omega)) ?_
    intro v7 w7 o7 u7 b7
    have U6:Hid (Upd [] wi ((wi.alloc (.map #[] 0)).alloc (.cells #[.map (some wi.heap.size)] 149))):=Zh (((Upd.refl [] wi).alloc _).alloc _)
    have IM6:Hid (IMap ((wi.alloc (.map #[] 0)).alloc (.cells #[.map (some wi.heap.size)] 149)) .i64 wi.heap.size (mapI []) 0):=Zh (((IMap.new wi .i64).upd ((Upd.refl [] _).alloc _) (by simp)).congr (fun _ => rfl))
    have O7:Hid (w7.ownsRow w.heap.size 149 1 v7 (k + 1) (mapsV ms1 ++ [.map (some wi.heap.size)])):=Zh o7
    have U7:=Zh u7
    obtain ⟨g7,cg7,cur7,rfl,_⟩:=own_form O7.out (by omega)
    have OB7:=Zh ((OB.out.upd U6.out (by simp)).upd u7 (by intro hm; exact own_type ON.out OB.out (by decide) (by simpa using hm)))
    clear o7 u7 b7 y1 e0
    have z3:w7.cell? ⟨ob,1,none⟩=some (.slice (some ⟨gc1,0,none⟩) k cc1):=OB7.out.cell 1
    have z4:w7.frozen? ⟨ob,1,none⟩=false:=OB7.out.frozen 1
    have z5:ob < w7.heap.size:=OB7.out.lt
    have U8:Hid (Upd [ob] w7 (w7.setCell ⟨ob,1,none⟩ (.slice (some ⟨g7,0,none⟩) (k + 1) cg7))):=Zh ((Upd.refl [ob] w7).setCell (.inl (by simp)) _)
    have ST8:Hid (∃ gc1 cc1 ms1,MdlSt w.heap.size ob (.slice A1 nk k1) gc1 cc1 ms1 (w7.setCell ⟨ob,1,none⟩ (.slice (some ⟨g7,0,none⟩) (k + 1) cg7)) ⟨xs,List.replicate (k + 1) []⟩):=Zh (by
     have UT:Upd [ob,gc1] wi (w7.setCell ⟨ob,1,none⟩ (.slice (some ⟨g7,0,none⟩) (k + 1) cg7)):=((U6.out.mono (by simp)).trans (U7.out.mono (by intro y hy; simp [Value.ownBlock] at hy; subst hy; exact .inl (by simp)))).trans (U8.out.mono (by simp))
     have IMX:IMap (w7.setCell ⟨ob,1,none⟩ (.slice (some ⟨g7,0,none⟩) (k + 1) cg7)) .i64 wi.heap.size (mapI []) ([]:AL).length:=by
      have im7:=IM6.out.upd U7.out (by simp [Value.ownBlock]; intro e; have:=(own_lt ON.out (b:=gc1) rfl).2; omega)
      exact im7.upd U8.out (by simp; intro e; have:=OB.out.lt; omega)
     have hp:=ST.out.push (m:=wi.heap.size) (l:=[]) (gc':=g7) (cc':=cg7) UT (by rw [show (⟨xs,List.replicate k []⟩:MS).L.length=k by simp]; exact OB7.out.set_eq rfl) (by rw [show (⟨xs,List.replicate k []⟩:MS).L.length=k by simp]; exact own_upd O7.out U8.out (by intro b hb; simp; rintro rfl; exact own_type O7.out OB7.out (by decide) hb)) IMX (Nat.le_refl _) UI.out.size
     rw [List.replicate_succ']
     exact ⟨_,_,_,hp⟩)
    have UI8:Hid (Upd [] w (w7.setCell ⟨ob,1,none⟩ (.slice (some ⟨g7,0,none⟩) (k + 1) cg7))):=Zh (by
     have h1:=(UI.out.trans U6.out).trans' U7.out (fun x hx => .inr (own_lt ON.out (by simpa using hx)).1)
     exact h1.trans' U8.out (fun x hx => by simp at hx; subst hx; exact .inr ST.out.bs))
    go_wp2_with fail
    go_roundw
    case rel => exact ⟨k + 1,by go_num,by omega,HO2,Zh ⟨ST8.out,UI8.out⟩⟩
    case measure => simp [intOf]; omega
   have d3:(y == 3)=false:=by simpa using h3
   have HBK:Hid (badK xs=some k):=Zh (badK_at HOK.out HY.out (by unfold kOk; rw [decide_eq_false_iff_not]; omega))
   clear h1 h2 h3
   go_wp2_with fail
   go_ret2
   unfold MNewPost
   exact ⟨UI.out.trans ((Upd.refl [] wi).alloc _),.inl ⟨k,_,HBK.out,rfl,Blk.new wi _ _⟩⟩
  ·obtain rfl:k=n:=by omega
   have HBN:Hid (badK xs=none):=Zh (badK_no (by rw [HN.out]; exact HOK.out))
   by_cases h8:8 < k
   ·have d:decide ((8:Int) < (k:Int))=true:=by simp; omega
    go_wp2_with fail
    go_ret2
    unfold MNewPost
    exact ⟨UI.out,.inr (.inl ⟨HBN.out,by rw [HN.out]; exact h8,rfl⟩)⟩
   ·have d:decide ((8:Int) < (k:Int))=false:=by simp; omega
    go_wp2_with fail
    go_ret2
    unfold MNewPost
    have e1:(⟨xs,List.replicate k []⟩:MS)=newS xs:=by unfold newS; rw [HN.out]
    have hst:=ST.out
    rw [e1] at hst
    exact ⟨UI.out,.inr (.inr ⟨HBN.out,by rw [HN.out]; omega,ob,_,rfl,good_newS (by rw [HN.out]; omega),_,_,_,_,rfl,hst⟩)⟩
end Go.Proofs.YtmjnmpifibemjaaGreatDoor
namespace Go.Proofs.YtmjnmpifibemjaaGreatDoor
open Go.RowKit St Jd Ev
attribute [local go_sem] litStep_value
theorem PlanV.below {w w':World} {p:Pn} {kv tv:Value} (h:PlanV w p kv tv) (hb:Below w.heap.size w w'):PlanV w' p kv tv:=by
 obtain ⟨h1,vs,h2,h3⟩:=h
 refine ⟨h1.below hb hb.size,vs,h2.below hb hb.size,fun i v ts hv ht => ?_⟩
 obtain ⟨us,h4,h5⟩:=h3 i v ts hv ht
 exact ⟨us,h4.below hb hb.size,fun j u l hj hl => ((h5 j u l hj hl).belowW hb).more hb.size⟩
theorem EnOk.below {w w':World} {m:En} (h:EnOk w m) (hb:Below w.heap.size w w'):EnOk w' m∧tlW w' m=tlW w m:=by
 have h1:Src w' 1 (.slice m.ta m.tn m.tc) m.tn ((tlW w m).map (Value.int .i64)):=Src.below h hb hb.size
 have e:=tlW_eq h1
 exact ⟨by unfold EnOk; rw [e]; exact h1,e⟩
theorem Typed.below {w w':World} (h:Typed w) (hb:Below w.heap.size w w'):Typed w':=⟨(hb.cell h.2).trans h.1,Nat.lt_of_lt_of_le h.2 hb.size⟩
structure Base (wb:World) (p:Pn) (kv tv:Value) (M:List En):Prop where
 plan:PlanV wb p kv tv
 en:∀ m ∈ M,EnOk wb m
 ty:Typed wb
theorem Base.at_ {wb w:World} {p:Pn} {kv tv:Value} {M:List En} (h:Base wb p kv tv M) (hb:Below wb.heap.size wb w):Base w p kv tv M∧edsW w M=edsW wb M :=
 ⟨⟨h.plan.below hb,fun m hm => ((h.en m hm).below hb).1,h.ty.below hb⟩,by
   unfold edsW
   exact List.map_congr_left fun m hm => by unfold edW; rw [((h.en m hm).below hb).2]⟩
theorem stp_elem:Elem Tryz.prog 75 52 1 8:=.mk' (z:=((Tryz.prog.info? 52).bind (·.zero)).getD undef) Tryz.underlying75 (by kernel_rfl) (by kernel_rfl) (by omega)
theorem jst_push {B jb:Nat} {p:Pn} {kv tv dv ov av:Value} {M:List En} {od:List Nat} {sts:List MP.MS} {fp:List (Nat × List Nat)} {wr w4 w5:World} (h:JSt B jb p kv tv dv ov av M od sts fp wr) (hu:Upd [] wr w4) {B' sb:Nat} {F:List Nat} {s:MP.MS} (hm:Mdl B' sb F w4 s) (hB:wr.heap.size≤B') (hB0:B≤wr.heap.size) {v5:Value} {ob:Obj}
 (o5:w5.ownsRow B 52 1 v5 (sts.length + 1) ((fp.map fun q => .pointer (some ⟨q.1,0,none⟩)) ++ [.pointer (some ⟨sb,0,none⟩)])) (u5:Upd av.ownBlock.toList (w4.alloc ob) w5) (b5:v5.ownBlock=av.ownBlock∨v5.ownBlock=some (w4.alloc ob).heap.size)
 (hb:Base (w5.setCell ⟨jb,6,none⟩ v5) p kv tv M) :
 JSt B jb p kv tv dv ov v5 M od (sts ++ [s]) (fp ++ [(sb,F)]) (w5.setCell ⟨jb,6,none⟩ v5)∧Upd (jb :: av.ownBlock.toList) wr (w5.setCell ⟨jb,6,none⟩ v5):=by
 have h45:Upd av.ownBlock.toList w4 w5:=(((Upd.refl [] w4).alloc ob).mono (by simp)).trans u5
 have h5:Upd av.ownBlock.toList wr w5:=(hu.mono (by simp)).trans h45
 have h6:Upd [jb] w5 (w5.setCell ⟨jb,6,none⟩ v5):=(Upd.refl _ _).setCell (by simp) _
 have hj:jb ∉ av.ownBlock.toList:=fun hm => own_type h.sts.own h.box (by decide) (by simpa using hm)
 have hFl:=hm.lt
 have hz:=hu.size
 have hz5:=h45.size
 have ej:Blk w5 jb 77 #[.int .i64 p.words,.int .i64 p.pat,kv,tv,dv,ov,av]:=h.box.upd h5 hj
 have hav:∀ b,av.ownBlock=some b→b < wr.heap.size:=fun b hb => (own_lt h.sts.own hb).2
 have hdv:∀ b,dv.ownBlock=some b→b ∉ av.ownBlock.toList:=fun b hb hm => by
  have hd:wr.ownsRow _ _ _ dv _ _:=h.dn
  obtain ⟨_,h2⟩:=hd
  rcases h2 with ⟨h2,_⟩ | ⟨g,cap,cur,e1,e2,e3,_⟩
  ·subst h2; simp [Value.ownBlock] at hb
  ·subst e1
   simp only [Value.ownBlock,Option.some.injEq] at hb
   subst hb
   exact own_type h.sts.own e3 (by decide) (by simpa using hm)
 have hov:∀ b,ov.ownBlock=some b→b ∉ av.ownBlock.toList:=fun b hb hm => by
  obtain ⟨_,h2⟩:=h.od
  rcases h2 with ⟨h2,_⟩ | ⟨g,cap,cur,e1,e2,e3,_⟩
  ·subst h2; simp [Value.ownBlock] at hb
  ·subst e1
   simp only [Value.ownBlock,Option.some.injEq] at hb
   subst hb
   exact own_type h.sts.own e3 (by decide) (by simpa using hm)
 have nj:∀ {e:TypeId} {s n:Nat} {v:Value} {xs:List Value},w5.ownsRow B e s v n xs→77≠e→∀ b,v.ownBlock=some b→b ∉ [jb]:=fun ho hne b hb hm => by
  simp only [List.mem_singleton] at hm
  exact own_type ho ej hne (hm ▸ hb)
 have dn5:w5.ownsRow B 42 9 dv M.length (flat encE M):=own_upd h.dn h5 hdv
 have od5:=own_upd h.od h5 hov
 have jl:jb < wr.heap.size:=h.box.lt
 have v5b:∀ b,v5.ownBlock=some b→av.ownBlock=some b∨w4.heap.size≤b:=fun b hb => by
  rcases b5 with b5 | b5
  ·exact .inl (b5 ▸ hb)
  ·rw [b5] at hb; injection hb with hb; simp at hb; exact .inr (by omega)
 refine ⟨⟨ej.set_eq (by simp),h.jB,hb.plan,own_upd dn5 h6 (nj dn5 (by decide)),own_upd od5 h6 (nj od5 (by decide)),⟨by simp [h.sts.len],?_,fun i q s' hq hs => ?_⟩,hb.ty,hb.en,fun q hq hmem => ?_⟩,(h5.mono (fun x hx => .inl (List.mem_cons_of_mem _ hx))).trans' h6 (fun x hx => .inl (by simp at hx; subst hx; exact List.mem_cons_self ..))⟩
 ·rw [List.length_append,List.map_append]
  exact own_upd o5 h6 (nj o5 (by decide))
 ·by_cases hi:i < fp.length
  ·rw [List.getElem?_append_left hi] at hq
   rw [List.getElem?_append_left (by rw [← h.sts.len]; exact hi)] at hs
   obtain ⟨g1,g2⟩:=h.sts.st i q s' hq hs
   refine ⟨(g1.upd h5 (fun x hx hm => g2 x (by simpa using hm) hx)).upd h6 (fun x hx hm => ?_),fun b hb hm => ?_⟩
   ·simp only [List.mem_singleton] at hm
    exact h.nj q (List.mem_of_getElem? hq) (hm ▸ hx)
   ·rcases v5b b hb with hb' | hb'
    ·exact g2 b hb' hm
    ·have:=(g1.lt b hm).2; omega
  ·have hil:i=fp.length:=by have:=(List.getElem?_eq_some_iff.1 hq).1; simp at this; omega
   subst hil
   rw [List.getElem?_append_right (Nat.le_refl _),Nat.sub_self] at hq
   rw [List.getElem?_append_right (by rw [h.sts.len]; exact Nat.le_refl _),h.sts.len,Nat.sub_self] at hs
   simp at hq hs
   subst hq hs
   refine ⟨mdl_base ((hm.upd h45 (fun x hx hm' => ?_)).upd h6 (fun x hx hm' => ?_)) (by omega),fun b hb hm' => ?_⟩
   ·have:=hav x (by simpa using hm'); have:=(hFl x hx).1; omega
   ·simp only [List.mem_singleton] at hm'; have:=(hFl x hx).1; omega
   ·rcases v5b b hb with hb' | hb'
    ·have:=hav b hb'; have:=(hFl b hm').1; omega
    ·have:=(hFl b hm').2; omega
 ·rcases List.mem_append.1 hq with hq | hq
  ·exact h.nj q hq hmem
  ·simp at hq
   subst hq
   have:=(hFl jb hmem).1
   omega
def repR (p:Pn) (d:List Ed):Option Nat:=(List.range d.length).find? (fun k => !okE p (stN p (seqR d) k) ((seqR d).getD k default))
def stsN (p:Pn) (d:List Ed) (k:Nat):List MP.MS:=(List.range (k + 1)).map (stN p (seqR d))
theorem stsN_len (p:Pn) (d:List Ed) (k:Nat):(stsN p d k).length=k + 1:=by simp [stsN]
theorem stsN_next (p:Pn) (d:List Ed) (k:Nat):stsN p d k ++ [stN p (seqR d) (k + 1)]=stsN p d (k + 1):=by
 unfold stsN
 rw [List.range_succ (n:=k + 1),List.map_append]
 rfl
theorem stsN_all {p:Pn} {d:List Ed} {od:List Nat} (h:od.length=d.length):AllSt p d od (stsN p d d.length) :=
 ⟨h,stsN_len _ _ _,fun k hk => by
   unfold stsN
   rw [List.getElem?_map,List.getElem?_range (by omega)]
   rfl⟩
def RepI (B jb:Nat) (p:Pn) (kv tv dv ov:Value) (M:List En) (od:List Nat) (d:List Ed) (w:World) (k:Nat) (sv:Value) (wr:World):Prop :=
 ∃ (av:Value) (fp:List (Nat × List Nat)) (q:Nat × List Nat),JSt B jb p kv tv dv ov av M od (stsN p d k) fp wr∧fp[k]?=some q∧sv=.pointer (some ⟨q.1,0,none⟩)∧Upd [jb] w wr∧(∀ b,av.ownBlock=some b→w.heap.size≤b)∧∀ i,i < k→okE p (stN p (seqR d) i) ((seqR d).getD i default)=true
def RepP (B jb:Nat) (p:Pn) (kv tv dv ov:Value) (M:List En) (od:List Nat) (d:List Ed) (w:World) (v:Value) (w':World):Prop :=
 Upd [jb] w w'∧((∃ k,repR p d=some k∧ErrV w' v 12 ((k:Int) + 1))∨(repR p d=none∧v=.nilIface∧∃ av fp,JSt B jb p kv tv dv ov av M od (stsN p d d.length) fp w'))
theorem rep_some {p:Pn} {d:List Ed} {k:Nat} (hk:k < d.length) (h:∀ i,i < k→okE p (stN p (seqR d) i) ((seqR d).getD i default)=true) (hn:okE p (stN p (seqR d) k) ((seqR d).getD k default)=false):repR p d=some k:=by
 unfold repR
 rw [List.find?_range_eq_some]
 exact ⟨by rw [hn]; rfl,by simpa using hk,fun j hj => by rw [h j hj]; rfl⟩
theorem rep_none {p:Pn} {d:List Ed} (h:∀ i,i < d.length→okE p (stN p (seqR d) i) ((seqR d).getD i default)=true):repR p d=none:=by
 unfold repR
 rw [Jd.find_none]
 intro i hi
 rw [h i hi]
 rfl
theorem seq_at {wb:World} {M:List En} {d:List Ed} (hd:d=edsW wb M) {k:Nat} (hk:k < M.length):∃ (i:Nat) (m:En),(ordR d)[k]?=some i∧i < M.length∧M[i]?=some m∧(seqR d)[k]?=some (edW wb m):=by
 have hdl:d.length=M.length:=by rw [hd]; simp [edsW]
 have hol:(ordR d).length=M.length:=by rw [(ord_perm d).length_eq]; simpa using hdl
 obtain ⟨i,hi⟩:∃ i,(ordR d)[k]?=some i:=⟨_,List.getElem?_eq_getElem (by omega)⟩
 have hmem:i ∈ List.range d.length:=(ord_perm d).mem_iff.1 (List.mem_of_getElem? hi)
 have hil:i < M.length:=by rw [← hdl]; simpa using hmem
 obtain ⟨m,hm⟩:∃ m,M[i]?=some m:=⟨_,List.getElem?_eq_getElem hil⟩
 refine ⟨i,m,hi,hil,hm,?_⟩
 unfold seqR
 rw [List.getElem?_map,hi]
 simp only [Option.map_some]
 congr 1
 rw [hd]
 unfold edsW
 rw [List.getD_eq_getElem?_getD,List.getElem?_map,hm]
 rfl
theorem replay_ok {B jb:Nat} {p:Pn} {kv tv dv ov:Value} {M:List En} {od:List Nat} (wb w:World) (h:JSt B jb p kv tv dv ov (.slice none 0 0) M od [] [] w) (hb:Base wb p kv tv M) (hbel:Below wb.heap.size wb w) (hB:wb.heap.size=B∧B≤w.heap.size) (hf:FitP p) (hz:SzP p) (hM:M.length≤40) (htn:∀ m ∈ M,m.tn≤300000)
 (d:List Ed) (hd:d=edsW wb M) (hod:od=ordR d) (htx:∀ m ∈ M,(txnR p (attE m)).isSome=true) :
 Calls Tryz.prog 30 #[.pointer (some ⟨jb,0,none⟩)] w fun e w' => ∃ v,e=.returned v∧RepP B jb p kv tv dv ov M od d w v w':=by
 obtain ⟨Ak,ck,hkv⟩:∃ A c,kv=.slice A p.ks.length c:=by obtain ⟨_,A,c,e,_⟩:=hb.plan.ks; exact ⟨A,c,e⟩
 obtain ⟨nk,hnk⟩:∃ n,n=p.ks.length:=⟨_,rfl⟩
 obtain ⟨n,hn⟩:∃ n,n=M.length:=⟨_,rfl⟩
 have hdl:d.length=n:=by rw [hd,hn]; simp [edsW]
 have hol:od.length=n:=by rw [hod,(ord_perm d).length_eq]; simpa using hdl
 obtain ⟨Ad,cd,rfl,_,_⟩:=own_slice h.dn
 obtain ⟨Ao,co,rfl,_,_⟩:=own_slice h.od
 rw [← hnk] at hkv
 subst hkv
 have bx:=h.box.facts
 rw [← hn,hol] at bx
 have HJ:=Zh h
 have HB:=Zh hb
 have HBE:=Zh hbel
 have HBB:=Zh hB
 have HF:=Zh (And.intro hf hz)
 have HTN:=Zh htn
 have HD:=Zh hd
 have HOD:=Zh hod
 have HTX:=Zh htx
 have HN:Hid (n=M.length∧n≤40∧d.length=n∧od.length=n∧nk=p.ks.length):=Zh ⟨hn,by omega,hdl,hol,hnk⟩
 have hn40:(n:Int)≤40:=by omega
 have HK:Hid (Rd encK w (.slice Ak nk ck) p.ks∧badK p.ks=none∧p.ks.length≤8):=Zh ⟨by
  have h1:=h.plan.ks
  rw [← hnk] at h1
  unfold Rd
  rw [flat_ints,← hnk]
  exact h1,by
  unfold badK
  rw [List.findIdx?_eq_none_iff]
  intro x hx
  have:=hf.kin x hx
  unfold kOk
  simp; omega,hf.ks8⟩
 clear h hb hbel hB hf hz hM htn hd hod htx hn hdl hol hnk
 go_enter Tryz.func30,Tryz.ntmps30
 go_wp2_with fail
 refine (m_new Ak nk ck p.ks w HK.out.1 HN.out.2.2.2.2.symm (by have:=HN.out; have:=HK.out.2.2; omega)).mono ?_
 rintro e w1 ⟨u1,hc⟩
 rcases hc with ⟨i,g,h1,_⟩ | ⟨_,h1,_⟩ | ⟨_,_,sb,F,rfl,hm⟩
 ·rw [HK.out.2.1] at h1; cases h1
 ·have:=HK.out.2.2; omega
 have M1:Hid (Mdl w.heap.size sb F w1 (stN p (seqR d) 0)):=Zh hm
 have U1:=Zh u1
 have b1:=(HJ.out.box.upd u1 (by simp)).facts
 rw [← HN.out.1,HN.out.2.2.2.1] at b1
 clear u1 hm bx
 go_wp2_with (at_builtin; refine stoppedJ ?_)
 refine Zh ?_
 refine wpList_app _ (by rfl) (.tmp 28) (.tmp 30) _ (by rfl) stp_elem (.slice none 0 0) _ (by rfl) (by rfl) (own_nil _ w.heap.size _ _) (.of_blk (Blk.new w1 _ _) (m:=1) 1 rfl) (by intro u hu; simp at hu; subst hu; rfl) (by simp [maxLen]) (by simp) (by have:=U1.out.size; simp; omega) ?_
 intro v5 w5 o5 u5 b5
 obtain ⟨A5,c5,rfl,_,_⟩:=own_slice o5
 have hz:=U1.out.size
 have bel6:Below wb.heap.size wb (w5.setCell ⟨jb,6,none⟩ (.slice A5 (0 + 1) c5)):=by
  have h1:Upd [] w w5:=(U1.out.alloc _).trans (u5.mono (by simp [Value.ownBlock]))
  have h2:Below wb.heap.size w w5:=h1.below (by rw [HBB.out.1]; exact HBB.out.2) (by simp)
  exact (HBE.out.trans h2).setCell (by rw [HBB.out.1]; exact HJ.out.jB) _
 obtain ⟨n1,n2⟩:=jst_push HJ.out U1.out M1.out (Nat.le_refl _) HBB.out.2 (own_base o5 HBB.out.2) u5 b5 (HB.out.at_ bel6).1
 have I0:Hid (RepI B jb p (.slice Ak nk ck) tv (.slice Ad M.length cd) (.slice Ao od.length co) M od d w 0 (.pointer (some ⟨sb,0,none⟩)) (w5.setCell ⟨jb,6,none⟩ (.slice A5 (0 + 1) c5))):=Zh ⟨_,_,(sb,F),n1,rfl,rfl,by simpa [Value.ownBlock] using n2,fun b hb => (own_lt o5 hb).1,fun i hi => by omega⟩
 have y1:w5.cell? ⟨jb,6,none⟩=some (.slice none 0 0):=by
  have:=(HJ.out.box.upd ((U1.out.alloc _).trans (u5.mono (by simp [Value.ownBlock]))) (by simp)).cell 6
  exact this
 have y2:w5.frozen? ⟨jb,6,none⟩=false:=(HJ.out.box.upd ((U1.out.alloc _).trans (u5.mono (by simp [Value.ownBlock]))) (by simp)).frozen 6
 have y3:jb < w5.heap.size:=(HJ.out.box.upd ((U1.out.alloc _).trans (u5.mono (by simp [Value.ownBlock]))) (by simp)).lt
 have y4:=(HJ.out.box.upd ((U1.out.alloc _).trans (u5.mono (by simp [Value.ownBlock]))) (by simp)).cell 5
 rw [HN.out.2.2.2.1] at y4
 have y5:w5.cell? ⟨jb,5,none⟩=some (.slice Ao n co):=y4
 clear o5 u5 b5 bel6 n1 n2 y4 hz b1
 go_wp2_with fail
 clear y1 y2 y3 y5
 go_loopw [3,5,6,7,8,9,10,11,39] (fun u3 u5 u6 u7 u8 u9 u10 u11 u39 wr => ∃ k:Nat,u39=.int .i64 k∧k≤n∧Hid (RepI B jb p (.slice Ak nk ck) tv (.slice Ad M.length cd) (.slice Ao od.length co) M od d w k u3 wr)) (fun _ _ _ _ _ _ _ _ u _ => n - (intOf u).toNat)
 case atStart => exact ⟨0,rfl,by omega,I0⟩
 case round =>
  obtain ⟨k,rfl,hk,KI⟩:=hrel
  rename World => wr
  by_cases hlt:k < n
  ·have hki:(k:Int) < n:=by omega
   obtain ⟨av,fp,q,g1,g2,rfl,g4,g5,g6⟩:=KI.out
   obtain ⟨i,m,s1,s2,s3,s4⟩:=seq_at HD.out (k:=k) (by rw [← HN.out.1]; exact hlt)
   rw [← HOD.out] at s1
   obtain ⟨l,hl⟩:∃ l,txnR p (attE m)=some l:=Option.isSome_iff_exists.1 (HTX.out m (List.mem_of_getElem? s3))
   obtain ⟨Aav,cav,rfl,_,_⟩:=own_slice g1.sts.own
   obtain ⟨gd,cd',_,e1,_⟩:=own_form (show wr.ownsRow B 42 9 (.slice Ad M.length cd) M.length (flat encE M) from g1.dn) (by omega)
   injection e1 with e1 _ e1'
   subst e1 e1'
   obtain ⟨go,co',_,e2,_⟩:=own_form g1.od (by rw [HN.out.2.2.2.1]; omega)
   injection e2 with e2 _ e2'
   subst e2 e2'
   have hii:(i:Int) < n:=by rw [HN.out.1]; omega
   have G1:=Zh g1
   have G4:=Zh g4
   have G5:=Zh (And.intro g2 (And.intro g5 g6))
   have HIM:Hid (M[i]?=some m∧(seqR d)[k]?=some (edW wb m)∧m ∈ M∧k < n):=Zh ⟨s3,s4,List.mem_of_getElem? s3,hlt⟩
   have HL:=Zh hl
   have KP:Hid (∀ W,Upd [] wr W→W.cell? ⟨go,k,none⟩=some (.int .i64 i)∧go < W.heap.size∧gd < W.heap.size∧(∀ j u,(encE.c m)[j]?=some u→W.cell? ⟨gd,i * 9 + j,none⟩=some u)):=Zh (fun W hW => by
    have h1:=own_upd0 g1.od hW
    have h2:Ow encE 42 W B (.slice (some ⟨gd,0,none⟩) M.length cd) M:=g1.dn.upd0 hW
    exact ⟨own_cell h1 k _ (by rw [List.getElem?_map,s1]; rfl),(own_lt h1 (b:=go) rfl).2,(own_lt h2 (b:=gd) rfl).2,h2.at_ s3⟩)
   have KB:Hid (∀ W,Upd [] wr W→Blk W jb 77 #[.int .i64 p.words,.int .i64 p.pat,.slice Ak nk ck,tv,.slice (some ⟨gd,0,none⟩) n cd,.slice (some ⟨go,0,none⟩) n co,.slice Aav (stsN p d k).length cav]):=Zh (fun W hW => by
    have h1:=g1.box.upd hW (by simp)
    rwa [← HN.out.1,HN.out.2.2.2.1] at h1)
   obtain ⟨f1,f2,f3,f4⟩:=KP.out wr (.refl _ _)
   have c0:wr.cell? ⟨gd,i * 9,none⟩=some (.int .i64 m.th):=f4 0 _ rfl
   have c1:wr.cell? ⟨gd,i * 9 + 1,none⟩=some (.int .i64 m.ix):=f4 1 _ rfl
   have c2:wr.cell? ⟨gd,i * 9 + 2,none⟩=some (.int .i64 m.st):=f4 2 _ rfl
   have c3:wr.cell? ⟨gd,i * 9 + 3,none⟩=some (.bool m.wr):=f4 3 _ rfl
   have c4:wr.cell? ⟨gd,i * 9 + 4,none⟩=some (.int .i64 m.be):=f4 4 _ rfl
   have c5:wr.cell? ⟨gd,i * 9 + 5,none⟩=some (.int .i64 m.en):=f4 5 _ rfl
   have c6:wr.cell? ⟨gd,i * 9 + 6,none⟩=some (.int .i64 m.kd):=f4 6 _ rfl
   have c7:wr.cell? ⟨gd,i * 9 + 7,none⟩=some (.slice m.ta m.tn m.tc):=f4 7 _ rfl
   have c8:wr.cell? ⟨gd,i * 9 + 8,none⟩=some (.int .i64 m.er):=f4 8 _ rfl
   have bj:=(KB.out wr (.refl _ _)).facts
   clear f4 g1 g2 g4 g5 g6 s1 s2 s3 s4 hl hk hlt KI
   go_wp2_with fail
   refine wp_forced (by kernel_rfl) (by kernel_rfl) ?_
   simp only [ordered,List.filter_cons,List.filter_nil,isFloat,Option.isNone_none,Option.isNone_some,Bool.true_and,Bool.and_true,Bool.false_and,Bool.and_false,List.all_toArray,List.all_cons,List.all_nil,Region.binds,Bool.not_true,Bool.not_false,if_true,if_false,Bool.false_eq_true,List.cons_append,List.nil_append,ite_true,ite_false]
   repeat (first | ((with_reducible refine wpF_no ?_ ?_); (· rfl); simp only [aP]) | ((with_reducible refine wpF_light ?_ (fun K hK => ?_)); (· simp only [lightOp]; done); go_simp; refine hK _ ?_; clear hK K; simp only [aP]))
   refine wpF_call (by simp only [lightOp]) (by rfl) (fun K hK => ?_)
   go_wp2_with fail
   refine (txn_ok p (.slice Ak nk ck) tv m wr.drew (G1.out.plan.upd0 (Upd.refl _ _).drew) ⟨by have:=HF.out.1.th6; omega,fun t ht => by have:=HF.out.1.tx20 t ht; omega⟩).mono ?_
   rintro e w2 ⟨v,rfl,hst,u2⟩
   have hiS:(txnR p (attE m)).isSome=true:=by rw [HL.out]; rfl
   rw [hiS]
   have HST:=Zh (hst l HL.out)
   have U2:Hid (Upd [] wr w2):=Zh (((Upd.refl [] wr).drew).trans u2)
   clear hst u2 hiS bj c0 c1 c2 c3 c4 c5 c6 c7 c8 f1 f2 f3
   go_wp2_with fail
   refine hK.out _ _ ?_
   clear hK K
   try simp only [aP]
   repeat (first | ((with_reducible refine wpF_no ?_ ?_); (· rfl); simp only [aP]) | ((with_reducible refine wpF_light ?_ (fun K hK => ?_)); (· simp only [lightOp]; done); go_simp; refine hK _ ?_; clear hK K; simp only [aP]))
   refine wpF_end ?_
   go_wp2_with fail
   have SK:Hid (StOk p (stN p (seqR d) k)∧Mdl B q.1 q.2 wr (stN p (seqR d) k)):=Zh ⟨st_n p _ k,(G1.out.sts.st k q _ G5.out.1 (by unfold stsN; rw [List.getElem?_map,List.getElem?_range (by omega)]; rfl)).1⟩
   obtain ⟨sk,hsk⟩:∃ sk,sk=stN p (seqR d) k:=⟨_,rfl⟩
   have HSK:=Zh hsk
   rw [← hsk] at SK
   clear hsk
   refine (run_good w2 (SK.out.2.upd0 U2.out) HST.out (txn_size HF.out.2 HL.out) (G1.out.ty.upd U2.out (by simp)) SK.out.1.1 (by rw [SK.out.1.2]; exact txn_right HF.out.1 HL.out)).mono ?_
   rintro e w3 ⟨sb3,F3,v3,rfl,u3,t3,o3,m3,_⟩
   obtain ⟨en,hen⟩:∃ en,en=endE sk l:=⟨_,rfl⟩
   obtain ⟨tl,htl⟩:∃ tl,tl=toldE sk l:=⟨_,rfl⟩
   obtain ⟨tk,htk⟩:∃ tk,tk=tl.length:=⟨_,rfl⟩
   rw [← htl,← htk] at t3 o3
   rw [← hen]
   obtain ⟨A3,c3,rfl,_,_⟩:=own_slice o3
   have ETO:Hid (txnO p (edW wb m)=l):=Zh (by show (txnR p (attE m)).getD []=l; rw [HL.out]; rfl)
   have HE:Hid (okE p sk (edW wb m)=(en == 1 && tl == tlW wb m)):=Zh (by unfold okE; rw [ETO.out,← hen,← htl]; rfl)
   have U3:=Zh (U2.out.trans u3)
   have S3:Hid (Src w3 1 (.slice A3 tk c3) tk (tl.map (Value.int .i64))∧tk≤201000):=Zh ⟨Src.of_own o3,t3⟩
   have M3:Hid (Mdl w2.heap.size sb3 F3 w3 (nextE p sk (edW wb m))):=Zh (by unfold nextE; rw [ETO.out]; exact m3)
   have SQ:Hid ((seqR d).getD k default=edW wb m):=Zh (by rw [List.getD_eq_getElem?_getD,HIM.out.2.1]; rfl)
   have htk2:(tk:Int)≤201000:=by omega
   have W4:Upd [] w3 (w3.alloc (Obj.cells #[.int .i64 en,.slice A3 tk c3] 34)):=(Upd.refl _ _).alloc _
   have B4:Blk (w3.alloc (Obj.cells #[.int .i64 en,.slice A3 tk c3] 34)) w3.heap.size 34 #[.int .i64 en,.slice A3 tk c3]:=Blk.new _ _ _
   clear u3 t3 o3 hen htl htk m3
   go_wp2_with fail
   generalize hw4:(w3.alloc (Obj.cells #[.int .i64 en,.slice A3 tk c3] 34))=w4 at *
   have U4:=Zh (U3.out.trans W4)
   have UW4:=Zh W4
   have EB:=Zh B4
   clear hw4 W4 B4
   by_cases h1:en=1
   ·have e1:(en != 1)=false:=by simpa using h1
    have E1:Hid ((en == 1)=true):=Zh (by simpa using h1)
    clear h1
    obtain ⟨f1,f2,f3,f4⟩:=KP.out w4 U4.out
    have c7:w4.cell? ⟨gd,i * 9 + 7,none⟩=some (.slice m.ta m.tn m.tc):=f4 7 _ rfl
    have bj:=(KB.out w4 U4.out).facts
    have be:=EB.out.facts
    clear f4
    refine wp_forced (by kernel_rfl) (by kernel_rfl) ?_
    simp only [ordered,List.filter_cons,List.filter_nil,isFloat,Option.isNone_none,Option.isNone_some,Bool.true_and,Bool.and_true,Bool.false_and,Bool.and_false,List.all_toArray,List.all_cons,List.all_nil,Region.binds,Bool.not_true,Bool.not_false,if_true,if_false,Bool.false_eq_true,List.cons_append,List.nil_append,ite_true,ite_false]
    repeat (first | ((with_reducible refine wpF_no ?_ ?_); (· rfl); simp only [aP]) | ((with_reducible refine wpF_light ?_ (fun K hK => ?_)); (· simp only [lightOp]; done); go_simp; refine hK _ ?_; clear hK K; simp only [aP]))
    refine wpF_call (by simp only [lightOp]) (by rfl) (fun K hK => ?_)
    go_wp2_with fail
    have hm0:EnOk w4 m:=((G1.out.en m HIM.out.2.2.1).upd0 U4.out).1
    have htl:tlW w4 m=tlW wb m:=by
     have h1:=((G1.out.en m HIM.out.2.2.1).upd0 U4.out).2
     have h2:Below wb.heap.size w wr:=G4.out.below (by rw [HBB.out.1]; exact HBB.out.2) (by intro x hx; simp at hx; subst hx; rw [HBB.out.1]; exact G1.out.jB)
     exact h1.trans ((HB.out.en m HIM.out.2.2.1).below (HBE.out.trans h2)).2
    refine (equal_src A3 m.ta tk c3 m.tn m.tc tl (tlW w4 m) w4.drew ((S3.out.1.upd0 UW4.out).upd0 (Upd.refl _ _).drew) (Src.upd0 hm0 (Upd.refl _ _).drew) (by have:=S3.out.2; omega) (by have:=HTN.out m HIM.out.2.2.1; omega)).mono ?_
    rintro e w6 ⟨rfl,u6⟩
    rw [htl]
    have U6:Hid (Upd [] w3 w6):=Zh ((UW4.out.drew).trans u6)
    clear u6 hm0 htl c7 bj be f1 f2 f3
    by_cases hq:tl=tlW wb m
    ·have hd1:decide (tl=tlW wb m)=true:=by simpa using hq
     have HOK:Hid (okE p (stN p (seqR d) k) ((seqR d).getD k default)=true):=Zh (by rw [SQ.out,← HSK.out,HE.out,E1.out,hq]; simp)
     rw [hd1]
     clear hq hd1
     go_wp2_with fail
     refine hK.out _ _ ?_
     clear hK K
     try simp only [aP]
     repeat (first | ((with_reducible refine wpF_no ?_ ?_); (· rfl); simp only [aP]) | ((with_reducible refine wpF_light ?_ (fun K hK => ?_)); (· simp only [lightOp]; done); go_simp; refine hK _ ?_; clear hK K; simp only [aP]))
     refine wpF_end ?_
     have U36:Hid (Upd [] wr w6):=Zh (U3.out.trans U6.out)
     have bj:=(KB.out w6 U36.out).facts
     go_wp2_with (at_builtin; refine stoppedJ ?_)
     refine Zh ?_
     refine wpList_app _ (by rfl) (.tmp 94) (.tmp 96) _ (by rfl) stp_elem (.slice Aav (stsN p d k).length cav) _ (by rfl) (by rfl) (own_upd0 G1.out.sts.own (U36.out.alloc _)) (.of_blk (Blk.new w6 _ _) (m:=1) 1 rfl) (by intro u hu; simp at hu; subst hu; rfl) (by have:=HN.out; have:=HIM.out.2.2.2; rw [stsN_len]; simp only [maxLen]; omega) (by have:=HN.out; have:=HIM.out.2.2.2; rw [stsN_len]; omega) (by have:=HBB.out.2; have:=G4.out.size; have:=U36.out.size; simp; omega) ?_
     intro v7 w7 o7 u7 b7
     obtain ⟨A7,c7,rfl,_,_⟩:=own_slice o7
     have h67:Upd (Value.slice Aav (stsN p d k).length cav).ownBlock.toList w6 w7:=(((Upd.refl [] w6).alloc _).mono (by simp)).trans u7
     have ej:Blk w7 jb 77 #[.int .i64 p.words,.int .i64 p.pat,.slice Ak nk ck,tv,.slice (some ⟨gd,0,none⟩) n cd,.slice (some ⟨go,0,none⟩) n co,.slice Aav (stsN p d k).length cav]:=(KB.out w6 U36.out).upd h67 (fun hm => own_type G1.out.sts.own G1.out.box (by decide) (by simpa using hm))
     have BB8:Base (w7.setCell ⟨jb,6,none⟩ (.slice A7 ((stsN p d k).length + 1) c7)) p (.slice Ak nk ck) tv M:=by
      have h1:Below wb.heap.size w wr:=G4.out.below (by rw [HBB.out.1]; exact HBB.out.2) (by intro x hx; simp at hx; subst hx; rw [HBB.out.1]; exact G1.out.jB)
      have h2:Below wb.heap.size wr w7:=((U36.out.mono (by simp)).trans h67).below (by rw [HBB.out.1]; exact Nat.le_trans HBB.out.2 G4.out.size) (fun x hx => by rw [HBB.out.1]; exact (own_lt G1.out.sts.own (b:=x) (by simpa using hx)).1)
      exact (HB.out.at_ (((HBE.out.trans h1).trans h2).setCell (by rw [HBB.out.1]; exact G1.out.jB) _)).1
     obtain ⟨n1,n2⟩:=jst_push G1.out U36.out (M3.out.upd0 U6.out) U2.out.size (Nat.le_trans HBB.out.2 G4.out.size) o7 u7 b7 BB8
     have NX:Hid (RepI B jb p (.slice Ak nk ck) tv (.slice (some ⟨gd,0,none⟩) M.length cd) (.slice (some ⟨go,0,none⟩) od.length co) M od d w (k + 1) (.pointer (some ⟨sb3,0,none⟩)) (w7.setCell ⟨jb,6,none⟩ (.slice A7 ((stsN p d k).length + 1) c7))):=Zh (by
      rw [HSK.out,← stN_next HIM.out.2.1,stsN_next] at n1
      refine ⟨_,_,(sb3,F3),n1,?_,rfl,G4.out.trans' n2 (fun x hx => ?_),fun b hb => ?_,fun i' hi' => ?_⟩
      ·rw [List.getElem?_append_right (by rw [G1.out.sts.len,stsN_len]; exact Nat.le_refl _),G1.out.sts.len,stsN_len,Nat.sub_self]; rfl
      ·rcases List.mem_cons.1 hx with rfl | hx
       ·exact .inl (by simp)
       ·exact .inr (G5.out.2.1 x (by simpa using hx))
      ·rcases b7 with b7 | b7
       ·exact G5.out.2.1 b (b7 ▸ hb)
       ·rw [b7] at hb; injection hb with hb; have:=G4.out.size; have:=U36.out.size; simp at hb; omega
      ·by_cases e:i'=k
       ·rw [e]; exact HOK.out
       ·exact G5.out.2.2 i' (by omega))
     have y1:w7.cell? ⟨jb,6,none⟩=some (.slice Aav (stsN p d k).length cav):=ej.cell 6
     have y2:w7.frozen? ⟨jb,6,none⟩=false:=ej.frozen 6
     have y3:jb < w7.heap.size:=ej.lt
     clear o7 u7 b7 h67 ej BB8 n1 n2 bj
     go_wp2_with fail
     go_round
     case rel => exact ⟨k + 1,by simp,by have:=HIM.out.2.2.2; omega,NX⟩
     case measure => have:=HIM.out.2.2.2; simp [intOf]; omega
    ·have hd1:decide (tl=tlW wb m)=false:=by simpa using hq
     have HOK:Hid (okE p (stN p (seqR d) k) ((seqR d).getD k default)=false):=Zh (by rw [SQ.out,← HSK.out,HE.out,E1.out]; simpa using hq)
     rw [hd1]
     clear hq hd1
     go_wp2_with fail
     refine hK.out _ _ ?_
     clear hK K
     try simp only [aP]
     repeat (first | ((with_reducible refine wpF_no ?_ ?_); (· rfl); simp only [aP]) | ((with_reducible refine wpF_light ?_ (fun K hK => ?_)); (· simp only [lightOp]; done); go_simp; refine hK _ ?_; clear hK K; simp only [aP]))
     refine wpF_end ?_
     go_wp2_with fail
     refine (jwrong_ok ((k:Int) + 1) 12 (by omega) (by omega) w6).mono ?_
     rintro e w7 ⟨v7,rfl,e7,u7⟩
     have E7:=Zh e7
     have U7:Hid (Upd [] wr w7):=Zh ((U3.out.trans U6.out).trans u7)
     clear e7 u7
     go_wp2_with fail
     go_ret
     exact ⟨_,rfl,G4.out.trans' U7.out (by simp),.inl ⟨k,rep_some (by rw [HN.out.2.2.1]; exact HIM.out.2.2.2) G5.out.2.2 HOK.out,E7.out⟩⟩
   ·have e1:(en != 1)=true:=by simpa using h1
    have HOK:Hid (okE p (stN p (seqR d) k) ((seqR d).getD k default)=false):=Zh (by rw [SQ.out,← HSK.out,HE.out]; simp [h1])
    have be:=EB.out.facts
    clear h1
    refine wp_forced (by kernel_rfl) (by kernel_rfl) ?_
    simp only [ordered,List.filter_cons,List.filter_nil,isFloat,Option.isNone_none,Option.isNone_some,Bool.true_and,Bool.and_true,Bool.false_and,Bool.and_false,List.all_toArray,List.all_cons,List.all_nil,Region.binds,Bool.not_true,Bool.not_false,if_true,if_false,Bool.false_eq_true,List.cons_append,List.nil_append,ite_true,ite_false]
    repeat (first | ((with_reducible refine wpF_no ?_ ?_); (· rfl); simp only [aP]) | ((with_reducible refine wpF_light ?_ (fun K hK => ?_)); (· simp only [lightOp]; done); go_simp; refine hK _ ?_; clear hK K; simp only [aP]))
    refine wpF_end ?_
    go_wp2_with fail
    refine (jwrong_ok ((k:Int) + 1) 12 (by omega) (by omega) w4.drew).mono ?_
    rintro e w7 ⟨v7,rfl,e7,u7⟩
    have E7:=Zh e7
    have U7:Hid (Upd [] wr w7):=Zh ((U4.out.drew).trans u7)
    clear e7 u7
    go_wp2_with fail
    go_ret
    exact ⟨_,rfl,G4.out.trans' U7.out (by simp),.inl ⟨k,rep_some (by rw [HN.out.2.2.1]; exact HIM.out.2.2.2) G5.out.2.2 HOK.out,E7.out⟩⟩
  ·have hki:¬ ((k:Int) < n):=by omega
   have hkn:n=k:=by omega
   obtain ⟨av,fp,q,g1,g2,rfl,g4,g5,g6⟩:=KI.out
   have FIN:Hid (RepP B jb p (.slice Ak nk ck) tv (.slice Ad M.length cd) (.slice Ao od.length co) M od d w .nilIface wr):=Zh ⟨g4,.inr ⟨rep_none (fun i hi => g6 i (by rw [HN.out.2.2.1] at hi; omega)),rfl,av,fp,by rw [HN.out.2.2.1,hkn]; exact g1⟩⟩
   clear g1 g2 g4 g5 g6 KI
   go_wp2_with fail
   go_ret
   exact ⟨_,rfl,FIN.out⟩
end Go.Proofs.YtmjnmpifibemjaaGreatDoor
namespace Go.Proofs.YtmjnmpifibemjaaGreatDoor
open Go.RowKit St Jd Ev
attribute [local go_sem] litStep_value
theorem lost_ok {B jb pb:Nat} {p:Pn} {kv tv dv ov av:Value} {M:List En} {od:List Nat} {sts:List MP.MS} {fp:List (Nat × List Nat)} (w:World) (h:JSt B jb p kv tv dv ov av M od sts fp w) (hp:Blk w pb 74 #[.pointer (some ⟨jb,0,none⟩)]) (hf:FitP p) (hz:SzP p) (m:En) (hm:EnOk w m) (h1k:m.tn≤300000) (hx:(txnR p (attE m)).isSome=true)
 (hM:M.length≤40) (d:List Ed) (hd:d=edsW w M) (ha:AllSt p d od sts) :
 Calls Tryz.prog 31 #[.agg (enCells m).toArray,.pointer (some ⟨pb,0,none⟩)] w fun e w' => e=.returned (.bool (lostR p d (edW w m)))∧Upd [] w w':=by
 obtain ⟨l,hl⟩:=Option.isSome_iff_exists.1 hx
 have HS:=Zh (fun (W:World) (hW:Upd [] w W) => seen_ok W (h.upd0 hW) hf hz m (hm.upd0 hW).1 h1k hl hM d (by rw [edsW_upd h.en hW]; exact hd) ha)
 have HM:=Zh hm
 have pf:=hp.facts
 have HLR:Hid (lostR p d (edW w m)=(m.er == 0 && m.kd != 0 && !seenR p d (edW w m))):=Zh rfl
 clear h hp hf hz hm h1k hx hM hd ha hl
 simp only [enCells]
 go_enter Tryz.func31,Tryz.ntmps31
 have hu:Upd [] w (w.alloc (.cells #[.int .i64 m.th,.int .i64 m.ix,.int .i64 m.st,.bool m.wr,.int .i64 m.be,.int .i64 m.en,.int .i64 m.kd,.slice m.ta m.tn m.tc,.int .i64 m.er] 42)):=(Upd.refl _ _).alloc _
 have UA:=Zh hu
 clear hu
 by_cases h1:m.er=0
 ·have e1:(m.er == 0)=true:=by simpa using h1
  have E1:=Zh e1
  clear h1
  by_cases h2:m.kd=0
  ·have e2:(m.kd != 0)=false:=by simpa using h2
   have E2:=Zh e2
   clear h2
   go_wp2_with fail
   go_ret
   rw [HLR.out,E1.out,E2.out]
   exact ⟨rfl,UA.out⟩
  ·have e2:(m.kd != 0)=true:=by simpa using h2
   have E2:=Zh e2
   clear h2
   go_wp2_with fail
   refine (HS.out _ UA.out).mono ?_
   rintro e w2 ⟨rfl,u2⟩
   have ED:edW (w.alloc (.cells #[.int .i64 m.th,.int .i64 m.ix,.int .i64 m.st,.bool m.wr,.int .i64 m.be,.int .i64 m.en,.int .i64 m.kd,.slice m.ta m.tn m.tc,.int .i64 m.er] 42)) m=edW w m:=edW_upd HM.out UA.out
   rw [ED]
   have U2:=Zh (UA.out.trans u2)
   clear u2 ED
   obtain ⟨sb,hsb⟩:∃ b,b=seenR p d (edW w m):=⟨_,rfl⟩
   have HSB:=Zh hsb
   rw [← hsb]
   clear hsb
   go_wp2_with fail
   go_ret
   rw [HLR.out,E1.out,E2.out,← HSB.out]
   exact ⟨by simp,U2.out⟩
 ·have e1:(m.er == 0)=false:=by simpa using h1
  have E1:=Zh e1
  clear h1
  go_wp2_with fail
  go_ret
  rw [HLR.out,E1.out]
  exact ⟨rfl,UA.out⟩
def idxR (f:En→Bool) (M:List En):Int:=match (List.range M.length).find? (fun i => (M[i]?.map f).getD false) with | some i => i | none => -1
theorem index_ok (A:Option Addr) (n c:Nat) (M:List En) (f:En→Bool) (caps:Array Value) (w:World) (hr:Rd encE w (.slice A n c) M) (hn:M.length=n) (h100:n≤100) (hf:∀ m ∈ M,∀ W,Upd [] w W→Calls Tryz.prog 31 (#[.agg (enCells m).toArray] ++ caps) W fun e w' => e=.returned (.bool (f m))∧Upd [] W w') :
 Calls Tryz.prog 33 #[.slice A n c,.func (.func 31) #[] caps] w fun e w' => e=.returned (.int .i64 (idxR f M))∧Upd [] w w':=by
 have ent:∀ args w,(callFunc 31 args).run Tryz.prog w=.ok (.enter 31 args) w:=fun _ _ => rfl
 have HR:=Zh hr
 have HN:=Zh hn
 have HF:=Zh hf
 have hn3:(n:Int)≤100:=by omega
 have HM:=Zh h100
 clear hr hn hf h100
 go_enter Tryz.func33,Tryz.ntmps33
 go_wp2_with fail
 go_loopw [5,8] (fun u5 u8 wr => ∃ k:Nat,u8=.int .i64 k∧k≤n∧Hid (Upd [] w wr∧∀ i,i < k→(M[i]?.map f).getD false=false)) (fun _ u _ => n - (intOf u).toNat)
 case atStart => exact ⟨0,rfl,by omega,Zh ⟨.refl _ _,fun i hi => by omega⟩⟩
 case round =>
  obtain ⟨k,rfl,hk,KX⟩:=hrel
  rename World => wr
  by_cases hlt:k < n
  ·have hki:(k:Int) < n:=by omega
   obtain ⟨m,hmm⟩:∃ m,M[k]?=some m:=⟨_,List.getElem?_eq_getElem (by rw [HN.out]; exact hlt)⟩
   obtain ⟨ad,hA,hl,hc⟩:=(HR.out.upd0 KX.out.1).at_ hmm
   obtain ⟨c0,c1,c2,c3,c4,c5,c6,c7,c8⟩:=en_cells hc
   have hb:(ad.add (k * 9)).block < wr.heap.size:=by rw [block_add]; exact hl
   have HMM:Hid (M[k]?=some m∧k < n):=Zh ⟨hmm,hlt⟩
   clear hmm hc hl hk hlt
   subst hA
   go_wp2_with fail
   have hcc:=HF.out m (List.mem_of_getElem? HMM.out.1) wr KX.out.1
   refine hcc.mono ?_
   rintro e w2 ⟨rfl,u2⟩
   have U2:=Zh (KX.out.1.trans u2)
   clear u2 hcc c0 c1 c2 c3 c4 c5 c6 c7 c8 hb
   cases hfm:f m with
   | true =>
     have HI:Hid (idxR f M=k):=Zh (by
      unfold idxR
      rw [show (List.range M.length).find? (fun i => (M[i]?.map f).getD false)=some k by
       rw [List.find?_range_eq_some]
       refine ⟨by rw [HMM.out.1]; exact hfm,by rw [HN.out]; simpa using HMM.out.2,fun j hj => by rw [KX.out.2 j hj]; rfl⟩])
     go_wp2_with fail
     go_ret
     rw [HI.out]
     exact ⟨rfl,U2.out⟩
   | false =>
     have X2:Hid (Upd [] w w2∧∀ i,i < k + 1→(M[i]?.map f).getD false=false):=Zh ⟨U2.out,fun i hi => by
      by_cases e:i=k
      ·rw [e,HMM.out.1]; exact hfm
      ·exact KX.out.2 i (by omega)⟩
     clear hfm
     go_wp2_with fail
     go_round
     case rel => exact ⟨k + 1,by simp,by have:=HMM.out.2; omega,X2⟩
     case measure => have:=HMM.out.2; simp [intOf]; omega
  ·have hki:¬ ((k:Int) < n):=by omega
   have HI:Hid (idxR f M=-1):=Zh (by
    unfold idxR
    rw [show (List.range M.length).find? (fun i => (M[i]?.map f).getD false)=none from Jd.find_none.2 (fun i hi => KX.out.2 i (by rw [HN.out] at hi; omega))])
   go_wp2_with fail
   go_ret
   rw [HI.out]
   exact ⟨rfl,KX.out.1⟩
end Go.Proofs.YtmjnmpifibemjaaGreatDoor

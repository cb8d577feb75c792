/-
 concordref08.State: set, Del, Put change the box alone; Copy.
-/
import Derived.Test.YtmjnmpifibemjaaGreatDoorJtB14
set_option linter.unusedVariables false
set_option linter.unusedSimpArgs false
set_option maxRecDepth 100000
set_option maxHeartbeats 16000000
namespace Go.Proofs.YtmjnmpifibemjaaGreatDoor.Rf
open Go.RowKit Assoc MP
attribute [local go_sem] litStep_value
theorem elem_prs:Elem Tryz.prog 63 103 1 24:=.mk' (z:=((Tryz.prog.info? 103).bind (·.zero)).getD undef) Tryz.underlying63 (by kernel_rfl) (by kernel_rfl) (by omega)
theorem RMSt.put {B rb:Nat} {vk vl vl':Value} {ms:List Value} {w w':World} {s:MS} {i:Nat} {va:Value} {l:AL} {T:List Nat}
 (h:RMSt B rb vk vl ms w s) (hi:i < s.L.length) (hu:Upd T w w') (hT:∀ k ∈ T,k=rb) (hb:Blk w' rb 65 #[vk,vl'])
 (hl:w'.ownsRow B 103 1 vl' s.L.length (ms.set i va)) (ha:Ow encPr 157 w' B va l):RMSt B rb vk vl' (ms.set i va) w' (setC s i l):=by
 have o1:∀ {e:TypeId} {s n:Nat} {v:Value} {xs:List Value},e≠65→w.ownsRow B e s v n xs→w'.ownsRow B e s v n xs:=fun he ho => own_upd ho hu fun b hb hbT => own_type ho h.box (Ne.symm he) (hT b hbT ▸ hb)
 refine ⟨hb,o1 (by decide) h.k,?_,?_,h.b⟩
 ·show w'.ownsRow B _ 1 vl' (s.L.set i l).length _
  rw [List.length_set]
  exact hl
 ·intro j v x hv hx
  have hx':(s.L.set i l)[j]?=some x:=hx
  rw [List.getElem?_set] at hv hx'
  by_cases e:i=j
  ·subst e
   rw [if_pos rfl] at hv hx'
   rw [if_pos hi] at hx'
   rw [if_pos (by rw [h.mlen]; exact hi)] at hv
   injection hv with hv
   injection hx' with hx'
   subst hv hx'
   exact ha
  ·rw [if_neg e] at hv hx'
   exact o1 (by decide) (h.each j v x hv hx')
def RSetPost (B rb:Nat) (F:List Nat) (s:MS) (i:Nat) (va:Value) (l:AL) (w:World) (e:Ending) (w':World):Prop :=
 ∃ F',e=.returned (.tuple #[])∧RMdl B rb F' w' (setC s i l)∧Upd [rb] w w'∧∀ k ∈ F',k ∈ F∨w.heap.size≤k∨va.ownBlock=some k
theorem rm_set (B rb:Nat) (F:List Nat) (s:MS) (i:Nat) (va:Value) (l:AL) (w:World) (h:RMdl B rb F w s) (hi:i < s.L.length) (ha:Ow encPr 157 w B va l) (hg:MP.Good (setC s i l)) (hBw:B≤w.heap.size) :
 Calls Tryz.prog 112 #[.pointer (some ⟨rb,0,none⟩),.int .i64 i,va] w fun e w' => RSetPost B rb F s i va l w e w':=by
 obtain ⟨g,vk,vl,ms,hF,h⟩:=h
 have HF:=Zh hF
 have HS:=Zh h
 have HG:=Zh hg
 have HA:=Zh ha
 have HI:=Zh hi
 obtain ⟨Aa,ca,hva,_,_⟩:=own_slice ha
 obtain ⟨an,han⟩:∃ an,l.length=an:=⟨_,rfl⟩
 rw [han] at hva
 subst hva
 obtain ⟨Al,cl,rfl,_,_⟩:=own_slice h.l
 obtain ⟨N,hN⟩:∃ N,s.L.length=N:=⟨_,rfl⟩
 have HN:=Zh hN
 have hiN:i < N:=hN ▸ hi
 have hN8:N≤8:=by rw [← hN,← g.kl]; exact g.k8
 have HB:Hid (Blk w rb 65 #[vk,.slice Al N cl]):=Zh (by rw [← hN]; exact h.box)
 have HL:Hid (w.ownsRow B 103 1 (.slice Al N cl) N ms):=Zh (by rw [← hN]; exact h.l)
 have ONE:Hid (∀ u ∈ ms,u.oneCell'=true):=Zh (fun u hu => by
  obtain ⟨l,_,ho⟩:=HS.out.mem hu
  obtain ⟨A',c',rfl,_⟩:=own_slice ho
  rfl)
 have c1:(w.alloc (.cells #[] 103)).cell? ⟨rb,1,none⟩=some (.slice Al N cl):=(HB.out.alloc _).cell 1
 have q1:(0:Int)≤(i:Int):=by omega
 have q2:(i:Int) < (N:Int):=by omega
 clear g hF h hg ha hi hN han
 go_enter Tryz.func112,Tryz.ntmps112
 go_wp2_with (at_builtin; refine stopped ?_)
 refine Zh ?_
 refine wpList_app _ (by rfl) (.tmp 7) (.tmp 11) _ (by rfl) elem_prs _ _ (by rfl) (by rfl) (own_made (B:=w.heap.size) 1 (Blk.new w 103 #[]) (Nat.le_refl _)) (Src.of_own (own_upd0 HL.out ((Upd.refl [] w).alloc _))) ONE.out (by unfold maxLen; omega) (by omega) (by simp) ?_
 intro v2 w2 o2 u2 b2
 have U2:Hid (Upd [] w w2):=Zh (((Upd.refl [] w).alloc _).trans' u2 (by intro x hx; simp [Value.ownBlock] at hx; subst hx; exact .inr (Nat.le_refl _)))
 rw [Nat.zero_add,List.nil_append] at o2
 have O2:=Zh o2
 obtain ⟨gn,cn,cur,rfl,hgn,_⟩:=own_form o2 (by omega)
 have HGN:=Zh hgn
 have HB2:Hid (Blk w2 rb 65 #[vk,.slice Al N cl]):=Zh (HB.out.upd U2.out (by simp))
 have ML:Hid (ms.length=N):=Zh (by have:=own_len HL.out; omega)
 obtain ⟨x0,hx0⟩:∃ x0,ms[i]?=some x0:=⟨_,List.getElem?_eq_getElem (by rw [ML.out]; exact hiN)⟩
 have e0:w2.cell? ⟨gn,i,none⟩=some x0:=own_cell O2.out _ _ hx0
 have e1:w2.frozen? ⟨gn,i,none⟩=false:=own_frozen O2.out i
 have e2:gn < w2.heap.size:=(own_lt O2.out rfl).2
 have hne:rb≠gn:=by have:=HB.out.lt; omega
 have O3:Hid ((w2.setCell ⟨gn,i,none⟩ (.slice Aa an ca)).ownsRow w.heap.size 103 1 (.slice (some ⟨gn,0,none⟩) N cn) N (ms.set i (.slice Aa an ca))):=Zh (own_set O2.out i _)
 have HB3:Hid (Blk (w2.setCell ⟨gn,i,none⟩ (.slice Aa an ca)) rb 65 #[vk,.slice Al N cl]):=Zh (HB2.out.far hne _)
 have U3:Hid (Upd [] w (w2.setCell ⟨gn,i,none⟩ (.slice Aa an ca))):=Zh (U2.out.setCell (.inr hgn) _)
 have e3:(w2.setCell ⟨gn,i,none⟩ (.slice Aa an ca)).cell? ⟨rb,1,none⟩=some (.slice Al N cl):=HB3.out.cell 1
 have e4:(w2.setCell ⟨gn,i,none⟩ (.slice Aa an ca)).frozen? ⟨rb,1,none⟩=false:=HB3.out.frozen 1
 have e5:rb < (w2.setCell ⟨gn,i,none⟩ (.slice Aa an ca)).heap.size:=HB3.out.lt
 clear o2 u2 b2 hx0 hgn c1
 go_wp2_with fail
 go_end0
 generalize w2.setCell ⟨gn,i,none⟩ (.slice Aa an ca)=w3 at *
 have HB4:=HB3.out.set_eq (i:=1) (u:=.slice (some ⟨gn,0,none⟩) N cn) rfl
 have U4:Upd [rb] w3 (w3.setCell ⟨rb,1,none⟩ (.slice (some ⟨gn,0,none⟩) N cn)):=(Upd.refl [rb] w3).setCell (.inl (by simp)) _
 have U5:Upd [rb] w (w3.setCell ⟨rb,1,none⟩ (.slice (some ⟨gn,0,none⟩) N cn)):=(U3.out.mono (by simp)).trans U4
 have OA:Ow encPr 157 (w3.setCell ⟨rb,1,none⟩ (.slice (some ⟨gn,0,none⟩) N cn)) B (.slice Aa an ca) l:=HA.out.upd U5 (by intro b hb; simp; rintro rfl; exact own_type HA.out HB.out (by decide) hb)
 have OL:(w3.setCell ⟨rb,1,none⟩ (.slice (some ⟨gn,0,none⟩) N cn)).ownsRow B 103 1 (.slice (some ⟨gn,0,none⟩) N cn) s.L.length (ms.set i (.slice Aa an ca)):=by
  rw [HN.out]
  exact own_base (own_upd O3.out U4 (by intro b hb; simp; rintro rfl; exact own_type O3.out HB3.out (by decide) hb)) hBw
 refine ⟨fpRM rb vk (.slice (some ⟨gn,0,none⟩) N cn) (ms.set i (.slice Aa an ca)),rfl,⟨HG.out,_,_,_,rfl,RMSt.put HS.out HI.out U5 (by simp) HB4 OL OA⟩,?_,?_⟩
 ·exact U5
 ·rw [HF.out]
  intro y hy
  unfold fpRM at hy ⊢
  simp only [List.mem_cons,List.mem_append,Option.mem_toList,mem_owns] at hy ⊢
  rcases hy with rfl | (hy | hy) | ⟨u,hu,hy⟩
  ·simp
  ·simp [hy]
  ·exact .inr (.inl (by have:=HGN.out; simp [Value.ownBlock] at hy; omega))
  ·rcases List.mem_or_eq_of_mem_set hu with hu | rfl
   ·exact .inl (.inr (.inr ⟨u,hu,hy⟩))
   ·exact .inr (.inr hy)
theorem del_snoc (l:AL) (x:Int × Int) (k:Int):del (l ++ [x]) k=if x.1=k then del l k else del l k ++ [x]:=by
 unfold del
 rw [List.filter_append]
 by_cases h:x.1=k
 ·rw [if_pos h]; simp [h]
 ·rw [if_neg h]; simp [h]
def RDelPost (B rb:Nat) (F:List Nat) (s:MS) (c k:Int) (w:World) (e:Ending) (w':World):Prop:=∃ F',e=.returned (.int .i64 (if isC s c then 0 else 3))∧RMdl B rb F' w' (if isC s c then mDel s c.toNat k else s)∧Upd [rb] w w'
structure DelI (l:AL) (w:World) (vl:Value) (wr:World):Prop where
 own:Ow encPr 157 wr w.heap.size vl l
 upd:Upd [] w wr
theorem frm_set {B rb:Nat} {F F':List Nat} {w w1 w2:World} {va:Value} {l:AL} (hu:Upd [] w w1) (ho:Ow encPr 157 w1 w.heap.size va l) (h1:Upd [rb] w1 w2) (h2:∀ k ∈ F',k ∈ F∨w1.heap.size≤k∨va.ownBlock=some k):Upd [rb] w w2:=(hu.mono (by simp)).trans h1
theorem rm_del (B rb:Nat) (F:List Nat) (s:MS) (c k:Int) (w:World) (h:RMdl B rb F w s) (hBw:B≤w.heap.size) :
 Calls Tryz.prog 98 #[.pointer (some ⟨rb,0,none⟩),.int .i64 c,.int .i64 k] w fun e w' => RDelPost B rb F s c k w e w':=by
 have H:=Zh h
 cases hc:isC s c with
 | false =>
   have HC:=Zh hc
   clear h hc
   go_enter Tryz.func98,Tryz.ntmps98
   go_wp2_with fail
   refine (rm_there B rb F s c w H.out).mono ?_; rintro e w' ⟨rfl,rfl⟩
   rw [HC.out]
   go_wp2_with fail
   go_ret
   unfold RDelPost
   rw [HC.out]
   exact ⟨_,rfl,H.out,.refl _ _⟩
 | true =>
   have HC:=Zh hc
   obtain ⟨i,rfl,hi⟩:=isC_form hc
   obtain ⟨hgd,vk,vl,ms,hF,hst⟩:=h
   have HST:=Zh hst
   obtain ⟨gl,cl,Ai,ci,rfl,hcell,hoi,hmi⟩:=hst.at_ hi
   obtain ⟨N,hN⟩:∃ N,s.L.length=N:=⟨_,rfl⟩
   obtain ⟨n,hn⟩:∃ n,(coll s i).length=n:=⟨_,rfl⟩
   have hn1:n≤100:=hn ▸ hgd.len _ (coll_mem hi)
   have hi2:i < N:=hN ▸ hi
   have HOW:Hid (∀ W,Upd [] w W→W.cell? ⟨rb,1,none⟩=some (.slice (some ⟨gl,0,none⟩) N cl)∧W.cell? ⟨gl,i,none⟩=some (.slice Ai n ci)):=Zh (fun W hW => ⟨by rw [← hN]; exact (hst.box.upd hW (by simp)).cell 1,by rw [← hn]; exact own_cell (own_upd0 hst.l hW) i _ hmi⟩)
   have ON:Hid (w.ownsRow B 157 2 (.slice Ai n ci) n (flat encPr (coll s i))):=Zh (by have:=hoi; unfold Ow at this; rw [hn] at this; exact this)
   have HN:=Zh hn
   have OI:Hid (Ow encPr 157 w B (.slice Ai n ci) (coll s i)):=Zh (by rw [← hn]; exact hoi)
   have q1:(0:Int)≤(i:Int):=by omega
   have q2:(i:Int) < (N:Int):=by omega
   have HII:=Zh hi
   have HGD:=Zh hgd
   clear hcell hoi hN hn hmi
   clear hc hgd hst hF hi
   go_enter Tryz.func98,Tryz.ntmps98
   go_wp2_with fail
   refine (rm_there B rb F s i w H.out).mono ?_; rintro e w' ⟨rfl,rfl⟩
   rw [HC.out]
   go_wp2_with fail
   go_loopw [7,8] (fun vl vi wr => ∃ j:Nat,vi=.int .i64 j∧j≤n∧Hid (DelI (del ((coll s i).take j) k) w vl wr)) (fun _ v _ => n - (intOf v).toNat)
   case atStart => exact ⟨0,rfl,by omega,Zh ⟨Ow.nil _ _ _ _,.refl _ _⟩⟩
   case round =>
    obtain ⟨j,rfl,hj,hs0⟩:=hrel
    rename World => wi
    have UI:=Zh hs0.out.upd
    have HD:=Zh hs0.out.own
    clear hs0
    obtain ⟨acc,hacc⟩:∃ acc,del ((coll s i).take j) k=acc:=⟨_,rfl⟩
    have HACC:=Zh hacc
    rw [hacc] at HD
    obtain ⟨q,hq⟩:∃ q,acc.length=q:=⟨_,rfl⟩
    have HQ:=Zh hq
    have hqj:q≤j:=by
     rw [← hq,← hacc]
     exact Nat.le_trans (List.length_filter_le _ _) (by rw [List.length_take]; omega)
    obtain ⟨Al,ca,rfl,_,_⟩:=own_slice HD.out
    rw [hq] at HD ⊢
    have O1:Hid (wi.ownsRow w.heap.size 157 2 (.slice Al q ca) q (flat encPr acc)):=Zh (by have:=HD.out; unfold Ow at this; rw [hq] at this; exact this)
    obtain ⟨c1,e0⟩:=HOW.out wi UI.out
    clear hacc hq
    by_cases hjn:j < n
    ·
     obtain ⟨⟨xc,xv⟩,hx⟩:∃ x,(coll s i)[j]?=some x:=⟨_,List.getElem?_eq_getElem (by rw [HN.out]; omega)⟩
     obtain ⟨gw,cgw,curw,e1,_⟩:=own_form ON.out (by omega)
     injection e1 with e1 _ e1'
     subst e1 e1'
     have HEW:Hid (∀ W,Upd [] w W→W.cell? ⟨gw,j * 2,none⟩=some (.int .i64 xc)∧W.cell? ⟨gw,j * 2 + 1,none⟩=some (.int .i64 xv)):=Zh (fun W hW => ⟨(OI.out.upd0 hW).at_ hx 0 _ rfl,(OI.out.upd0 hW).at_ hx 1 _ rfl⟩)
     have HX:=Zh hx
     have q3:(0:Int)≤(j:Int):=by omega
     have q4:(j:Int) < (n:Int):=by omega
     clear hx
     obtain ⟨f0,f1⟩:=HEW.out wi UI.out
     have HT:Hid (del ((coll s i).take (j + 1)) k=if xc=k then acc else acc ++ [(xc,xv)]):=Zh (by rw [take_snoc_ HX.out,del_snoc,HACC.out])
     by_cases hid:xc=k
     ·have d1:(xc != k)=false:=by simpa using hid
      have HZ:Hid (del ((coll s i).take (j + 1)) k=acc):=Zh (by rw [HT.out,if_pos hid])
      clear hid
      go_wp2_with fail
      go_roundw
      case rel => exact ⟨j + 1,by go_num,by omega,Zh ⟨by rw [HZ.out]; exact HD.out,UI.out⟩⟩
      case measure => simp [intOf]; omega
     ·have d1:(xc != k)=true:=by simpa using hid
      have HZ:Hid (del ((coll s i).take (j + 1)) k=acc ++ [(xc,xv)]):=Zh (by rw [HT.out,if_neg hid])
      clear hid
      go_wp2_with (at_builtin; refine stopped ?_)
      refine Zh ?_
      refine wpList_app _ (by rfl) (.tmp 38) (.tmp 49) _ (by rfl) elem_pair (.slice Al q ca) _ (by rfl) (by rfl) (own_upd0 O1.out ((Upd.refl [] wi).alloc _)) (.of_blk (Blk.new _ _ _) (m:=1) 1 rfl) (by intro u hu; simp at hu; rcases hu with rfl | rfl <;> rfl) (by simp only [maxLen]; omega) (by omega) (Nat.le_trans UI.out.size (by simp)) ?_
      intro v5 w5 o5 u5 b5
      obtain ⟨A5,c5,rfl,_,_⟩:=own_slice o5
      have U5:Hid (Upd [] w w5):=Zh (UI.out.trans' (((Upd.refl _ wi).alloc _).trans u5) (fun k hk => .inr (own_lt O1.out (by simpa using hk)).1))
      have O5:Hid (Ow encPr 157 w5 w.heap.size (.slice A5 (q + 1) c5) (acc ++ [(xc,xv)])):=Zh (by unfold Ow; rw [List.length_append,HQ.out,flat_append]; exact o5)
      clear o5 u5 b5
      go_wp2_with fail
      go_roundw
      case rel => exact ⟨j + 1,by go_num,by omega,Zh ⟨by rw [HZ.out]; exact O5.out,U5.out⟩⟩
      case measure => simp [intOf]; omega
    ·obtain rfl:j=n:=by omega
     have HA:Hid (del (coll s i) k=acc):=Zh (by rw [← HACC.out,List.take_of_length_le (by rw [HN.out]; exact Nat.le_refl _)])
     go_wp2_with fail
     refine (rm_set B rb F s i (.slice Al q ca) acc wi (H.out.upd0 UI.out) HII.out (own_base HD.out hBw) (by rw [← HA.out]; exact good_del HGD.out HII.out k) (Nat.le_trans hBw UI.out.size)).mono ?_
     rintro e w6 ⟨F',rfl,R6,U6,S6⟩
     have R:=Zh (And.intro R6 (frm_set (B:=B) UI.out HD.out U6 S6))
     clear R6 U6 S6
     go_wp2_with fail
     go_ret
     unfold RDelPost
     rw [HC.out,Int.toNat_natCast]
     refine ⟨F',rfl,?_,R.out.2⟩
     have:=R.out.1
     rw [← HA.out] at this
     exact this
theorem drop_at {W:AL} {k:Nat} {x:Int × Int} (h:W[k]?=some x):W.drop k=x :: W.drop (k + 1):=by
 obtain ⟨hk,rfl⟩:=List.getElem?_eq_some_iff.1 h
 exact List.drop_eq_getElem_cons hk
theorem over_cons (k v:Int) (p:Int × Int) (l:AL) (done:Bool):over k v (p :: l) done=(if k≤p.1∧done=false then [(k,v)] else []) ++ ((if p.1=k then [] else [p]) ++ over k v l (done || decide (k≤p.1))):=rfl
theorem over_in {W acc:AL} {c v:Int} {k:Nat} {x:Int × Int} (h:W[k]?=some x) (hc:c≤x.1) (e:acc ++ over c v (W.drop k) false=over c v W false) :
 (if x.1=c then acc ++ [(c,v)] else acc ++ [(c,v)] ++ [x]) ++ over c v (W.drop (k + 1)) true=over c v W false:=by
 rw [drop_at h,over_cons] at e
 rw [if_pos ⟨hc,rfl⟩,decide_eq_true hc,Bool.or_true] at e
 rw [← e]
 split <;> simp
theorem over_out {W acc:AL} {c v:Int} {k:Nat} {done:Bool} {x:Int × Int} (h:W[k]?=some x) (hc:done=true∨¬ c≤x.1) (e:acc ++ over c v (W.drop k) done=over c v W false) :
 (if x.1=c then acc else acc ++ [x]) ++ over c v (W.drop (k + 1)) done=over c v W false:=by
 rw [drop_at h,over_cons] at e
 have h1:(done || decide (c≤x.1))=done:=by
  rcases hc with rfl | hc
  ·rfl
  ·rw [decide_eq_false hc,Bool.or_false]
 rw [if_neg (by rintro ⟨h2,rfl⟩; rcases hc with hc | hc; · cases hc
                ·exact hc h2),h1] at e
 rw [← e]
 split <;> simp
structure PutI (L:AL) (k v:Int) (w:World) (vl:Value) (acc:AL) (done:Bool) (j:Nat) (wr:World):Prop where
 own:Ow encPr 157 wr w.heap.size vl acc
 upd:Upd [] w wr
 eq:acc ++ over k v (L.drop j) done=over k v L false
 len:acc.length≤j + done.toNat
def RPutPost (B rb:Nat) (F:List Nat) (s:MS) (c k v:Int) (w:World) (e:Ending) (w':World):Prop:=∃ F',e=.returned (.int .i64 (if isC s c then putE (coll s c.toNat) k else 3))∧RMdl B rb F' w' (if isC s c then mPut s c.toNat k v else s)∧Upd [rb] w w'
theorem rm_put (B rb:Nat) (F:List Nat) (s:MS) (c k v:Int) (w:World) (h:RMdl B rb F w s) (hkb:kB k) (hBw:B≤w.heap.size) :
 Calls Tryz.prog 97 #[.pointer (some ⟨rb,0,none⟩),.int .i64 c,.int .i64 k,.int .i64 v] w fun e w' => RPutPost B rb F s c k v w e w':=by
 have H:=Zh h
 have HKB:=Zh hkb
 clear hkb
 cases hc:isC s c with
 | false =>
   have HC:=Zh hc
   clear h hc
   go_enter Tryz.func97,Tryz.ntmps97
   go_wp2_with fail
   refine (rm_there B rb F s c w H.out).mono ?_; rintro e w' ⟨rfl,rfl⟩
   rw [HC.out]
   go_wp2_with fail
   go_ret
   unfold RPutPost
   rw [HC.out]
   exact ⟨_,rfl,H.out,.refl _ _⟩
 | true =>
   have HC:=Zh hc
   obtain ⟨i,rfl,hi⟩:=isC_form hc
   obtain ⟨hgd,vk,vl,ms,hF,hst⟩:=h
   obtain ⟨Ak,ck,rfl,hnk,_⟩:=own_slice hst.k
   obtain ⟨NK,hNK⟩:∃ NK,s.K.length=NK:=⟨_,rfl⟩
   have hik:i < NK:=by rw [← hNK,hgd.kl]; exact hi
   have OK:Hid (w.ownsRow B 3 1 (.slice Ak NK ck) NK (flat encK s.K)):=Zh (by have:=hst.k; unfold Ow at this; rw [hNK] at this; exact this)
   obtain ⟨gk,cg,cur,e1,_⟩:=own_form OK.out (by omega)
   injection e1 with e1 _ e1'
   subst e1 e1'
   obtain ⟨y,hy⟩:∃ y,s.K[i]?=some y:=⟨_,List.getElem?_eq_getElem (by rw [hNK]; exact hik)⟩
   have k0:w.cell? ⟨gk,i,none⟩=some (.int .i64 y):=by
    have:=own_cell OK.out _ _ ((flat_get (E:=encK) hy (j:=0) (by decide)).trans rfl)
    rwa [show i * encK.s + 0=i by simp [encI]] at this
   have c0:w.cell? ⟨rb,0,none⟩=some (.slice (some ⟨gk,0,none⟩) NK ck):=by rw [← hNK]; exact hst.box.cell 0
   have q5:(i:Int) < (NK:Int):=by omega
   have HY:Hid (∀ u,putV s i u=if y=2 then 1 else u):=Zh (fun u => by unfold putV; rw [List.getD_eq_getElem?_getD,hy]; rfl)
   have KN:Hid (s.K.length=NK):=Zh hNK
   have KC:Hid ((flat encK s.K)[i]?=some (.int .i64 y)):=Zh (by have:=(flat_get (E:=encK) hy (j:=0) (by decide)).trans rfl; rwa [show i * encK.s + 0=i by simp [encI]] at this)
   clear hNK hy
   have HST:=Zh hst
   obtain ⟨gl,cl,Ai,ci,rfl,hcell,hoi,hmi⟩:=hst.at_ hi
   obtain ⟨N,hN⟩:∃ N,s.L.length=N:=⟨_,rfl⟩
   obtain ⟨n,hn⟩:∃ n,(coll s i).length=n:=⟨_,rfl⟩
   have hn1:n≤100:=hn ▸ hgd.len _ (coll_mem hi)
   have hi2:i < N:=hN ▸ hi
   have HOW:Hid (∀ W,Upd [] w W→W.cell? ⟨rb,1,none⟩=some (.slice (some ⟨gl,0,none⟩) N cl)∧W.cell? ⟨gl,i,none⟩=some (.slice Ai n ci)):=Zh (fun W hW => ⟨by rw [← hN]; exact (hst.box.upd hW (by simp)).cell 1,by rw [← hn]; exact own_cell (own_upd0 hst.l hW) i _ hmi⟩)
   have ON:Hid (w.ownsRow B 157 2 (.slice Ai n ci) n (flat encPr (coll s i))):=Zh (by have:=hoi; unfold Ow at this; rw [hn] at this; exact this)
   have HN:=Zh hn
   have OI:Hid (Ow encPr 157 w B (.slice Ai n ci) (coll s i)):=Zh (by rw [← hn]; exact hoi)
   have q1:(0:Int)≤(i:Int):=by omega
   have q2:(i:Int) < (N:Int):=by omega
   have HII:=Zh hi
   have HGD:=Zh hgd
   clear hcell hoi hN hn hmi
   have hgn:get (coll s i) k=none→Hid (putE (coll s i) k=if 100≤n then 8 else 0):=fun hg => Zh (by unfold putE; rw [hg,HN.out]; simp)
   have hgs:∀ u,get (coll s i) k=some u→Hid (putE (coll s i) k=0):=fun u hg => Zh (by unfold putE; rw [hg]; simp)
   have HGN:=Zh hgn
   have HGS:=Zh hgs
   have HK0:Hid (∀ W,Upd [] w W→W.cell? ⟨rb,0,none⟩=some (.slice (some ⟨gk,0,none⟩) NK ck)∧W.cell? ⟨gk,i,none⟩=some (.int .i64 y)):=Zh (fun W hW => ⟨by rw [← KN.out]; exact (HST.out.box.upd hW (by simp)).cell 0,own_cell (own_upd0 OK.out hW) _ _ KC.out⟩)
   clear hc hgd hst hF hi hgn hgs k0 c0
   go_enter Tryz.func97,Tryz.ntmps97
   go_wp2_with fail
   refine (rm_there B rb F s i w H.out).mono ?_; rintro e w' ⟨rfl,rfl⟩
   rw [HC.out]
   go_wp2_with fail
   refine (rm_find B rb F s i k w H.out HII.out).mono ?_; rintro e w' ⟨rfl,rfl⟩
   obtain ⟨c1,e0⟩:=HOW.out w (.refl _ _)
   obtain ⟨k1,k0⟩:=HK0.out w (.refl _ _)
   by_cases hy2:y=2
   ·have d2:(y == 2)=true:=by simpa using hy2
    have HVV:Hid (putV s i v=1):=Zh (by rw [HY.out,if_pos hy2])
    clear hy2
    cases hg:get (coll s i) k with
    | some ov =>
      have HE:=HGS.out ov hg
      obtain ⟨pk,hp1,hp2⟩:=posW_some hg
      rw [hp1]
      have q0:(0:Int)≤(pk:Int):=by omega
      clear hg hp1 hp2
      go_wp2_with fail
      go_loopw [9,10,11,12] (fun vl vp vi vx wr => ∃ (j:Nat) (done:Bool),vp=.bool done∧vi=.int .i64 j∧j≤n∧Hid (∃ acc,PutI (coll s i) k 1 w vl acc done j wr)) (fun _ _ v _ _ => n - (intOf v).toNat)
      case atStart => exact ⟨0,false,rfl,rfl,by omega,Zh ⟨[],Ow.nil _ _ _ _,.refl _ _,rfl,by simp⟩⟩
      case round =>
       obtain ⟨j,done,rfl,rfl,hj,acc,hs0⟩:=hrel
       rename World => wi
       have ST:=Zh hs0
       obtain ⟨Al,ca,rfl,_,_⟩:=own_slice hs0.own
       obtain ⟨q,hq⟩:∃ q,acc.length=q:=⟨_,rfl⟩
       have HQ:=Zh hq
       have QK:Hid (q≤j + done.toNat):=Zh (hq ▸ hs0.len)
       have hqk:q≤j + 1:=by have:=QK.out; have:=Bool.toNat_le done; omega
       rw [hq] at ST ⊢
       have O1:Hid (wi.ownsRow w.heap.size 157 2 (.slice Al q ca) q (flat encPr acc)):=Zh (by have:=ST.out.own; unfold Ow at this; rw [hq] at this; exact this)
       have U1:=Zh hs0.upd
       clear c1 e0 k0 k1
       obtain ⟨c1,e0⟩:=HOW.out wi U1.out
       clear hs0 hq
       by_cases hjn:j < n
       ·obtain ⟨⟨xc,xv⟩,hx⟩:∃ x,(coll s i)[j]?=some x:=⟨_,List.getElem?_eq_getElem (by rw [HN.out]; omega)⟩
        obtain ⟨gw,cgw,curw,e1,_⟩:=own_form ON.out (by omega)
        injection e1 with e1 _ e1'
        subst e1 e1'
        have HEW:Hid (∀ W,Upd [] w W→W.cell? ⟨gw,j * 2,none⟩=some (.int .i64 xc)∧W.cell? ⟨gw,j * 2 + 1,none⟩=some (.int .i64 xv)):=Zh (fun W hW => ⟨(OI.out.upd0 hW).at_ hx 0 _ rfl,(OI.out.upd0 hW).at_ hx 1 _ rfl⟩)
        have HX:=Zh hx
        have q3:(0:Int)≤(j:Int):=by omega
        have q4:(j:Int) < (n:Int):=by omega
        clear hx
        obtain ⟨f0,f1⟩:=HEW.out wi U1.out
        have O1p:Hid ((wi.alloc (.cells #[.int .i64 xc,.int .i64 xv] 157)).ownsRow w.heap.size 157 2 (.slice Al q ca) q (flat encPr acc)):=Zh (own_upd0 O1.out ((Upd.refl [] wi).alloc _))
        have U1p:Hid (Upd [] w (wi.alloc (.cells #[.int .i64 xc,.int .i64 xv] 157))):=Zh (U1.out.alloc _)
        by_cases hcx:k≤xc
        ·have d1:decide (k≤xc)=true:=by simpa using hcx
         cases done with
         | true =>
           by_cases he:xc=k
           ·have d3:(xc != k)=false:=by simpa using he
            have E1:Hid (acc ++ over k 1 ((coll s i).drop (j + 1)) true=over k 1 (coll s i) false):=Zh (by have:=over_out HX.out (.inl rfl) ST.out.eq; rwa [if_pos he] at this)
            have LL:Hid (acc.length≤j + 1 + true.toNat):=Zh (by rw [HQ.out]; have:=QK.out; omega)
            have OO:Hid (Ow encPr 157 (wi.alloc (.cells #[.int .i64 xc,.int .i64 xv] 157)) w.heap.size (.slice Al q ca) acc):=Zh (by unfold Ow; rw [HQ.out]; exact O1p.out)
            clear he
            go_wp2_with fail
            go_roundw
            case rel => exact ⟨j + 1,true,rfl,by go_num,by omega,Zh ⟨_,OO.out,U1p.out,E1.out,LL.out⟩⟩
            case measure => simp [intOf]; omega
           ·have d3:(xc != k)=true:=by simpa using he
            have E1:Hid (acc ++ [(xc,xv)] ++ over k 1 ((coll s i).drop (j + 1)) true=over k 1 (coll s i) false):=Zh (by have:=over_out HX.out (.inl rfl) ST.out.eq; rwa [if_neg he] at this)
            have LL:Hid ((acc ++ [(xc,xv)]).length≤j + 1 + true.toNat):=Zh (by rw [List.length_append,HQ.out]; have:=QK.out; simp at this ⊢; omega)
            clear he
            go_wp2_with (at_builtin; refine stopped ?_)
            refine Zh ?_
            refine wpList_app _ (by rfl) (.tmp 81) (.tmp 83) _ (by rfl) elem_pair (.slice Al q ca) _ (by rfl) (by rfl) (own_upd0 O1p.out ((Upd.refl [] (wi.alloc (.cells #[.int .i64 xc,.int .i64 xv] 157))).alloc _)) (.of_blk (Blk.newAt _ _ (H:=wi.heap.size + 1) (by simp)) (m:=1) 1 rfl) (by intro u hu; simp at hu; rcases hu with rfl | rfl <;> rfl) (by simp only [maxLen]; omega) (by omega) (Nat.le_trans U1p.out.size (by simp)) ?_
            intro v5 w5 o5 u5 b5
            obtain ⟨A5,c5,rfl,_,_⟩:=own_slice o5
            have U5:Hid (Upd [] w w5):=Zh (U1p.out.trans' (((Upd.refl _ (wi.alloc (.cells #[.int .i64 xc,.int .i64 xv] 157))).alloc _).trans u5) (fun k hk => .inr (own_lt O1p.out (by simpa using hk)).1))
            have O5:Hid (w5.ownsRow w.heap.size 157 2 (.slice A5 (q + 1) c5) (q + 1) (flat encPr (acc ++ [(xc,xv)]))):=Zh (by
             rw [flat_append]
             exact o5)
            clear o5 u5 b5
            have OO:Hid (Ow encPr 157 w5 w.heap.size (.slice A5 (q + 1) c5) (acc ++ [(xc,xv)])):=Zh (by unfold Ow; rw [List.length_append,HQ.out]; exact O5.out)
            go_wp2_with fail
            go_roundw
            case rel => exact ⟨j + 1,true,rfl,by go_num,by omega,Zh ⟨_,OO.out,U5.out,E1.out,LL.out⟩⟩
            case measure => simp [intOf]; omega
         | false =>
           go_wp2_with (at_builtin; refine stopped ?_)
           refine Zh ?_
           refine wpList_app _ (by rfl) (.tmp 71) (.tmp 75) _ (by rfl) elem_pair (.slice Al q ca) _ (by rfl) (by rfl) (own_upd0 O1p.out ((Upd.refl [] (wi.alloc (.cells #[.int .i64 xc,.int .i64 xv] 157))).alloc _)) (.of_blk (Blk.newAt _ _ (H:=wi.heap.size + 1) (by simp)) (m:=1) 1 rfl) (by intro u hu; simp at hu; rcases hu with rfl | rfl <;> rfl) (by simp only [maxLen]; omega) (by omega) (Nat.le_trans U1p.out.size (by simp)) ?_
           intro v5 w4 o5 u5 b5
           obtain ⟨A4,c4,rfl,_,_⟩:=own_slice o5
           have U4:Hid (Upd [] w w4):=Zh (U1p.out.trans' (((Upd.refl _ (wi.alloc (.cells #[.int .i64 xc,.int .i64 xv] 157))).alloc _).trans u5) (fun k hk => .inr (own_lt O1p.out (by simpa using hk)).1))
           have O4:Hid (w4.ownsRow w.heap.size 157 2 (.slice A4 (q + 1) c4) (q + 1) (flat encPr (acc ++ [(k,1)]))):=Zh (by
            rw [flat_append]
            exact o5)
           have HP4:Hid (Blk w4 wi.heap.size 157 #[.int .i64 xc,.int .i64 xv]):=Zh (((Blk.new wi _ _).alloc _).upd u5 (by intro hb; have:=(own_lt O1.out (by simpa using hb)).2; omega))
           obtain ⟨p0,p1⟩:w4.cell? ⟨wi.heap.size,0,none⟩=some (.int .i64 xc)∧w4.cell? ⟨wi.heap.size,1,none⟩=some (.int .i64 xv):=⟨HP4.out.cell 0,HP4.out.cell 1⟩
           clear o5 u5 b5
           clear f0 f1 c1 e0
           by_cases he:xc=k
           ·have d3:(xc != k)=false:=by simpa using he
            have E1:Hid (acc ++ [(k,1)] ++ over k 1 ((coll s i).drop (j + 1)) true=over k 1 (coll s i) false):=Zh (by have:=over_in HX.out hcx ST.out.eq; rwa [if_pos he] at this)
            have LL:Hid ((acc ++ [(k,(1:Int))]).length≤j + 1 + true.toNat):=Zh (by rw [List.length_append,HQ.out]; have:=QK.out; simp at this ⊢; omega)
            have OO:Hid (Ow encPr 157 w4 w.heap.size (.slice A4 (q + 1) c4) (acc ++ [(k,1)])):=Zh (by unfold Ow; rw [List.length_append,HQ.out]; exact O4.out)
            clear he
            go_wp2_with fail
            go_roundw
            case rel => exact ⟨j + 1,true,rfl,by go_num,by omega,Zh ⟨_,OO.out,U4.out,E1.out,LL.out⟩⟩
            case measure => simp [intOf]; omega
           ·have d3:(xc != k)=true:=by simpa using he
            have E1:Hid (acc ++ [(k,1)] ++ [(xc,xv)] ++ over k 1 ((coll s i).drop (j + 1)) true=over k 1 (coll s i) false):=Zh (by have:=over_in HX.out hcx ST.out.eq; rwa [if_neg he] at this)
            clear he
            go_wp2_with (at_builtin; refine stopped ?_)
            refine Zh ?_
            refine wpList_app _ (by rfl) (.tmp 81) (.tmp 83) _ (by rfl) elem_pair (.slice A4 (q + 1) c4) _ (by rfl) (by rfl) (own_upd0 O4.out ((Upd.refl [] w4).alloc _)) (.of_blk (Blk.new _ _ _) (m:=1) 1 rfl) (by intro u hu; simp at hu; rcases hu with rfl | rfl <;> rfl) (by simp only [maxLen]; omega) (by omega) (Nat.le_trans U4.out.size (by simp)) ?_
            intro v5 w5 o5 u5 b5
            obtain ⟨A5,c5,rfl,_,_⟩:=own_slice o5
            have U5:Hid (Upd [] w w5):=Zh (U4.out.trans' (((Upd.refl _ w4).alloc _).trans u5) (fun k hk => .inr (own_lt O4.out (by simpa using hk)).1))
            have O5:Hid (w5.ownsRow w.heap.size 157 2 (.slice A5 ((q + 1) + 1) c5) ((q + 1) + 1) (flat encPr ((acc ++ [(k,1)]) ++ [(xc,xv)]))):=Zh (by
             rw [flat_append]
             exact o5)
            clear o5 u5 b5
            have OO:Hid (Ow encPr 157 w5 w.heap.size (.slice A5 (q + 1 + 1) c5) (acc ++ [(k,1)] ++ [(xc,xv)])):=Zh (by unfold Ow; rw [List.length_append,List.length_append,HQ.out]; exact O5.out)
            have LL:Hid ((acc ++ [(k,(1:Int))] ++ [(xc,xv)]).length≤j + 1 + true.toNat):=Zh (by rw [List.length_append,List.length_append,HQ.out]; have:=QK.out; simp at this ⊢; omega)
            go_wp2_with fail
            go_roundw
            case rel => exact ⟨j + 1,true,rfl,by go_num,by omega,Zh ⟨_,OO.out,U5.out,E1.out,LL.out⟩⟩
            case measure => simp [intOf]; omega
        ·have d1:decide (k≤xc)=false:=by simpa using hcx
         by_cases he:xc=k
         ·have d3:(xc != k)=false:=by simpa using he
          have E1:Hid (acc ++ over k 1 ((coll s i).drop (j + 1)) done=over k 1 (coll s i) false):=Zh (by have:=over_out HX.out (.inr hcx) ST.out.eq; rwa [if_pos he] at this)
          have LL:Hid (acc.length≤j + 1 + done.toNat):=Zh (by rw [HQ.out]; have:=QK.out; omega)
          have OO:Hid (Ow encPr 157 (wi.alloc (.cells #[.int .i64 xc,.int .i64 xv] 157)) w.heap.size (.slice Al q ca) acc):=Zh (by unfold Ow; rw [HQ.out]; exact O1p.out)
          clear he
          go_wp2_with fail
          go_roundw
          case rel => exact ⟨j + 1,done,rfl,by go_num,by omega,Zh ⟨_,OO.out,U1p.out,E1.out,LL.out⟩⟩
          case measure => simp [intOf]; omega
         ·have d3:(xc != k)=true:=by simpa using he
          have E1:Hid (acc ++ [(xc,xv)] ++ over k 1 ((coll s i).drop (j + 1)) done=over k 1 (coll s i) false):=Zh (by have:=over_out HX.out (.inr hcx) ST.out.eq; rwa [if_neg he] at this)
          have LL:Hid ((acc ++ [(xc,xv)]).length≤j + 1 + done.toNat):=Zh (by rw [List.length_append,HQ.out]; have:=QK.out; simp at this ⊢; omega)
          clear he
          go_wp2_with (at_builtin; refine stopped ?_)
          refine Zh ?_
          refine wpList_app _ (by rfl) (.tmp 81) (.tmp 83) _ (by rfl) elem_pair (.slice Al q ca) _ (by rfl) (by rfl) (own_upd0 O1p.out ((Upd.refl [] (wi.alloc (.cells #[.int .i64 xc,.int .i64 xv] 157))).alloc _)) (.of_blk (Blk.newAt _ _ (H:=wi.heap.size + 1) (by simp)) (m:=1) 1 rfl) (by intro u hu; simp at hu; rcases hu with rfl | rfl <;> rfl) (by simp only [maxLen]; omega) (by omega) (Nat.le_trans U1p.out.size (by simp)) ?_
          intro v5 w5 o5 u5 b5
          obtain ⟨A5,c5,rfl,_,_⟩:=own_slice o5
          have U5:Hid (Upd [] w w5):=Zh (U1p.out.trans' (((Upd.refl _ (wi.alloc (.cells #[.int .i64 xc,.int .i64 xv] 157))).alloc _).trans u5) (fun k hk => .inr (own_lt O1p.out (by simpa using hk)).1))
          have O5:Hid (w5.ownsRow w.heap.size 157 2 (.slice A5 (q + 1) c5) (q + 1) (flat encPr (acc ++ [(xc,xv)]))):=Zh (by
           rw [flat_append]
           exact o5)
          clear o5 u5 b5
          have OO:Hid (Ow encPr 157 w5 w.heap.size (.slice A5 (q + 1) c5) (acc ++ [(xc,xv)])):=Zh (by unfold Ow; rw [List.length_append,HQ.out]; exact O5.out)
          go_wp2_with fail
          go_roundw
          case rel => exact ⟨j + 1,done,rfl,by go_num,by omega,Zh ⟨_,OO.out,U5.out,E1.out,LL.out⟩⟩
          case measure => simp [intOf]; omega
       ·obtain rfl:j=n:=by omega
        have HD:Hid ((coll s i).drop j=[]):=Zh (List.drop_eq_nil_of_le (by rw [HN.out]; exact Nat.le_refl _))
        cases done with
        | true =>
          have EE:Hid (acc=over k 1 (coll s i) false):=Zh (by have:=ST.out.eq; rw [HD.out] at this; simpa [over] using this)
          have OO:Hid (Ow encPr 157 wi w.heap.size (.slice Al q ca) acc):=Zh (by unfold Ow; rw [HQ.out]; exact O1.out)
          have HM:Hid (mPut s i k v=setC s i (acc)):=Zh (by unfold mPut; rw [if_pos HE.out,HVV.out,← over_put (HGD.out.srt _ (coll_mem HII.out)),← EE.out])
          go_wp2_with fail
          refine (rm_set B rb F s i (.slice Al (q) ca) (acc) wi (H.out.upd0 U1.out) HII.out (own_base OO.out hBw) (HM.out ▸ good_put HGD.out HII.out k v HKB.out) (Nat.le_trans hBw U1.out.size)).mono ?_
          rintro e w6 ⟨F',rfl,R6,U6,S6⟩
          have R:=Zh (And.intro R6 (frm_set (B:=B) U1.out OO.out U6 S6))
          clear R6 U6 S6
          go_wp2_with fail
          go_ret
          unfold RPutPost
          rw [HC.out,Int.toNat_natCast]
          refine ⟨F',by rw [HE.out]; rfl,?_,R.out.2⟩
          have:=R.out.1
          rw [← HM.out] at this
          exact this
        | false =>
          have EE:Hid (acc ++ [(k,1)]=over k 1 (coll s i) false):=Zh (by have:=ST.out.eq; rw [HD.out] at this; simpa [over] using this)
          go_wp2_with (at_builtin; refine stopped ?_)
          refine Zh ?_
          refine wpList_app _ (by rfl) (.tmp 87) (.tmp 91) _ (by rfl) elem_pair (.slice Al q ca) _ (by rfl) (by rfl) (own_upd0 O1.out ((Upd.refl [] wi).alloc _)) (.of_blk (Blk.new _ _ _) (m:=1) 1 rfl) (by intro u hu; simp at hu; rcases hu with rfl | rfl <;> rfl) (by simp only [maxLen]; omega) (by omega) (Nat.le_trans U1.out.size (by simp)) ?_
          intro v5 w5 o5 u5 b5
          obtain ⟨A5,c5,rfl,_,_⟩:=own_slice o5
          have U5:Hid (Upd [] w w5):=Zh (U1.out.trans' (((Upd.refl _ wi).alloc _).trans u5) (fun k hk => .inr (own_lt O1.out (by simpa using hk)).1))
          have O5:Hid (w5.ownsRow w.heap.size 157 2 (.slice A5 (q + 1) c5) (q + 1) (flat encPr (acc ++ [(k,1)]))):=Zh (by
           rw [flat_append]
           exact o5)
          clear o5 u5 b5
          have OO:Hid (Ow encPr 157 w5 w.heap.size (.slice A5 (q + 1) c5) (acc ++ [(k,1)])):=Zh (by unfold Ow; rw [List.length_append,HQ.out]; exact O5.out)
          clear c1 e0
          have HM:Hid (mPut s i k v=setC s i (acc ++ [(k,1)])):=Zh (by unfold mPut; rw [if_pos HE.out,HVV.out,← over_put (HGD.out.srt _ (coll_mem HII.out)),← EE.out])
          go_wp2_with fail
          refine (rm_set B rb F s i (.slice A5 (q + 1) c5) (acc ++ [(k,1)]) w5 (H.out.upd0 U5.out) HII.out (own_base OO.out hBw) (HM.out ▸ good_put HGD.out HII.out k v HKB.out) (Nat.le_trans hBw U5.out.size)).mono ?_
          rintro e w6 ⟨F',rfl,R6,U6,S6⟩
          have R:=Zh (And.intro R6 (frm_set (B:=B) U5.out OO.out U6 S6))
          clear R6 U6 S6
          go_wp2_with fail
          go_ret
          unfold RPutPost
          rw [HC.out,Int.toNat_natCast]
          refine ⟨F',by rw [HE.out]; rfl,?_,R.out.2⟩
          have:=R.out.1
          rw [← HM.out] at this
          exact this
    | none =>
      have HE8:=HGN.out hg
      obtain ⟨pv,hpv⟩:∃ p,posW (coll s i) k=p:=⟨_,rfl⟩
      have q0:pv < 0:=by rw [← hpv,posW_none hg]; omega
      rw [hpv]
      clear hg hpv
      by_cases h5:100≤n
      ·have d5:decide ((100:Int)≤(n:Int))=true:=by simp; omega
       have HE:Hid (putE (coll s i) k=8):=Zh (by rw [HE8.out,if_pos h5])
       clear h5
       go_wp2_with fail
       go_ret
       unfold RPutPost mPut
       rw [HC.out,Int.toNat_natCast,HE.out]
       exact ⟨_,rfl,H.out,.refl _ _⟩
      ·have d5:decide ((100:Int)≤(n:Int))=false:=by simp; omega
       have HE:Hid (putE (coll s i) k=0):=Zh (by rw [HE8.out,if_neg h5])
       clear h5
       go_wp2_with fail
       go_loopw [9,10,11,12] (fun vl vp vi vx wr => ∃ (j:Nat) (done:Bool),vp=.bool done∧vi=.int .i64 j∧j≤n∧Hid (∃ acc,PutI (coll s i) k 1 w vl acc done j wr)) (fun _ _ v _ _ => n - (intOf v).toNat)
       case atStart => exact ⟨0,false,rfl,rfl,by omega,Zh ⟨[],Ow.nil _ _ _ _,.refl _ _,rfl,by simp⟩⟩
       case round =>
        obtain ⟨j,done,rfl,rfl,hj,acc,hs0⟩:=hrel
        rename World => wi
        have ST:=Zh hs0
        obtain ⟨Al,ca,rfl,_,_⟩:=own_slice hs0.own
        obtain ⟨q,hq⟩:∃ q,acc.length=q:=⟨_,rfl⟩
        have HQ:=Zh hq
        have QK:Hid (q≤j + done.toNat):=Zh (hq ▸ hs0.len)
        have hqk:q≤j + 1:=by have:=QK.out; have:=Bool.toNat_le done; omega
        rw [hq] at ST ⊢
        have O1:Hid (wi.ownsRow w.heap.size 157 2 (.slice Al q ca) q (flat encPr acc)):=Zh (by have:=ST.out.own; unfold Ow at this; rw [hq] at this; exact this)
        have U1:=Zh hs0.upd
        clear c1 e0 k0 k1
        obtain ⟨c1,e0⟩:=HOW.out wi U1.out
        clear hs0 hq
        by_cases hjn:j < n
        ·obtain ⟨⟨xc,xv⟩,hx⟩:∃ x,(coll s i)[j]?=some x:=⟨_,List.getElem?_eq_getElem (by rw [HN.out]; omega)⟩
         obtain ⟨gw,cgw,curw,e1,_⟩:=own_form ON.out (by omega)
         injection e1 with e1 _ e1'
         subst e1 e1'
         have HEW:Hid (∀ W,Upd [] w W→W.cell? ⟨gw,j * 2,none⟩=some (.int .i64 xc)∧W.cell? ⟨gw,j * 2 + 1,none⟩=some (.int .i64 xv)):=Zh (fun W hW => ⟨(OI.out.upd0 hW).at_ hx 0 _ rfl,(OI.out.upd0 hW).at_ hx 1 _ rfl⟩)
         have HX:=Zh hx
         have q3:(0:Int)≤(j:Int):=by omega
         have q4:(j:Int) < (n:Int):=by omega
         clear hx
         obtain ⟨f0,f1⟩:=HEW.out wi U1.out
         have O1p:Hid ((wi.alloc (.cells #[.int .i64 xc,.int .i64 xv] 157)).ownsRow w.heap.size 157 2 (.slice Al q ca) q (flat encPr acc)):=Zh (own_upd0 O1.out ((Upd.refl [] wi).alloc _))
         have U1p:Hid (Upd [] w (wi.alloc (.cells #[.int .i64 xc,.int .i64 xv] 157))):=Zh (U1.out.alloc _)
         by_cases hcx:k≤xc
         ·have d1:decide (k≤xc)=true:=by simpa using hcx
          cases done with
          | true =>
            by_cases he:xc=k
            ·have d3:(xc != k)=false:=by simpa using he
             have E1:Hid (acc ++ over k 1 ((coll s i).drop (j + 1)) true=over k 1 (coll s i) false):=Zh (by have:=over_out HX.out (.inl rfl) ST.out.eq; rwa [if_pos he] at this)
             have LL:Hid (acc.length≤j + 1 + true.toNat):=Zh (by rw [HQ.out]; have:=QK.out; omega)
             have OO:Hid (Ow encPr 157 (wi.alloc (.cells #[.int .i64 xc,.int .i64 xv] 157)) w.heap.size (.slice Al q ca) acc):=Zh (by unfold Ow; rw [HQ.out]; exact O1p.out)
             clear he
             go_wp2_with fail
             go_roundw
             case rel => exact ⟨j + 1,true,rfl,by go_num,by omega,Zh ⟨_,OO.out,U1p.out,E1.out,LL.out⟩⟩
             case measure => simp [intOf]; omega
            ·have d3:(xc != k)=true:=by simpa using he
             have E1:Hid (acc ++ [(xc,xv)] ++ over k 1 ((coll s i).drop (j + 1)) true=over k 1 (coll s i) false):=Zh (by have:=over_out HX.out (.inl rfl) ST.out.eq; rwa [if_neg he] at this)
             have LL:Hid ((acc ++ [(xc,xv)]).length≤j + 1 + true.toNat):=Zh (by rw [List.length_append,HQ.out]; have:=QK.out; simp at this ⊢; omega)
             clear he
             go_wp2_with (at_builtin; refine stopped ?_)
             refine Zh ?_
             refine wpList_app _ (by rfl) (.tmp 81) (.tmp 83) _ (by rfl) elem_pair (.slice Al q ca) _ (by rfl) (by rfl) (own_upd0 O1p.out ((Upd.refl [] (wi.alloc (.cells #[.int .i64 xc,.int .i64 xv] 157))).alloc _)) (.of_blk (Blk.newAt _ _ (H:=wi.heap.size + 1) (by simp)) (m:=1) 1 rfl) (by intro u hu; simp at hu; rcases hu with rfl | rfl <;> rfl) (by simp only [maxLen]; omega) (by omega) (Nat.le_trans U1p.out.size (by simp)) ?_
             intro v5 w5 o5 u5 b5
             obtain ⟨A5,c5,rfl,_,_⟩:=own_slice o5
             have U5:Hid (Upd [] w w5):=Zh (U1p.out.trans' (((Upd.refl _ (wi.alloc (.cells #[.int .i64 xc,.int .i64 xv] 157))).alloc _).trans u5) (fun k hk => .inr (own_lt O1p.out (by simpa using hk)).1))
             have O5:Hid (w5.ownsRow w.heap.size 157 2 (.slice A5 (q + 1) c5) (q + 1) (flat encPr (acc ++ [(xc,xv)]))):=Zh (by
              rw [flat_append]
              exact o5)
             clear o5 u5 b5
             have OO:Hid (Ow encPr 157 w5 w.heap.size (.slice A5 (q + 1) c5) (acc ++ [(xc,xv)])):=Zh (by unfold Ow; rw [List.length_append,HQ.out]; exact O5.out)
             go_wp2_with fail
             go_roundw
             case rel => exact ⟨j + 1,true,rfl,by go_num,by omega,Zh ⟨_,OO.out,U5.out,E1.out,LL.out⟩⟩
             case measure => simp [intOf]; omega
          | false =>
            go_wp2_with (at_builtin; refine stopped ?_)
            refine Zh ?_
            refine wpList_app _ (by rfl) (.tmp 71) (.tmp 75) _ (by rfl) elem_pair (.slice Al q ca) _ (by rfl) (by rfl) (own_upd0 O1p.out ((Upd.refl [] (wi.alloc (.cells #[.int .i64 xc,.int .i64 xv] 157))).alloc _)) (.of_blk (Blk.newAt _ _ (H:=wi.heap.size + 1) (by simp)) (m:=1) 1 rfl) (by intro u hu; simp at hu; rcases hu with rfl | rfl <;> rfl) (by simp only [maxLen]; omega) (by omega) (Nat.le_trans U1p.out.size (by simp)) ?_
            intro v5 w4 o5 u5 b5
            obtain ⟨A4,c4,rfl,_,_⟩:=own_slice o5
            have U4:Hid (Upd [] w w4):=Zh (U1p.out.trans' (((Upd.refl _ (wi.alloc (.cells #[.int .i64 xc,.int .i64 xv] 157))).alloc _).trans u5) (fun k hk => .inr (own_lt O1p.out (by simpa using hk)).1))
            have O4:Hid (w4.ownsRow w.heap.size 157 2 (.slice A4 (q + 1) c4) (q + 1) (flat encPr (acc ++ [(k,1)]))):=Zh (by
             rw [flat_append]
             exact o5)
            have HP4:Hid (Blk w4 wi.heap.size 157 #[.int .i64 xc,.int .i64 xv]):=Zh (((Blk.new wi _ _).alloc _).upd u5 (by intro hb; have:=(own_lt O1.out (by simpa using hb)).2; omega))
            obtain ⟨p0,p1⟩:w4.cell? ⟨wi.heap.size,0,none⟩=some (.int .i64 xc)∧w4.cell? ⟨wi.heap.size,1,none⟩=some (.int .i64 xv):=⟨HP4.out.cell 0,HP4.out.cell 1⟩
            clear o5 u5 b5
            clear f0 f1 c1 e0
            by_cases he:xc=k
            ·have d3:(xc != k)=false:=by simpa using he
             have E1:Hid (acc ++ [(k,1)] ++ over k 1 ((coll s i).drop (j + 1)) true=over k 1 (coll s i) false):=Zh (by have:=over_in HX.out hcx ST.out.eq; rwa [if_pos he] at this)
             have LL:Hid ((acc ++ [(k,(1:Int))]).length≤j + 1 + true.toNat):=Zh (by rw [List.length_append,HQ.out]; have:=QK.out; simp at this ⊢; omega)
             have OO:Hid (Ow encPr 157 w4 w.heap.size (.slice A4 (q + 1) c4) (acc ++ [(k,1)])):=Zh (by unfold Ow; rw [List.length_append,HQ.out]; exact O4.out)
             clear he
             go_wp2_with fail
             go_roundw
             case rel => exact ⟨j + 1,true,rfl,by go_num,by omega,Zh ⟨_,OO.out,U4.out,E1.out,LL.out⟩⟩
             case measure => simp [intOf]; omega
            ·have d3:(xc != k)=true:=by simpa using he
             have E1:Hid (acc ++ [(k,1)] ++ [(xc,xv)] ++ over k 1 ((coll s i).drop (j + 1)) true=over k 1 (coll s i) false):=Zh (by have:=over_in HX.out hcx ST.out.eq; rwa [if_neg he] at this)
             clear he
             go_wp2_with (at_builtin; refine stopped ?_)
             refine Zh ?_
             refine wpList_app _ (by rfl) (.tmp 81) (.tmp 83) _ (by rfl) elem_pair (.slice A4 (q + 1) c4) _ (by rfl) (by rfl) (own_upd0 O4.out ((Upd.refl [] w4).alloc _)) (.of_blk (Blk.new _ _ _) (m:=1) 1 rfl) (by intro u hu; simp at hu; rcases hu with rfl | rfl <;> rfl) (by simp only [maxLen]; omega) (by omega) (Nat.le_trans U4.out.size (by simp)) ?_
             intro v5 w5 o5 u5 b5
             obtain ⟨A5,c5,rfl,_,_⟩:=own_slice o5
             have U5:Hid (Upd [] w w5):=Zh (U4.out.trans' (((Upd.refl _ w4).alloc _).trans u5) (fun k hk => .inr (own_lt O4.out (by simpa using hk)).1))
             have O5:Hid (w5.ownsRow w.heap.size 157 2 (.slice A5 ((q + 1) + 1) c5) ((q + 1) + 1) (flat encPr ((acc ++ [(k,1)]) ++ [(xc,xv)]))):=Zh (by
              rw [flat_append]
              exact o5)
             clear o5 u5 b5
             have OO:Hid (Ow encPr 157 w5 w.heap.size (.slice A5 (q + 1 + 1) c5) (acc ++ [(k,1)] ++ [(xc,xv)])):=Zh (by unfold Ow; rw [List.length_append,List.length_append,HQ.out]; exact O5.out)
             have LL:Hid ((acc ++ [(k,(1:Int))] ++ [(xc,xv)]).length≤j + 1 + true.toNat):=Zh (by rw [List.length_append,List.length_append,HQ.out]; have:=QK.out; simp at this ⊢; omega)
             go_wp2_with fail
             go_roundw
             case rel => exact ⟨j + 1,true,rfl,by go_num,by omega,Zh ⟨_,OO.out,U5.out,E1.out,LL.out⟩⟩
             case measure => simp [intOf]; omega
         ·have d1:decide (k≤xc)=false:=by simpa using hcx
          by_cases he:xc=k
          ·have d3:(xc != k)=false:=by simpa using he
           have E1:Hid (acc ++ over k 1 ((coll s i).drop (j + 1)) done=over k 1 (coll s i) false):=Zh (by have:=over_out HX.out (.inr hcx) ST.out.eq; rwa [if_pos he] at this)
           have LL:Hid (acc.length≤j + 1 + done.toNat):=Zh (by rw [HQ.out]; have:=QK.out; omega)
           have OO:Hid (Ow encPr 157 (wi.alloc (.cells #[.int .i64 xc,.int .i64 xv] 157)) w.heap.size (.slice Al q ca) acc):=Zh (by unfold Ow; rw [HQ.out]; exact O1p.out)
           clear he
           go_wp2_with fail
           go_roundw
           case rel => exact ⟨j + 1,done,rfl,by go_num,by omega,Zh ⟨_,OO.out,U1p.out,E1.out,LL.out⟩⟩
           case measure => simp [intOf]; omega
          ·have d3:(xc != k)=true:=by simpa using he
           have E1:Hid (acc ++ [(xc,xv)] ++ over k 1 ((coll s i).drop (j + 1)) done=over k 1 (coll s i) false):=Zh (by have:=over_out HX.out (.inr hcx) ST.out.eq; rwa [if_neg he] at this)
           have LL:Hid ((acc ++ [(xc,xv)]).length≤j + 1 + done.toNat):=Zh (by rw [List.length_append,HQ.out]; have:=QK.out; simp at this ⊢; omega)
           clear he
           go_wp2_with (at_builtin; refine stopped ?_)
           refine Zh ?_
           refine wpList_app _ (by rfl) (.tmp 81) (.tmp 83) _ (by rfl) elem_pair (.slice Al q ca) _ (by rfl) (by rfl) (own_upd0 O1p.out ((Upd.refl [] (wi.alloc (.cells #[.int .i64 xc,.int .i64 xv] 157))).alloc _)) (.of_blk (Blk.newAt _ _ (H:=wi.heap.size + 1) (by simp)) (m:=1) 1 rfl) (by intro u hu; simp at hu; rcases hu with rfl | rfl <;> rfl) (by simp only [maxLen]; omega) (by omega) (Nat.le_trans U1p.out.size (by simp)) ?_
           intro v5 w5 o5 u5 b5
           obtain ⟨A5,c5,rfl,_,_⟩:=own_slice o5
           have U5:Hid (Upd [] w w5):=Zh (U1p.out.trans' (((Upd.refl _ (wi.alloc (.cells #[.int .i64 xc,.int .i64 xv] 157))).alloc _).trans u5) (fun k hk => .inr (own_lt O1p.out (by simpa using hk)).1))
           have O5:Hid (w5.ownsRow w.heap.size 157 2 (.slice A5 (q + 1) c5) (q + 1) (flat encPr (acc ++ [(xc,xv)]))):=Zh (by
            rw [flat_append]
            exact o5)
           clear o5 u5 b5
           have OO:Hid (Ow encPr 157 w5 w.heap.size (.slice A5 (q + 1) c5) (acc ++ [(xc,xv)])):=Zh (by unfold Ow; rw [List.length_append,HQ.out]; exact O5.out)
           go_wp2_with fail
           go_roundw
           case rel => exact ⟨j + 1,done,rfl,by go_num,by omega,Zh ⟨_,OO.out,U5.out,E1.out,LL.out⟩⟩
           case measure => simp [intOf]; omega
        ·obtain rfl:j=n:=by omega
         have HD:Hid ((coll s i).drop j=[]):=Zh (List.drop_eq_nil_of_le (by rw [HN.out]; exact Nat.le_refl _))
         cases done with
         | true =>
           have EE:Hid (acc=over k 1 (coll s i) false):=Zh (by have:=ST.out.eq; rw [HD.out] at this; simpa [over] using this)
           have OO:Hid (Ow encPr 157 wi w.heap.size (.slice Al q ca) acc):=Zh (by unfold Ow; rw [HQ.out]; exact O1.out)
           have HM:Hid (mPut s i k v=setC s i (acc)):=Zh (by unfold mPut; rw [if_pos HE.out,HVV.out,← over_put (HGD.out.srt _ (coll_mem HII.out)),← EE.out])
           go_wp2_with fail
           refine (rm_set B rb F s i (.slice Al (q) ca) (acc) wi (H.out.upd0 U1.out) HII.out (own_base OO.out hBw) (HM.out ▸ good_put HGD.out HII.out k v HKB.out) (Nat.le_trans hBw U1.out.size)).mono ?_
           rintro e w6 ⟨F',rfl,R6,U6,S6⟩
           have R:=Zh (And.intro R6 (frm_set (B:=B) U1.out OO.out U6 S6))
           clear R6 U6 S6
           go_wp2_with fail
           go_ret
           unfold RPutPost
           rw [HC.out,Int.toNat_natCast]
           refine ⟨F',by rw [HE.out]; rfl,?_,R.out.2⟩
           have:=R.out.1
           rw [← HM.out] at this
           exact this
         | false =>
           have EE:Hid (acc ++ [(k,1)]=over k 1 (coll s i) false):=Zh (by have:=ST.out.eq; rw [HD.out] at this; simpa [over] using this)
           go_wp2_with (at_builtin; refine stopped ?_)
           refine Zh ?_
           refine wpList_app _ (by rfl) (.tmp 87) (.tmp 91) _ (by rfl) elem_pair (.slice Al q ca) _ (by rfl) (by rfl) (own_upd0 O1.out ((Upd.refl [] wi).alloc _)) (.of_blk (Blk.new _ _ _) (m:=1) 1 rfl) (by intro u hu; simp at hu; rcases hu with rfl | rfl <;> rfl) (by simp only [maxLen]; omega) (by omega) (Nat.le_trans U1.out.size (by simp)) ?_
           intro v5 w5 o5 u5 b5
           obtain ⟨A5,c5,rfl,_,_⟩:=own_slice o5
           have U5:Hid (Upd [] w w5):=Zh (U1.out.trans' (((Upd.refl _ wi).alloc _).trans u5) (fun k hk => .inr (own_lt O1.out (by simpa using hk)).1))
           have O5:Hid (w5.ownsRow w.heap.size 157 2 (.slice A5 (q + 1) c5) (q + 1) (flat encPr (acc ++ [(k,1)]))):=Zh (by
            rw [flat_append]
            exact o5)
           clear o5 u5 b5
           have OO:Hid (Ow encPr 157 w5 w.heap.size (.slice A5 (q + 1) c5) (acc ++ [(k,1)])):=Zh (by unfold Ow; rw [List.length_append,HQ.out]; exact O5.out)
           clear c1 e0
           have HM:Hid (mPut s i k v=setC s i (acc ++ [(k,1)])):=Zh (by unfold mPut; rw [if_pos HE.out,HVV.out,← over_put (HGD.out.srt _ (coll_mem HII.out)),← EE.out])
           go_wp2_with fail
           refine (rm_set B rb F s i (.slice A5 (q + 1) c5) (acc ++ [(k,1)]) w5 (H.out.upd0 U5.out) HII.out (own_base OO.out hBw) (HM.out ▸ good_put HGD.out HII.out k v HKB.out) (Nat.le_trans hBw U5.out.size)).mono ?_
           rintro e w6 ⟨F',rfl,R6,U6,S6⟩
           have R:=Zh (And.intro R6 (frm_set (B:=B) U5.out OO.out U6 S6))
           clear R6 U6 S6
           go_wp2_with fail
           go_ret
           unfold RPutPost
           rw [HC.out,Int.toNat_natCast]
           refine ⟨F',by rw [HE.out]; rfl,?_,R.out.2⟩
           have:=R.out.1
           rw [← HM.out] at this
           exact this
   ·have d2:(y == 2)=false:=by simpa using hy2
    have HVV:Hid (putV s i v=v):=Zh (by rw [HY.out,if_neg hy2])
    clear hy2
    cases hg:get (coll s i) k with
    | some ov =>
      have HE:=HGS.out ov hg
      obtain ⟨pk,hp1,hp2⟩:=posW_some hg
      rw [hp1]
      have q0:(0:Int)≤(pk:Int):=by omega
      clear hg hp1 hp2
      go_wp2_with fail
      go_loopw [9,10,11,12] (fun vl vp vi vx wr => ∃ (j:Nat) (done:Bool),vp=.bool done∧vi=.int .i64 j∧j≤n∧Hid (∃ acc,PutI (coll s i) k v w vl acc done j wr)) (fun _ _ v _ _ => n - (intOf v).toNat)
      case atStart => exact ⟨0,false,rfl,rfl,by omega,Zh ⟨[],Ow.nil _ _ _ _,.refl _ _,rfl,by simp⟩⟩
      case round =>
       obtain ⟨j,done,rfl,rfl,hj,acc,hs0⟩:=hrel
       rename World => wi
       have ST:=Zh hs0
       obtain ⟨Al,ca,rfl,_,_⟩:=own_slice hs0.own
       obtain ⟨q,hq⟩:∃ q,acc.length=q:=⟨_,rfl⟩
       have HQ:=Zh hq
       have QK:Hid (q≤j + done.toNat):=Zh (hq ▸ hs0.len)
       have hqk:q≤j + 1:=by have:=QK.out; have:=Bool.toNat_le done; omega
       rw [hq] at ST ⊢
       have O1:Hid (wi.ownsRow w.heap.size 157 2 (.slice Al q ca) q (flat encPr acc)):=Zh (by have:=ST.out.own; unfold Ow at this; rw [hq] at this; exact this)
       have U1:=Zh hs0.upd
       clear c1 e0 k0 k1
       obtain ⟨c1,e0⟩:=HOW.out wi U1.out
       clear hs0 hq
       by_cases hjn:j < n
       ·obtain ⟨⟨xc,xv⟩,hx⟩:∃ x,(coll s i)[j]?=some x:=⟨_,List.getElem?_eq_getElem (by rw [HN.out]; omega)⟩
        obtain ⟨gw,cgw,curw,e1,_⟩:=own_form ON.out (by omega)
        injection e1 with e1 _ e1'
        subst e1 e1'
        have HEW:Hid (∀ W,Upd [] w W→W.cell? ⟨gw,j * 2,none⟩=some (.int .i64 xc)∧W.cell? ⟨gw,j * 2 + 1,none⟩=some (.int .i64 xv)):=Zh (fun W hW => ⟨(OI.out.upd0 hW).at_ hx 0 _ rfl,(OI.out.upd0 hW).at_ hx 1 _ rfl⟩)
        have HX:=Zh hx
        have q3:(0:Int)≤(j:Int):=by omega
        have q4:(j:Int) < (n:Int):=by omega
        clear hx
        obtain ⟨f0,f1⟩:=HEW.out wi U1.out
        have O1p:Hid ((wi.alloc (.cells #[.int .i64 xc,.int .i64 xv] 157)).ownsRow w.heap.size 157 2 (.slice Al q ca) q (flat encPr acc)):=Zh (own_upd0 O1.out ((Upd.refl [] wi).alloc _))
        have U1p:Hid (Upd [] w (wi.alloc (.cells #[.int .i64 xc,.int .i64 xv] 157))):=Zh (U1.out.alloc _)
        by_cases hcx:k≤xc
        ·have d1:decide (k≤xc)=true:=by simpa using hcx
         cases done with
         | true =>
           by_cases he:xc=k
           ·have d3:(xc != k)=false:=by simpa using he
            have E1:Hid (acc ++ over k v ((coll s i).drop (j + 1)) true=over k v (coll s i) false):=Zh (by have:=over_out HX.out (.inl rfl) ST.out.eq; rwa [if_pos he] at this)
            have LL:Hid (acc.length≤j + 1 + true.toNat):=Zh (by rw [HQ.out]; have:=QK.out; omega)
            have OO:Hid (Ow encPr 157 (wi.alloc (.cells #[.int .i64 xc,.int .i64 xv] 157)) w.heap.size (.slice Al q ca) acc):=Zh (by unfold Ow; rw [HQ.out]; exact O1p.out)
            clear he
            go_wp2_with fail
            go_roundw
            case rel => exact ⟨j + 1,true,rfl,by go_num,by omega,Zh ⟨_,OO.out,U1p.out,E1.out,LL.out⟩⟩
            case measure => simp [intOf]; omega
           ·have d3:(xc != k)=true:=by simpa using he
            have E1:Hid (acc ++ [(xc,xv)] ++ over k v ((coll s i).drop (j + 1)) true=over k v (coll s i) false):=Zh (by have:=over_out HX.out (.inl rfl) ST.out.eq; rwa [if_neg he] at this)
            have LL:Hid ((acc ++ [(xc,xv)]).length≤j + 1 + true.toNat):=Zh (by rw [List.length_append,HQ.out]; have:=QK.out; simp at this ⊢; omega)
            clear he
            go_wp2_with (at_builtin; refine stopped ?_)
            refine Zh ?_
            refine wpList_app _ (by rfl) (.tmp 81) (.tmp 83) _ (by rfl) elem_pair (.slice Al q ca) _ (by rfl) (by rfl) (own_upd0 O1p.out ((Upd.refl [] (wi.alloc (.cells #[.int .i64 xc,.int .i64 xv] 157))).alloc _)) (.of_blk (Blk.newAt _ _ (H:=wi.heap.size + 1) (by simp)) (m:=1) 1 rfl) (by intro u hu; simp at hu; rcases hu with rfl | rfl <;> rfl) (by simp only [maxLen]; omega) (by omega) (Nat.le_trans U1p.out.size (by simp)) ?_
            intro v5 w5 o5 u5 b5
            obtain ⟨A5,c5,rfl,_,_⟩:=own_slice o5
            have U5:Hid (Upd [] w w5):=Zh (U1p.out.trans' (((Upd.refl _ (wi.alloc (.cells #[.int .i64 xc,.int .i64 xv] 157))).alloc _).trans u5) (fun k hk => .inr (own_lt O1p.out (by simpa using hk)).1))
            have O5:Hid (w5.ownsRow w.heap.size 157 2 (.slice A5 (q + 1) c5) (q + 1) (flat encPr (acc ++ [(xc,xv)]))):=Zh (by
             rw [flat_append]
             exact o5)
            clear o5 u5 b5
            have OO:Hid (Ow encPr 157 w5 w.heap.size (.slice A5 (q + 1) c5) (acc ++ [(xc,xv)])):=Zh (by unfold Ow; rw [List.length_append,HQ.out]; exact O5.out)
            go_wp2_with fail
            go_roundw
            case rel => exact ⟨j + 1,true,rfl,by go_num,by omega,Zh ⟨_,OO.out,U5.out,E1.out,LL.out⟩⟩
            case measure => simp [intOf]; omega
         | false =>
           go_wp2_with (at_builtin; refine stopped ?_)
           refine Zh ?_
           refine wpList_app _ (by rfl) (.tmp 71) (.tmp 75) _ (by rfl) elem_pair (.slice Al q ca) _ (by rfl) (by rfl) (own_upd0 O1p.out ((Upd.refl [] (wi.alloc (.cells #[.int .i64 xc,.int .i64 xv] 157))).alloc _)) (.of_blk (Blk.newAt _ _ (H:=wi.heap.size + 1) (by simp)) (m:=1) 1 rfl) (by intro u hu; simp at hu; rcases hu with rfl | rfl <;> rfl) (by simp only [maxLen]; omega) (by omega) (Nat.le_trans U1p.out.size (by simp)) ?_
           intro v5 w4 o5 u5 b5
           obtain ⟨A4,c4,rfl,_,_⟩:=own_slice o5
           have U4:Hid (Upd [] w w4):=Zh (U1p.out.trans' (((Upd.refl _ (wi.alloc (.cells #[.int .i64 xc,.int .i64 xv] 157))).alloc _).trans u5) (fun k hk => .inr (own_lt O1p.out (by simpa using hk)).1))
           have O4:Hid (w4.ownsRow w.heap.size 157 2 (.slice A4 (q + 1) c4) (q + 1) (flat encPr (acc ++ [(k,v)]))):=Zh (by
            rw [flat_append]
            exact o5)
           have HP4:Hid (Blk w4 wi.heap.size 157 #[.int .i64 xc,.int .i64 xv]):=Zh (((Blk.new wi _ _).alloc _).upd u5 (by intro hb; have:=(own_lt O1.out (by simpa using hb)).2; omega))
           obtain ⟨p0,p1⟩:w4.cell? ⟨wi.heap.size,0,none⟩=some (.int .i64 xc)∧w4.cell? ⟨wi.heap.size,1,none⟩=some (.int .i64 xv):=⟨HP4.out.cell 0,HP4.out.cell 1⟩
           clear o5 u5 b5
           clear f0 f1 c1 e0
           by_cases he:xc=k
           ·have d3:(xc != k)=false:=by simpa using he
            have E1:Hid (acc ++ [(k,v)] ++ over k v ((coll s i).drop (j + 1)) true=over k v (coll s i) false):=Zh (by have:=over_in HX.out hcx ST.out.eq; rwa [if_pos he] at this)
            have LL:Hid ((acc ++ [(k,(v:Int))]).length≤j + 1 + true.toNat):=Zh (by rw [List.length_append,HQ.out]; have:=QK.out; simp at this ⊢; omega)
            have OO:Hid (Ow encPr 157 w4 w.heap.size (.slice A4 (q + 1) c4) (acc ++ [(k,v)])):=Zh (by unfold Ow; rw [List.length_append,HQ.out]; exact O4.out)
            clear he
            go_wp2_with fail
            go_roundw
            case rel => exact ⟨j + 1,true,rfl,by go_num,by omega,Zh ⟨_,OO.out,U4.out,E1.out,LL.out⟩⟩
            case measure => simp [intOf]; omega
           ·have d3:(xc != k)=true:=by simpa using he
            have E1:Hid (acc ++ [(k,v)] ++ [(xc,xv)] ++ over k v ((coll s i).drop (j + 1)) true=over k v (coll s i) false):=Zh (by have:=over_in HX.out hcx ST.out.eq; rwa [if_neg he] at this)
            clear he
            go_wp2_with (at_builtin; refine stopped ?_)
            refine Zh ?_
            refine wpList_app _ (by rfl) (.tmp 81) (.tmp 83) _ (by rfl) elem_pair (.slice A4 (q + 1) c4) _ (by rfl) (by rfl) (own_upd0 O4.out ((Upd.refl [] w4).alloc _)) (.of_blk (Blk.new _ _ _) (m:=1) 1 rfl) (by intro u hu; simp at hu; rcases hu with rfl | rfl <;> rfl) (by simp only [maxLen]; omega) (by omega) (Nat.le_trans U4.out.size (by simp)) ?_
            intro v5 w5 o5 u5 b5
            obtain ⟨A5,c5,rfl,_,_⟩:=own_slice o5
            have U5:Hid (Upd [] w w5):=Zh (U4.out.trans' (((Upd.refl _ w4).alloc _).trans u5) (fun k hk => .inr (own_lt O4.out (by simpa using hk)).1))
            have O5:Hid (w5.ownsRow w.heap.size 157 2 (.slice A5 ((q + 1) + 1) c5) ((q + 1) + 1) (flat encPr ((acc ++ [(k,v)]) ++ [(xc,xv)]))):=Zh (by
             rw [flat_append]
             exact o5)
            clear o5 u5 b5
            have OO:Hid (Ow encPr 157 w5 w.heap.size (.slice A5 (q + 1 + 1) c5) (acc ++ [(k,v)] ++ [(xc,xv)])):=Zh (by unfold Ow; rw [List.length_append,List.length_append,HQ.out]; exact O5.out)
            have LL:Hid ((acc ++ [(k,(v:Int))] ++ [(xc,xv)]).length≤j + 1 + true.toNat):=Zh (by rw [List.length_append,List.length_append,HQ.out]; have:=QK.out; simp at this ⊢; omega)
            go_wp2_with fail
            go_roundw
            case rel => exact ⟨j + 1,true,rfl,by go_num,by omega,Zh ⟨_,OO.out,U5.out,E1.out,LL.out⟩⟩
            case measure => simp [intOf]; omega
        ·have d1:decide (k≤xc)=false:=by simpa using hcx
         by_cases he:xc=k
         ·have d3:(xc != k)=false:=by simpa using he
          have E1:Hid (acc ++ over k v ((coll s i).drop (j + 1)) done=over k v (coll s i) false):=Zh (by have:=over_out HX.out (.inr hcx) ST.out.eq; rwa [if_pos he] at this)
          have LL:Hid (acc.length≤j + 1 + done.toNat):=Zh (by rw [HQ.out]; have:=QK.out; omega)
          have OO:Hid (Ow encPr 157 (wi.alloc (.cells #[.int .i64 xc,.int .i64 xv] 157)) w.heap.size (.slice Al q ca) acc):=Zh (by unfold Ow; rw [HQ.out]; exact O1p.out)
          clear he
          go_wp2_with fail
          go_roundw
          case rel => exact ⟨j + 1,done,rfl,by go_num,by omega,Zh ⟨_,OO.out,U1p.out,E1.out,LL.out⟩⟩
          case measure => simp [intOf]; omega
         ·have d3:(xc != k)=true:=by simpa using he
          have E1:Hid (acc ++ [(xc,xv)] ++ over k v ((coll s i).drop (j + 1)) done=over k v (coll s i) false):=Zh (by have:=over_out HX.out (.inr hcx) ST.out.eq; rwa [if_neg he] at this)
          have LL:Hid ((acc ++ [(xc,xv)]).length≤j + 1 + done.toNat):=Zh (by rw [List.length_append,HQ.out]; have:=QK.out; simp at this ⊢; omega)
          clear he
          go_wp2_with (at_builtin; refine stopped ?_)
          refine Zh ?_
          refine wpList_app _ (by rfl) (.tmp 81) (.tmp 83) _ (by rfl) elem_pair (.slice Al q ca) _ (by rfl) (by rfl) (own_upd0 O1p.out ((Upd.refl [] (wi.alloc (.cells #[.int .i64 xc,.int .i64 xv] 157))).alloc _)) (.of_blk (Blk.newAt _ _ (H:=wi.heap.size + 1) (by simp)) (m:=1) 1 rfl) (by intro u hu; simp at hu; rcases hu with rfl | rfl <;> rfl) (by simp only [maxLen]; omega) (by omega) (Nat.le_trans U1p.out.size (by simp)) ?_
          intro v5 w5 o5 u5 b5
          obtain ⟨A5,c5,rfl,_,_⟩:=own_slice o5
          have U5:Hid (Upd [] w w5):=Zh (U1p.out.trans' (((Upd.refl _ (wi.alloc (.cells #[.int .i64 xc,.int .i64 xv] 157))).alloc _).trans u5) (fun k hk => .inr (own_lt O1p.out (by simpa using hk)).1))
          have O5:Hid (w5.ownsRow w.heap.size 157 2 (.slice A5 (q + 1) c5) (q + 1) (flat encPr (acc ++ [(xc,xv)]))):=Zh (by
           rw [flat_append]
           exact o5)
          clear o5 u5 b5
          have OO:Hid (Ow encPr 157 w5 w.heap.size (.slice A5 (q + 1) c5) (acc ++ [(xc,xv)])):=Zh (by unfold Ow; rw [List.length_append,HQ.out]; exact O5.out)
          go_wp2_with fail
          go_roundw
          case rel => exact ⟨j + 1,done,rfl,by go_num,by omega,Zh ⟨_,OO.out,U5.out,E1.out,LL.out⟩⟩
          case measure => simp [intOf]; omega
       ·obtain rfl:j=n:=by omega
        have HD:Hid ((coll s i).drop j=[]):=Zh (List.drop_eq_nil_of_le (by rw [HN.out]; exact Nat.le_refl _))
        cases done with
        | true =>
          have EE:Hid (acc=over k v (coll s i) false):=Zh (by have:=ST.out.eq; rw [HD.out] at this; simpa [over] using this)
          have OO:Hid (Ow encPr 157 wi w.heap.size (.slice Al q ca) acc):=Zh (by unfold Ow; rw [HQ.out]; exact O1.out)
          have HM:Hid (mPut s i k v=setC s i (acc)):=Zh (by unfold mPut; rw [if_pos HE.out,HVV.out,← over_put (HGD.out.srt _ (coll_mem HII.out)),← EE.out])
          go_wp2_with fail
          refine (rm_set B rb F s i (.slice Al (q) ca) (acc) wi (H.out.upd0 U1.out) HII.out (own_base OO.out hBw) (HM.out ▸ good_put HGD.out HII.out k v HKB.out) (Nat.le_trans hBw U1.out.size)).mono ?_
          rintro e w6 ⟨F',rfl,R6,U6,S6⟩
          have R:=Zh (And.intro R6 (frm_set (B:=B) U1.out OO.out U6 S6))
          clear R6 U6 S6
          go_wp2_with fail
          go_ret
          unfold RPutPost
          rw [HC.out,Int.toNat_natCast]
          refine ⟨F',by rw [HE.out]; rfl,?_,R.out.2⟩
          have:=R.out.1
          rw [← HM.out] at this
          exact this
        | false =>
          have EE:Hid (acc ++ [(k,v)]=over k v (coll s i) false):=Zh (by have:=ST.out.eq; rw [HD.out] at this; simpa [over] using this)
          go_wp2_with (at_builtin; refine stopped ?_)
          refine Zh ?_
          refine wpList_app _ (by rfl) (.tmp 87) (.tmp 91) _ (by rfl) elem_pair (.slice Al q ca) _ (by rfl) (by rfl) (own_upd0 O1.out ((Upd.refl [] wi).alloc _)) (.of_blk (Blk.new _ _ _) (m:=1) 1 rfl) (by intro u hu; simp at hu; rcases hu with rfl | rfl <;> rfl) (by simp only [maxLen]; omega) (by omega) (Nat.le_trans U1.out.size (by simp)) ?_
          intro v5 w5 o5 u5 b5
          obtain ⟨A5,c5,rfl,_,_⟩:=own_slice o5
          have U5:Hid (Upd [] w w5):=Zh (U1.out.trans' (((Upd.refl _ wi).alloc _).trans u5) (fun k hk => .inr (own_lt O1.out (by simpa using hk)).1))
          have O5:Hid (w5.ownsRow w.heap.size 157 2 (.slice A5 (q + 1) c5) (q + 1) (flat encPr (acc ++ [(k,v)]))):=Zh (by
           rw [flat_append]
           exact o5)
          clear o5 u5 b5
          have OO:Hid (Ow encPr 157 w5 w.heap.size (.slice A5 (q + 1) c5) (acc ++ [(k,v)])):=Zh (by unfold Ow; rw [List.length_append,HQ.out]; exact O5.out)
          clear c1 e0
          have HM:Hid (mPut s i k v=setC s i (acc ++ [(k,v)])):=Zh (by unfold mPut; rw [if_pos HE.out,HVV.out,← over_put (HGD.out.srt _ (coll_mem HII.out)),← EE.out])
          go_wp2_with fail
          refine (rm_set B rb F s i (.slice A5 (q + 1) c5) (acc ++ [(k,v)]) w5 (H.out.upd0 U5.out) HII.out (own_base OO.out hBw) (HM.out ▸ good_put HGD.out HII.out k v HKB.out) (Nat.le_trans hBw U5.out.size)).mono ?_
          rintro e w6 ⟨F',rfl,R6,U6,S6⟩
          have R:=Zh (And.intro R6 (frm_set (B:=B) U5.out OO.out U6 S6))
          clear R6 U6 S6
          go_wp2_with fail
          go_ret
          unfold RPutPost
          rw [HC.out,Int.toNat_natCast]
          refine ⟨F',by rw [HE.out]; rfl,?_,R.out.2⟩
          have:=R.out.1
          rw [← HM.out] at this
          exact this
    | none =>
      have HE8:=HGN.out hg
      obtain ⟨pv,hpv⟩:∃ p,posW (coll s i) k=p:=⟨_,rfl⟩
      have q0:pv < 0:=by rw [← hpv,posW_none hg]; omega
      rw [hpv]
      clear hg hpv
      by_cases h5:100≤n
      ·have d5:decide ((100:Int)≤(n:Int))=true:=by simp; omega
       have HE:Hid (putE (coll s i) k=8):=Zh (by rw [HE8.out,if_pos h5])
       clear h5
       go_wp2_with fail
       go_ret
       unfold RPutPost mPut
       rw [HC.out,Int.toNat_natCast,HE.out]
       exact ⟨_,rfl,H.out,.refl _ _⟩
      ·have d5:decide ((100:Int)≤(n:Int))=false:=by simp; omega
       have HE:Hid (putE (coll s i) k=0):=Zh (by rw [HE8.out,if_neg h5])
       clear h5
       go_wp2_with fail
       go_loopw [9,10,11,12] (fun vl vp vi vx wr => ∃ (j:Nat) (done:Bool),vp=.bool done∧vi=.int .i64 j∧j≤n∧Hid (∃ acc,PutI (coll s i) k v w vl acc done j wr)) (fun _ _ v _ _ => n - (intOf v).toNat)
       case atStart => exact ⟨0,false,rfl,rfl,by omega,Zh ⟨[],Ow.nil _ _ _ _,.refl _ _,rfl,by simp⟩⟩
       case round =>
        obtain ⟨j,done,rfl,rfl,hj,acc,hs0⟩:=hrel
        rename World => wi
        have ST:=Zh hs0
        obtain ⟨Al,ca,rfl,_,_⟩:=own_slice hs0.own
        obtain ⟨q,hq⟩:∃ q,acc.length=q:=⟨_,rfl⟩
        have HQ:=Zh hq
        have QK:Hid (q≤j + done.toNat):=Zh (hq ▸ hs0.len)
        have hqk:q≤j + 1:=by have:=QK.out; have:=Bool.toNat_le done; omega
        rw [hq] at ST ⊢
        have O1:Hid (wi.ownsRow w.heap.size 157 2 (.slice Al q ca) q (flat encPr acc)):=Zh (by have:=ST.out.own; unfold Ow at this; rw [hq] at this; exact this)
        have U1:=Zh hs0.upd
        clear c1 e0 k0 k1
        obtain ⟨c1,e0⟩:=HOW.out wi U1.out
        clear hs0 hq
        by_cases hjn:j < n
        ·obtain ⟨⟨xc,xv⟩,hx⟩:∃ x,(coll s i)[j]?=some x:=⟨_,List.getElem?_eq_getElem (by rw [HN.out]; omega)⟩
         obtain ⟨gw,cgw,curw,e1,_⟩:=own_form ON.out (by omega)
         injection e1 with e1 _ e1'
         subst e1 e1'
         have HEW:Hid (∀ W,Upd [] w W→W.cell? ⟨gw,j * 2,none⟩=some (.int .i64 xc)∧W.cell? ⟨gw,j * 2 + 1,none⟩=some (.int .i64 xv)):=Zh (fun W hW => ⟨(OI.out.upd0 hW).at_ hx 0 _ rfl,(OI.out.upd0 hW).at_ hx 1 _ rfl⟩)
         have HX:=Zh hx
         have q3:(0:Int)≤(j:Int):=by omega
         have q4:(j:Int) < (n:Int):=by omega
         clear hx
         obtain ⟨f0,f1⟩:=HEW.out wi U1.out
         have O1p:Hid ((wi.alloc (.cells #[.int .i64 xc,.int .i64 xv] 157)).ownsRow w.heap.size 157 2 (.slice Al q ca) q (flat encPr acc)):=Zh (own_upd0 O1.out ((Upd.refl [] wi).alloc _))
         have U1p:Hid (Upd [] w (wi.alloc (.cells #[.int .i64 xc,.int .i64 xv] 157))):=Zh (U1.out.alloc _)
         by_cases hcx:k≤xc
         ·have d1:decide (k≤xc)=true:=by simpa using hcx
          cases done with
          | true =>
            by_cases he:xc=k
            ·have d3:(xc != k)=false:=by simpa using he
             have E1:Hid (acc ++ over k v ((coll s i).drop (j + 1)) true=over k v (coll s i) false):=Zh (by have:=over_out HX.out (.inl rfl) ST.out.eq; rwa [if_pos he] at this)
             have LL:Hid (acc.length≤j + 1 + true.toNat):=Zh (by rw [HQ.out]; have:=QK.out; omega)
             have OO:Hid (Ow encPr 157 (wi.alloc (.cells #[.int .i64 xc,.int .i64 xv] 157)) w.heap.size (.slice Al q ca) acc):=Zh (by unfold Ow; rw [HQ.out]; exact O1p.out)
             clear he
             go_wp2_with fail
             go_roundw
             case rel => exact ⟨j + 1,true,rfl,by go_num,by omega,Zh ⟨_,OO.out,U1p.out,E1.out,LL.out⟩⟩
             case measure => simp [intOf]; omega
            ·have d3:(xc != k)=true:=by simpa using he
             have E1:Hid (acc ++ [(xc,xv)] ++ over k v ((coll s i).drop (j + 1)) true=over k v (coll s i) false):=Zh (by have:=over_out HX.out (.inl rfl) ST.out.eq; rwa [if_neg he] at this)
             have LL:Hid ((acc ++ [(xc,xv)]).length≤j + 1 + true.toNat):=Zh (by rw [List.length_append,HQ.out]; have:=QK.out; simp at this ⊢; omega)
             clear he
             go_wp2_with (at_builtin; refine stopped ?_)
             refine Zh ?_
             refine wpList_app _ (by rfl) (.tmp 81) (.tmp 83) _ (by rfl) elem_pair (.slice Al q ca) _ (by rfl) (by rfl) (own_upd0 O1p.out ((Upd.refl [] (wi.alloc (.cells #[.int .i64 xc,.int .i64 xv] 157))).alloc _)) (.of_blk (Blk.newAt _ _ (H:=wi.heap.size + 1) (by simp)) (m:=1) 1 rfl) (by intro u hu; simp at hu; rcases hu with rfl | rfl <;> rfl) (by simp only [maxLen]; omega) (by omega) (Nat.le_trans U1p.out.size (by simp)) ?_
             intro v5 w5 o5 u5 b5
             obtain ⟨A5,c5,rfl,_,_⟩:=own_slice o5
             have U5:Hid (Upd [] w w5):=Zh (U1p.out.trans' (((Upd.refl _ (wi.alloc (.cells #[.int .i64 xc,.int .i64 xv] 157))).alloc _).trans u5) (fun k hk => .inr (own_lt O1p.out (by simpa using hk)).1))
             have O5:Hid (w5.ownsRow w.heap.size 157 2 (.slice A5 (q + 1) c5) (q + 1) (flat encPr (acc ++ [(xc,xv)]))):=Zh (by
              rw [flat_append]
              exact o5)
             clear o5 u5 b5
             have OO:Hid (Ow encPr 157 w5 w.heap.size (.slice A5 (q + 1) c5) (acc ++ [(xc,xv)])):=Zh (by unfold Ow; rw [List.length_append,HQ.out]; exact O5.out)
             go_wp2_with fail
             go_roundw
             case rel => exact ⟨j + 1,true,rfl,by go_num,by omega,Zh ⟨_,OO.out,U5.out,E1.out,LL.out⟩⟩
             case measure => simp [intOf]; omega
          | false =>
            go_wp2_with (at_builtin; refine stopped ?_)
            refine Zh ?_
            refine wpList_app _ (by rfl) (.tmp 71) (.tmp 75) _ (by rfl) elem_pair (.slice Al q ca) _ (by rfl) (by rfl) (own_upd0 O1p.out ((Upd.refl [] (wi.alloc (.cells #[.int .i64 xc,.int .i64 xv] 157))).alloc _)) (.of_blk (Blk.newAt _ _ (H:=wi.heap.size + 1) (by simp)) (m:=1) 1 rfl) (by intro u hu; simp at hu; rcases hu with rfl | rfl <;> rfl) (by simp only [maxLen]; omega) (by omega) (Nat.le_trans U1p.out.size (by simp)) ?_
            intro v5 w4 o5 u5 b5
            obtain ⟨A4,c4,rfl,_,_⟩:=own_slice o5
            have U4:Hid (Upd [] w w4):=Zh (U1p.out.trans' (((Upd.refl _ (wi.alloc (.cells #[.int .i64 xc,.int .i64 xv] 157))).alloc _).trans u5) (fun k hk => .inr (own_lt O1p.out (by simpa using hk)).1))
            have O4:Hid (w4.ownsRow w.heap.size 157 2 (.slice A4 (q + 1) c4) (q + 1) (flat encPr (acc ++ [(k,v)]))):=Zh (by
             rw [flat_append]
             exact o5)
            have HP4:Hid (Blk w4 wi.heap.size 157 #[.int .i64 xc,.int .i64 xv]):=Zh (((Blk.new wi _ _).alloc _).upd u5 (by intro hb; have:=(own_lt O1.out (by simpa using hb)).2; omega))
            obtain ⟨p0,p1⟩:w4.cell? ⟨wi.heap.size,0,none⟩=some (.int .i64 xc)∧w4.cell? ⟨wi.heap.size,1,none⟩=some (.int .i64 xv):=⟨HP4.out.cell 0,HP4.out.cell 1⟩
            clear o5 u5 b5
            clear f0 f1 c1 e0
            by_cases he:xc=k
            ·have d3:(xc != k)=false:=by simpa using he
             have E1:Hid (acc ++ [(k,v)] ++ over k v ((coll s i).drop (j + 1)) true=over k v (coll s i) false):=Zh (by have:=over_in HX.out hcx ST.out.eq; rwa [if_pos he] at this)
             have LL:Hid ((acc ++ [(k,(v:Int))]).length≤j + 1 + true.toNat):=Zh (by rw [List.length_append,HQ.out]; have:=QK.out; simp at this ⊢; omega)
             have OO:Hid (Ow encPr 157 w4 w.heap.size (.slice A4 (q + 1) c4) (acc ++ [(k,v)])):=Zh (by unfold Ow; rw [List.length_append,HQ.out]; exact O4.out)
             clear he
             go_wp2_with fail
             go_roundw
             case rel => exact ⟨j + 1,true,rfl,by go_num,by omega,Zh ⟨_,OO.out,U4.out,E1.out,LL.out⟩⟩
             case measure => simp [intOf]; omega
            ·have d3:(xc != k)=true:=by simpa using he
             have E1:Hid (acc ++ [(k,v)] ++ [(xc,xv)] ++ over k v ((coll s i).drop (j + 1)) true=over k v (coll s i) false):=Zh (by have:=over_in HX.out hcx ST.out.eq; rwa [if_neg he] at this)
             clear he
             go_wp2_with (at_builtin; refine stopped ?_)
             refine Zh ?_
             refine wpList_app _ (by rfl) (.tmp 81) (.tmp 83) _ (by rfl) elem_pair (.slice A4 (q + 1) c4) _ (by rfl) (by rfl) (own_upd0 O4.out ((Upd.refl [] w4).alloc _)) (.of_blk (Blk.new _ _ _) (m:=1) 1 rfl) (by intro u hu; simp at hu; rcases hu with rfl | rfl <;> rfl) (by simp only [maxLen]; omega) (by omega) (Nat.le_trans U4.out.size (by simp)) ?_
             intro v5 w5 o5 u5 b5
             obtain ⟨A5,c5,rfl,_,_⟩:=own_slice o5
             have U5:Hid (Upd [] w w5):=Zh (U4.out.trans' (((Upd.refl _ w4).alloc _).trans u5) (fun k hk => .inr (own_lt O4.out (by simpa using hk)).1))
             have O5:Hid (w5.ownsRow w.heap.size 157 2 (.slice A5 ((q + 1) + 1) c5) ((q + 1) + 1) (flat encPr ((acc ++ [(k,v)]) ++ [(xc,xv)]))):=Zh (by
              rw [flat_append]
              exact o5)
             clear o5 u5 b5
             have OO:Hid (Ow encPr 157 w5 w.heap.size (.slice A5 (q + 1 + 1) c5) (acc ++ [(k,v)] ++ [(xc,xv)])):=Zh (by unfold Ow; rw [List.length_append,List.length_append,HQ.out]; exact O5.out)
             have LL:Hid ((acc ++ [(k,(v:Int))] ++ [(xc,xv)]).length≤j + 1 + true.toNat):=Zh (by rw [List.length_append,List.length_append,HQ.out]; have:=QK.out; simp at this ⊢; omega)
             go_wp2_with fail
             go_roundw
             case rel => exact ⟨j + 1,true,rfl,by go_num,by omega,Zh ⟨_,OO.out,U5.out,E1.out,LL.out⟩⟩
             case measure => simp [intOf]; omega
         ·have d1:decide (k≤xc)=false:=by simpa using hcx
          by_cases he:xc=k
          ·have d3:(xc != k)=false:=by simpa using he
           have E1:Hid (acc ++ over k v ((coll s i).drop (j + 1)) done=over k v (coll s i) false):=Zh (by have:=over_out HX.out (.inr hcx) ST.out.eq; rwa [if_pos he] at this)
           have LL:Hid (acc.length≤j + 1 + done.toNat):=Zh (by rw [HQ.out]; have:=QK.out; omega)
           have OO:Hid (Ow encPr 157 (wi.alloc (.cells #[.int .i64 xc,.int .i64 xv] 157)) w.heap.size (.slice Al q ca) acc):=Zh (by unfold Ow; rw [HQ.out]; exact O1p.out)
           clear he
           go_wp2_with fail
           go_roundw
           case rel => exact ⟨j + 1,done,rfl,by go_num,by omega,Zh ⟨_,OO.out,U1p.out,E1.out,LL.out⟩⟩
           case measure => simp [intOf]; omega
          ·have d3:(xc != k)=true:=by simpa using he
           have E1:Hid (acc ++ [(xc,xv)] ++ over k v ((coll s i).drop (j + 1)) done=over k v (coll s i) false):=Zh (by have:=over_out HX.out (.inr hcx) ST.out.eq; rwa [if_neg he] at this)
           have LL:Hid ((acc ++ [(xc,xv)]).length≤j + 1 + done.toNat):=Zh (by rw [List.length_append,HQ.out]; have:=QK.out; simp at this ⊢; omega)
           clear he
           go_wp2_with (at_builtin; refine stopped ?_)
           refine Zh ?_
           refine wpList_app _ (by rfl) (.tmp 81) (.tmp 83) _ (by rfl) elem_pair (.slice Al q ca) _ (by rfl) (by rfl) (own_upd0 O1p.out ((Upd.refl [] (wi.alloc (.cells #[.int .i64 xc,.int .i64 xv] 157))).alloc _)) (.of_blk (Blk.newAt _ _ (H:=wi.heap.size + 1) (by simp)) (m:=1) 1 rfl) (by intro u hu; simp at hu; rcases hu with rfl | rfl <;> rfl) (by simp only [maxLen]; omega) (by omega) (Nat.le_trans U1p.out.size (by simp)) ?_
           intro v5 w5 o5 u5 b5
           obtain ⟨A5,c5,rfl,_,_⟩:=own_slice o5
           have U5:Hid (Upd [] w w5):=Zh (U1p.out.trans' (((Upd.refl _ (wi.alloc (.cells #[.int .i64 xc,.int .i64 xv] 157))).alloc _).trans u5) (fun k hk => .inr (own_lt O1p.out (by simpa using hk)).1))
           have O5:Hid (w5.ownsRow w.heap.size 157 2 (.slice A5 (q + 1) c5) (q + 1) (flat encPr (acc ++ [(xc,xv)]))):=Zh (by
            rw [flat_append]
            exact o5)
           clear o5 u5 b5
           have OO:Hid (Ow encPr 157 w5 w.heap.size (.slice A5 (q + 1) c5) (acc ++ [(xc,xv)])):=Zh (by unfold Ow; rw [List.length_append,HQ.out]; exact O5.out)
           go_wp2_with fail
           go_roundw
           case rel => exact ⟨j + 1,done,rfl,by go_num,by omega,Zh ⟨_,OO.out,U5.out,E1.out,LL.out⟩⟩
           case measure => simp [intOf]; omega
        ·obtain rfl:j=n:=by omega
         have HD:Hid ((coll s i).drop j=[]):=Zh (List.drop_eq_nil_of_le (by rw [HN.out]; exact Nat.le_refl _))
         cases done with
         | true =>
           have EE:Hid (acc=over k v (coll s i) false):=Zh (by have:=ST.out.eq; rw [HD.out] at this; simpa [over] using this)
           have OO:Hid (Ow encPr 157 wi w.heap.size (.slice Al q ca) acc):=Zh (by unfold Ow; rw [HQ.out]; exact O1.out)
           have HM:Hid (mPut s i k v=setC s i (acc)):=Zh (by unfold mPut; rw [if_pos HE.out,HVV.out,← over_put (HGD.out.srt _ (coll_mem HII.out)),← EE.out])
           go_wp2_with fail
           refine (rm_set B rb F s i (.slice Al (q) ca) (acc) wi (H.out.upd0 U1.out) HII.out (own_base OO.out hBw) (HM.out ▸ good_put HGD.out HII.out k v HKB.out) (Nat.le_trans hBw U1.out.size)).mono ?_
           rintro e w6 ⟨F',rfl,R6,U6,S6⟩
           have R:=Zh (And.intro R6 (frm_set (B:=B) U1.out OO.out U6 S6))
           clear R6 U6 S6
           go_wp2_with fail
           go_ret
           unfold RPutPost
           rw [HC.out,Int.toNat_natCast]
           refine ⟨F',by rw [HE.out]; rfl,?_,R.out.2⟩
           have:=R.out.1
           rw [← HM.out] at this
           exact this
         | false =>
           have EE:Hid (acc ++ [(k,v)]=over k v (coll s i) false):=Zh (by have:=ST.out.eq; rw [HD.out] at this; simpa [over] using this)
           go_wp2_with (at_builtin; refine stopped ?_)
           refine Zh ?_
           refine wpList_app _ (by rfl) (.tmp 87) (.tmp 91) _ (by rfl) elem_pair (.slice Al q ca) _ (by rfl) (by rfl) (own_upd0 O1.out ((Upd.refl [] wi).alloc _)) (.of_blk (Blk.new _ _ _) (m:=1) 1 rfl) (by intro u hu; simp at hu; rcases hu with rfl | rfl <;> rfl) (by simp only [maxLen]; omega) (by omega) (Nat.le_trans U1.out.size (by simp)) ?_
           intro v5 w5 o5 u5 b5
           obtain ⟨A5,c5,rfl,_,_⟩:=own_slice o5
           have U5:Hid (Upd [] w w5):=Zh (U1.out.trans' (((Upd.refl _ wi).alloc _).trans u5) (fun k hk => .inr (own_lt O1.out (by simpa using hk)).1))
           have O5:Hid (w5.ownsRow w.heap.size 157 2 (.slice A5 (q + 1) c5) (q + 1) (flat encPr (acc ++ [(k,v)]))):=Zh (by
            rw [flat_append]
            exact o5)
           clear o5 u5 b5
           have OO:Hid (Ow encPr 157 w5 w.heap.size (.slice A5 (q + 1) c5) (acc ++ [(k,v)])):=Zh (by unfold Ow; rw [List.length_append,HQ.out]; exact O5.out)
           clear c1 e0
           have HM:Hid (mPut s i k v=setC s i (acc ++ [(k,v)])):=Zh (by unfold mPut; rw [if_pos HE.out,HVV.out,← over_put (HGD.out.srt _ (coll_mem HII.out)),← EE.out])
           go_wp2_with fail
           refine (rm_set B rb F s i (.slice A5 (q + 1) c5) (acc ++ [(k,v)]) w5 (H.out.upd0 U5.out) HII.out (own_base OO.out hBw) (HM.out ▸ good_put HGD.out HII.out k v HKB.out) (Nat.le_trans hBw U5.out.size)).mono ?_
           rintro e w6 ⟨F',rfl,R6,U6,S6⟩
           have R:=Zh (And.intro R6 (frm_set (B:=B) U5.out OO.out U6 S6))
           clear R6 U6 S6
           go_wp2_with fail
           go_ret
           unfold RPutPost
           rw [HC.out,Int.toNat_natCast]
           refine ⟨F',by rw [HE.out]; rfl,?_,R.out.2⟩
           have:=R.out.1
           rw [← HM.out] at this
           exact this
end Go.Proofs.YtmjnmpifibemjaaGreatDoor.Rf

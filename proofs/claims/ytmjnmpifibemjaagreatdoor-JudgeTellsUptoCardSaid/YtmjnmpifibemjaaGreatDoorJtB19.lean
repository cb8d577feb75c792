/-
 concordref08.New.
-/
import Derived.Test.YtmjnmpifibemjaaGreatDoorJtB14
import Derived.Test.YtmjnmpifibemjaaGreatDoorJtB16
import Derived.Laws.MakeOwn
import Derived.Test.YtmjnmpifibemjaaGreatDoorJtBsRvF
import Derived.Test.YtmjnmpifibemjaaGreatDoorJtB12
import Derived.Test.YtmjnmpifibemjaaGreatDoorJtB13
set_option linter.unusedVariables false
set_option linter.unusedSimpArgs false
set_option maxRecDepth 100000
set_option maxHeartbeats 16000000
namespace Go.Proofs.YtmjnmpifibemjaaGreatDoor
open Go.RowKit Assoc MP
attribute [local go_sem] litStep_value
theorem prs_info:(Tryz.prog.info? 103).map (fun i => (i.zero,i.size,i.bytes))=some (some (.slice none 0 0),1,24):=by kernel_rfl
theorem run_makePrs (w:World) (n:Nat) (hn:n≤1000):(Instr.makeSlice 63 (.int .i64 n) (.int .i64 n)).run Tryz.prog w=.ok (.slice (some ⟨w.heap.size,0,none⟩) n n) (w.alloc (.cells (madeCells #[Value.slice none 0 0] n) 103)):=by
 obtain ⟨i0,hi0,hz0,hz1,hz2⟩:=info_parts prs_info
 have h:=run_make (P:=Tryz.prog) w 63 103 i0 _ Tryz.underlying63 hi0 hz0 .i64 .i64 n n (by omega) (by omega) (by rw [hz2]; omega) (by omega)
 rw [hz1] at h
 simpa [Value.cells] using h
theorem madePrs (n:Nat):(madeCells #[Value.slice none 0 0] n).toList=List.replicate n (.slice none 0 0):=by
 apply List.ext_getElem
 ·simp [madeCells]
 ·intro i h1 h2
  simp [madeCells,Nat.mod_one]
theorem own_madePrs (w:World) (B n:Nat) (hB:B≤w.heap.size) (hn:n≤1000):(w.alloc (.cells (madeCells #[Value.slice none 0 0] n) 103)).ownsRow B 103 1 (.slice (some ⟨w.heap.size,0,none⟩) n n) n (List.replicate n (.slice none 0 0)):=by
 refine ⟨by simp,.inr ⟨w.heap.size,n,_,rfl,hB,Blk.new w _ _,Nat.le_refl _,by simp only [maxLen]; omega,by simp [size_madeCells],?_⟩⟩
 rw [madePrs,List.take_of_length_le (by simp)]
theorem rmst_new {B rb n c d:Nat} {A A':Option Addr} {xs:List Int} {w:World} (hn:xs.length=n) (hb:Blk w rb 65 #[.slice A n c,.slice A' n d]) (hk:Ow encK 3 w B (.slice A n c) xs) (hl:w.ownsRow B 103 1 (.slice A' n d) n (List.replicate n (.slice none 0 0))) (hB:B≤rb) :
 RMSt B rb (.slice A n c) (.slice A' n d) (List.replicate n (.slice none 0 0)) w (newS xs):=by
 refine ⟨hb,hk,by show w.ownsRow B _ 1 _ (List.replicate xs.length ([]:AL)).length _; rw [List.length_replicate,hn]; exact hl,fun i v l hv hx => ?_,hB⟩
 have h1:v=.slice none 0 0:=List.eq_of_mem_replicate (List.mem_of_getElem? hv)
 have h2:l=[]:=List.eq_of_mem_replicate (List.mem_of_getElem? (show (List.replicate xs.length ([]:AL))[i]?=some l from hx))
 subst h1 h2
 exact Ow.nil _ _ _ _
theorem elem_prs : Elem Tryz.prog 63 103 1 24 := .mk' (z := ((Tryz.prog.info? 103).bind (·.zero)).getD undef) Tryz.underlying63 (by kernel_rfl) (by kernel_rfl) (by omega)
def RNewPost (xs:List Int) (w:World) (e:Ending) (w':World):Prop:=Upd [] w w' ∧
 ((∃ i,badK xs=some i∧e=.returned (.tuple #[.pointer none,.int .i64 17,.int .i64 ((i:Int) + 1)])) ∨
  (badK xs=none∧8 < xs.length∧e=.returned (.tuple #[.pointer none,.int .i64 8,.int .i64 0])) ∨
  (badK xs=none∧xs.length≤8∧∃ rb F,e=.returned (.tuple #[.pointer (some ⟨rb,0,none⟩),.int .i64 0,.int .i64 0])∧RMdl w.heap.size rb F w' (newS xs)))
theorem rm_new (A:Option Addr) (n c:Nat) (xs:List Int) (w:World) (h:Rd encK w (.slice A n c) xs) (hn:xs.length=n) (hl:n≤9223372036854775807) :
 Calls Tryz.prog 8 #[.slice A n c] w fun e w' => RNewPost xs w e w':=by
 have HR:=Zh h
 have HN:=Zh hn
 clear h hn
 go_enter Tryz.func8,Tryz.ntmps8
 go_wp2_with fail
 go_loop [5] (fun v => ∃ k:Nat,v=.int .i64 k∧k≤n∧Hid (∀ j,j < k→kOk (xs.getD j 0)=true)) (fun v => n - (intOf v).toNat)
 case atStart => exact ⟨0,rfl,by omega,Zh (fun j hj => by omega)⟩
 case round =>
  obtain ⟨k,rfl,hk,HOK⟩:=hrel
  by_cases hkn:k < n
  ·obtain ⟨y,hy⟩:∃ y,xs[k]?=some y:=⟨_,List.getElem?_eq_getElem (by rw [HN.out]; exact hkn)⟩
   obtain ⟨ad,rfl,hlt,hcells⟩:=HR.out.at_ hy
   have e0:w.cell? (ad.add k)=some (.int .i64 y):=by have:=hcells 0 _ rfl; rwa [show k * encK.s + 0=k by simp [encI]] at this
   have HY:=Zh hy
   have q1:(0:Int)≤(k:Int):=by omega
   have q2:(k:Int) < (n:Int):=by omega
   clear hy hcells
   by_cases h1:y < 1
   ·have d1:decide (y < 1)=true:=by simpa using h1
    have HOKY:Hid (kOk y=false):=Zh (by unfold kOk; rw [decide_eq_false_iff_not]; omega)
    clear h1
    have HZ:Hid (badK xs=some k):=Zh (badK_at HOK.out HY.out HOKY.out)
    go_wp2_with fail
    go_ret3
    exact ⟨.refl _ _,.inl ⟨k,HZ.out,by rfl⟩⟩
   ·have d1:decide (y < 1)=false:=by simpa using h1
    by_cases h3:3 < y
    ·have d3:decide (3 < y)=true:=by simpa using h3
     have HOKY:Hid (kOk y=false):=Zh (by unfold kOk; rw [decide_eq_false_iff_not]; omega)
     clear h1 h3
     have HZ:Hid (badK xs=some k):=Zh (badK_at HOK.out HY.out HOKY.out)
     go_wp2_with fail
     go_ret3
     exact ⟨.refl _ _,.inl ⟨k,HZ.out,by rfl⟩⟩
    ·have d3:decide (3 < y)=false:=by simpa using h3
     have HOKY:Hid (kOk y=true):=Zh (by unfold kOk; rw [decide_eq_true_iff]; omega)
     clear h1 h3
     have HO2:Hid (∀ j,j < k + 1→kOk (xs.getD j 0)=true):=Zh (fun j hj => by
      rcases Nat.lt_or_ge j k with h1 | h1
      ·exact HOK.out j h1
      ·obtain rfl:j=k:=by omega
       rw [List.getD_eq_getElem?_getD,HY.out]
       exact HOKY.out)
     go_wp2_with fail
     go_round
     case rel => exact ⟨k + 1,by go_num,by omega,HO2⟩
     case measure => simp [intOf]; omega
  ·obtain rfl:k=n:=by omega
   have HZ:Hid (badK xs=none):=Zh (badK_no (by rw [HN.out]; exact HOK.out))
   by_cases h8:8 < k
   ·have d8:decide ((8:Int) < (k:Int))=true:=by simp; omega
    go_wp2_with fail
    go_ret3
    exact ⟨.refl _ _,.inr (.inl ⟨HZ.out,by rw [HN.out]; exact h8,rfl⟩)⟩
   ·have d8:decide ((8:Int) < (k:Int))=false:=by simp; omega
    have hl:k≤1000:=by omega
    have HMK:Hid (∀ W,(Instr.makeSlice 63 (.int .i64 k) (.int .i64 k)).run Tryz.prog W=.ok (.slice (some ⟨W.heap.size,0,none⟩) k k) (W.alloc (.cells (madeCells #[Value.slice none 0 0] k) 103))):=Zh (fun W => run_makePrs W k hl)
    have F1:Hid (∀ W,Upd [] w.drew W→Src W 1 (.slice A k c) k (flat encK xs)):=Zh (fun W hW => by
     have:=HR.out.upd0 ((Upd.refl [] w).drew.trans hW)
     unfold Rd at this
     rw [HN.out] at this
     exact this)
    go_wp2_with fail
    refine wp_invNT 6 [(0,.own w.heap.size 3 1 0 []),(2,.own w.heap.size 3 1 k (flat encK xs)),(5,.own w.heap.size 103 1 k (List.replicate k (.slice none 0 0)))] [(2,[0])] (by kernel_rfl) (by simp) (by kernel_rfl) (by kernel_rfl) ⟨lasts_own _ _ _ _ _ (by simp [maxLen]),lasts_own _ _ _ _ _ (by unfold maxLen; omega),lasts_own _ _ _ _ _ (by unfold maxLen; omega),trivial⟩ ?_
    simp only [List.take_succ_cons,List.take_zero,List.drop_succ_cons,List.drop_zero]
    refine wpV_heavy (by simp only [lightOp]) (by rfl) (fun W hU hk hF K hK => ?_) ?_
    ·go_wp2_with fail
     exact wpV_made hK rfl rfl rfl rfl hU.size
    rintro _ ⟨A1,c1,rfl,_,_⟩
    simp only [aP]
    with_reducible apply wpV_light
    ·simp only [lightOp]
    ·intro W hU hF
     clear hU hF
     go_simp
     exact rfl
    simp only [aP]
    refine wpV_heavy (by simp only [lightOp]) (by rfl) (fun W hU hk hF K hK => ?_) ?_
    ·exact wpV_app hK (.tmp 29) (.tmp 30) _ (by rfl) elem_int _ _ (by rfl) (by rfl) rfl rfl (by simp [usedV,mkI,conOf,specOf,Spec.own]) (hF.out.1 (by kernel_rfl)) (F1.out W hU) (by omega) (by simp) flat_cells (by unfold maxLen; omega) (by omega) hU.size
    rintro _ ⟨A2,c2,rfl,_,_⟩
    simp only [aP]
    iterate 2 (
     with_reducible apply wpV_light
     ·simp only [lightOp]
     ·intro W hU hF
      clear hU hF
      go_simp
      exact rfl
     simp only [aP])
    refine wpV_heavy (by simp only [lightOp]) (by rfl) (fun W hU hk hF K hK => ?_) ?_
    ·have hm:=HMK.out W
     go_wp2_with fail
     exact hK.out _ _ (outV_own (v:=undef) rfl rfl (by rfl) (own_madePrs W w.heap.size k hU.size hl) ((Upd.refl [] W).alloc _) (.inr rfl))
    rintro _ ⟨A5,c5,rfl,_,_⟩
    simp only [aP]
    refine wpV_end (fun W hU _ hF => ?_)
    have U3:Hid (Upd [] w W):=Zh ((Upd.refl [] w).drew.trans hU)
    have O2:Hid (W.ownsRow w.heap.size 3 1 (.slice A2 k c2) k (flat encK xs)):=Zh (hF.out.2.1 (by kernel_rfl))
    have O5:Hid (W.ownsRow w.heap.size 103 1 (.slice A5 k c5) k (List.replicate k (.slice none 0 0))):=Zh (hF.out.2.2.1 (by kernel_rfl))
    clear hU hF
    iterate 5 (
     refine wpT_op (by rfl) (fun K hK => ?_)
     go_wp2_with fail
     refine hK.out _ _ ?_
     clear hK K
     try simp only [aP])
    refine wpT_end ?_
    have HB:Hid (Blk (W.alloc (.cells #[.slice A2 k c2,.slice A5 k c5] 65)) W.heap.size 65 #[.slice A2 k c2,.slice A5 k c5]):=Zh (Blk.new W _ _)
    go_wp2_with fail
    go_ret3
    refine ⟨U3.out.alloc _,.inr (.inr ⟨HZ.out,by rw [HN.out]; omega,W.heap.size,_,rfl,good_newS (by rw [HN.out]; omega),_,_,_,rfl,rmst_new HN.out HB.out (by unfold Ow; rw [HN.out]; exact own_upd0 O2.out ((Upd.refl [] W).alloc _)) (own_upd0 O5.out ((Upd.refl [] W).alloc _)) U3.out.size⟩)⟩
end Go.Proofs.YtmjnmpifibemjaaGreatDoor
namespace Go.Proofs.YtmjnmpifibemjaaGreatDoor.Rv
open Go.RowKit Assoc MP Ev
attribute [local go_sem] litStep_value
def Odd (w:World) (k:Nat):Prop:=∃ t vs,Blk w k t vs∧t≠3∧t≠157∧t≠103
theorem Odd.off {w:World} {k B s n:Nat} {e:TypeId} {v:Value} {xs:List Value} (h:Odd w k) (ho:w.ownsRow B e s v n xs) (he:e=3∨e=157∨e=103):¬ v.ownBlock=some k:=fun hb => by
 obtain ⟨t,vs,hB,h1,h2,h3⟩:=h
 rcases he with rfl | rfl | rfl
 ·exact own_type ho hB h1 hb
 ·exact own_type ho hB h2 hb
 ·exact own_type ho hB h3 hb
theorem own_odd {w w':World} {B s n:Nat} {e:TypeId} {v:Value} {xs:List Value} {T:List Nat} (ho:w.ownsRow B e s v n xs) (he:e=3∨e=157∨e=103) (hu:Upd T w w') (hT:∀ k ∈ T,Odd w k):w'.ownsRow B e s v n xs :=
 own_upd ho hu fun b hb hm => (hT b hm).off ho he hb
def RSt (sb:Nat) (w:World) (s:MS):Prop:=∃ F,RMdl 0 sb F w s
theorem RSt.odd {sb:Nat} {w w':World} {s:MS} {T:List Nat} (h:RSt sb w s) (hu:Upd T w w') (hT:∀ k ∈ T,k≠sb∧Odd w k):RSt sb w' s:=by
 obtain ⟨F,g,vk,vl,ms,rfl,h⟩:=h
 have hO:∀ k ∈ T,Odd w k:=fun k hk => (hT k hk).2
 exact ⟨_,g,vk,vl,ms,rfl,h.box.upd hu (fun hm => (hT _ hm).1 rfl),own_odd h.k (.inl rfl) hu hO,own_odd h.l (.inr (.inr rfl)) hu hO,fun i v l hv hl => own_odd (h.each i v l hv hl) (.inr (.inl rfl)) hu hO,h.b⟩
theorem RSt.upd0 {sb:Nat} {w w':World} {s:MS} (h:RSt sb w s) (hu:Upd [] w w'):RSt sb w' s:=by
 obtain ⟨F,h⟩:=h
 exact ⟨F,h.upd0 hu⟩
theorem RSt.of {B sb:Nat} {F:List Nat} {w:World} {s:MS} (h:RMdl B sb F w s):RSt sb w s:=by
 obtain ⟨g,vk,vl,ms,rfl,h⟩:=h
 exact ⟨_,g,vk,vl,ms,rfl,h.box,own_base h.k (Nat.zero_le _),own_base h.l (Nat.zero_le _),fun i v l hv hl => own_base (h.each i v l hv hl) (Nat.zero_le _),Nat.zero_le _⟩
theorem RSt.good {sb:Nat} {w:World} {s:MS} (h:RSt sb w s):MP.Good s:=by obtain ⟨F,h⟩:=h; exact h.1
theorem RSt.box {sb:Nat} {w:World} {s:MS} (h:RSt sb w s):∃ vk vl,Blk w sb 65 #[vk,vl]:=by obtain ⟨F,g,vk,vl,ms,rfl,h⟩:=h; exact ⟨_,_,h.box⟩
theorem RSt.oddB {sb:Nat} {w:World} {s:MS} (h:RSt sb w s):Odd w sb:=by
 obtain ⟨vk,vl,hb⟩:=h.box
 exact ⟨_,_,hb,by decide,by decide,by decide⟩
theorem RSt.lt {sb:Nat} {w:World} {s:MS} (h:RSt sb w s):sb < w.heap.size:=by obtain ⟨vk,vl,hb⟩:=h.box; exact hb.lt
def RCopyPost (s:MS) (w:World) (e:Ending) (w':World):Prop:=∃ sb',e=.returned (.pointer (some ⟨sb',0,none⟩))∧RSt sb' w' s∧Upd [] w w'∧w.heap.size≤sb'
theorem copy_r (sb:Nat) (s:MS) (w:World) (h:RSt sb w s) :
 Calls Tryz.prog 21 #[.pointer (some ⟨sb,0,none⟩)] w fun e w' => RCopyPost s w e w':=by
 obtain ⟨F,g,vk,vl,ms,hF,h⟩:=h
 have HS:=Zh h
 have HG:=Zh g
 obtain ⟨Ak,ck,hvk,_,_⟩:=own_slice h.k
 obtain ⟨nk,hnk⟩:∃ n,s.K.length=n:=⟨_,rfl⟩
 rw [hnk] at hvk
 subst hvk
 obtain ⟨Al,cl,rfl,_,_⟩:=own_slice h.l
 obtain ⟨N,hN⟩:∃ N,s.L.length=N:=⟨_,rfl⟩
 have HN:=Zh hN
 have hN8:N≤8:=by rw [← hN,← g.kl]; exact g.k8
 have CS:Hid (∀ W,Upd [] w.drew W→W.cell? ⟨sb,0,none⟩=some (.slice Ak nk ck)∧W.cell? ⟨sb,1,none⟩=some (.slice Al N cl)):=Zh (fun W hW => by
  have hb:=HS.out.box.upd ((Upd.refl [] w).drew.trans hW) (by simp)
  rw [HN.out] at hb
  exact ⟨hb.cell 0,hb.cell 1⟩)
 have ONE:Hid (∀ u ∈ ms,u.oneCell'=true):=Zh (fun u hu => by
  obtain ⟨l,_,ho⟩:=HS.out.mem hu
  obtain ⟨A',c',rfl,_⟩:=own_slice ho
  rfl)
 have FS:Hid (∀ W,Upd [] w.drew W→Src W 1 (.slice Al N cl) N ms):=Zh (fun W hW => by
  have:=Src.of_own (own_upd0 HS.out.l ((Upd.refl [] w).drew.trans hW))
  rwa [HN.out] at this)
 have hlt:=h.box.lt
 clear h g hF hN hnk
 go_enter Tryz.func21,Tryz.ntmps21
 go_wp2_with fail
 refine wp_invNT 10 [(4,.own w.heap.size 103 1 0 []),(9,.own w.heap.size 103 1 N ms)] [(9,[4])] (by kernel_rfl) (by simp) (by kernel_rfl) (by kernel_rfl) ⟨lasts_own _ _ _ _ _ (by simp [maxLen]),lasts_own _ _ _ _ _ (by unfold maxLen; omega),trivial⟩ ?_
 simp only [List.take_succ_cons,List.take_zero,List.drop_succ_cons,List.drop_zero]
 iterate 4 (
  with_reducible apply wpV_light
  ·simp only [lightOp]
  ·intro W hU hF
   have f0:=CS.out W hU
   clear hU hF
   go_simp
   exact rfl
  simp only [aP])
 refine wpV_heavy (by simp only [lightOp]) (by rfl) (fun W hU hk hF K hK => ?_) ?_
 ·go_wp2_with fail
  exact wpV_made hK rfl rfl rfl rfl hU.size
 rintro _ ⟨A1,c1,rfl,_,_⟩
 simp only [aP]
 iterate 4 (
  with_reducible apply wpV_light
  ·simp only [lightOp]
  ·intro W hU hF
   have f0:=CS.out W hU
   clear hU hF
   go_simp
   exact rfl
  simp only [aP])
 refine wpV_heavy (by simp only [lightOp]) (by rfl) (fun W hU hk hF K hK => ?_) ?_
 ·exact wpV_app hK (.tmp 7) (.tmp 11) _ (by rfl) elem_prs _ _ (by rfl) (by rfl) rfl rfl (by simp [usedV,mkI,conOf,specOf,Spec.own]) (hF.out.1 (by kernel_rfl)) (FS.out W hU) (by omega) (by simp) ONE.out (by unfold maxLen; omega) (by omega) hU.size
 rintro _ ⟨A2,c2,rfl,_,_⟩
 simp only [aP]
 refine wpV_end (fun W hU _ hF => ?_)
 have U3:Hid (Upd [] w W):=Zh ((Upd.refl [] w).drew.trans hU)
 have O2:Hid (W.ownsRow w.heap.size 103 1 (.slice A2 N c2) N ms):=Zh (hF.out.2.1 (by kernel_rfl))
 clear hU hF
 iterate 3 (
  refine wpT_op (by rfl) (fun K hK => ?_)
  go_wp2_with fail
  refine hK.out _ _ ?_
  clear hK K
  try simp only [aP])
 refine wpT_end ?_
 have HB:Hid (Blk (W.alloc (.cells #[.slice Ak nk ck,.slice A2 N c2] 65)) W.heap.size 65 #[.slice Ak nk ck,.slice A2 N c2]):=Zh (Blk.new W _ _)
 go_wp2_with fail
 go_ret
 have U4:=U3.out.alloc (.cells #[.slice Ak nk ck,.slice A2 N c2] 65)
 exact ⟨W.heap.size,rfl,⟨_,HG.out,_,_,ms,rfl,HB.out,own_upd0 HS.out.k U4,by rw [HN.out]; exact own_base (own_upd0 O2.out ((Upd.refl [] W).alloc _)) (Nat.zero_le _),fun i v l hv hl => own_upd0 (HS.out.each i v l hv hl) U4,Nat.zero_le _⟩,U4,U3.out.size⟩
end Go.Proofs.YtmjnmpifibemjaaGreatDoor.Rv
namespace Go.Proofs.YtmjnmpifibemjaaGreatDoor.Rv
open Go.RowKit Assoc MP Ev
attribute [local go_sem] litStep_value
structure RnSt (H rb sb:Nat) (vt:Value) (ks:List Int) (w:World) (r:RS):Prop where
 blk:Blk w rb 71 (runC sb r.regs vt r.steps)
 st:RSt sb w r.s
 told:w.ownsRow 0 3 1 vt r.told.length (Ev.ints r.told)
 lowR:H≤rb
 lowS:H≤sb
 ok:Ok ks r
def Rn (H rb:Nat) (F:List Nat) (ks:List Int) (w:World) (r:RS):Prop:=∃ sb vt,F=[rb,sb]∧RnSt H rb sb vt ks w r
section
variable {H rb sb:Nat} {F T:List Nat} {vt:Value} {ks:List Int} {w w':World} {r:RS}
theorem odd_run {cs:Array Value} (h:Blk w rb 71 cs):Odd w rb:=⟨_,_,h,by decide,by decide,by decide⟩
theorem RnSt.ne (h:RnSt H rb sb vt ks w r):rb≠sb:=by
 obtain ⟨vk,vl,hb⟩:=h.st.box
 exact h.blk.ne_ hb (by decide)
theorem RnSt.upd0 (h:RnSt H rb sb vt ks w r) (hu:Upd [] w w'):RnSt H rb sb vt ks w' r:=⟨h.blk.upd hu (by simp),h.st.upd0 hu,own_upd0 h.told hu,h.lowR,h.lowS,h.ok⟩
theorem Rn.upd0 (h:Rn H rb F ks w r) (hu:Upd [] w w'):Rn H rb F ks w' r:=by
 obtain ⟨sb,vt,e,h⟩:=h
 exact ⟨sb,vt,e,h.upd0 hu⟩
theorem Rn.lt (h:Rn H rb F ks w r):∀ k ∈ F,H≤k∧k < w.heap.size:=by
 obtain ⟨sb,vt,rfl,h⟩:=h
 intro k hk
 simp at hk
 rcases hk with rfl | rfl
 ·exact ⟨h.lowR,h.blk.lt⟩
 ·exact ⟨h.lowS,h.st.lt⟩
theorem Rn.ok (h:Rn H rb F ks w r):Ok ks r:=by
 obtain ⟨sb,vt,rfl,h⟩:=h
 exact h.ok
theorem Rn.good (h:Rn H rb F ks w r):MP.Good r.s:=by
 obtain ⟨sb,vt,rfl,h⟩:=h
 exact h.st.good
theorem Rn.odd (h:Rn H rb F ks w r):∀ k ∈ F,Odd w k:=by
 obtain ⟨sb,vt,rfl,h⟩:=h
 intro k hk
 simp at hk
 rcases hk with rfl | rfl
 ·exact odd_run h.blk
 ·exact h.st.oddB
theorem RnSt.cells (h:RnSt H rb sb vt ks w r):w.cell? ⟨rb,0,none⟩=some (.pointer (some ⟨sb,0,none⟩))∧w.cell? ⟨rb,10,none⟩=some vt∧w.cell? ⟨rb,11,none⟩=some (.int .i64 r.steps)∧(∀ i,w.frozen? ⟨rb,i,none⟩=false)∧rb < w.heap.size :=
 ⟨h.blk.cell 0,(h.blk.cell 10).trans (runC_told h.ok.regs),(h.blk.cell 11).trans (runC_steps h.ok.regs),h.blk.frozen,h.blk.lt⟩
theorem RnSt.reg (h:RnSt H rb sb vt ks w r) {i:Nat} {x:Int} (hx:r.regs[i]?=some x):w.cell? ⟨rb,1 + i,none⟩=some (.int .i64 x):=(h.blk.cell (1 + i)).trans (runC_reg hx)
theorem RnSt.box (h:RnSt H rb sb vt ks w r) (hu:Upd [rb] w w'):RSt sb w' r.s∧w'.ownsRow 0 3 1 vt r.told.length (Ev.ints r.told) :=
 ⟨h.st.odd hu (fun k hk => by simp at hk; subst hk; exact ⟨h.ne,odd_run h.blk⟩),own_odd h.told (.inl rfl) hu (fun k hk => by simp at hk; subst hk; exact odd_run h.blk)⟩
theorem RnSt.setN (h:RnSt H rb sb vt ks w r) {n:Nat} (hn:n≤1000):RnSt H rb sb vt ks (w.setCell ⟨rb,11,none⟩ (.int .i64 n)) { r with steps:=n }:=by
 have hu:Upd [rb] w (w.setCell ⟨rb,11,none⟩ (.int .i64 n)):=Upd.setCell (p:=⟨rb,11,none⟩) (.refl _ _) (.inl (by simp)) _
 exact ⟨h.blk.set_eq (runC_setN h.ok.regs n),(h.box hu).1,(h.box hu).2,h.lowR,h.lowS,⟨h.ok.K,h.ok.regs,hn,h.ok.told⟩⟩
theorem RnSt.setT (h:RnSt H rb sb vt ks w r) {v:Value} {td:List Int} (ho:w.ownsRow 0 3 1 v td.length (Ev.ints td)) (hl:td.length≤201 * 1000):RnSt H rb sb v ks (w.setCell ⟨rb,10,none⟩ v) { r with told:=td }∧Upd [rb] w (w.setCell ⟨rb,10,none⟩ v):=by
 have hu:Upd [rb] w (w.setCell ⟨rb,10,none⟩ v):=Upd.setCell (p:=⟨rb,10,none⟩) (.refl _ _) (.inl (by simp)) _
 exact ⟨⟨h.blk.set_eq (runC_setT h.ok.regs v),(h.box hu).1,own_odd ho (.inl rfl) hu (fun k hk => by simp at hk; subst hk; exact odd_run h.blk),h.lowR,h.lowS,⟨h.ok.K,h.ok.regs,h.ok.steps,hl⟩⟩,hu⟩
theorem RnSt.setS (h:RnSt H rb sb vt ks w r) {sb':Nat} {s:MS} (hs:RSt sb' w s) (hH:H≤sb') (hK:s.K=ks):RnSt H rb sb' vt ks (w.setCell ⟨rb,0,none⟩ (.pointer (some ⟨sb',0,none⟩))) { r with s:=s }∧Upd [rb] w (w.setCell ⟨rb,0,none⟩ (.pointer (some ⟨sb',0,none⟩))):=by
 have hu:Upd [rb] w (w.setCell ⟨rb,0,none⟩ (.pointer (some ⟨sb',0,none⟩))):=Upd.setCell (p:=⟨rb,0,none⟩) (.refl _ _) (.inl (by simp)) _
 obtain ⟨vk,vl,hb⟩:=hs.box
 exact ⟨⟨h.blk.set_eq (runC_setS sb'),hs.odd hu (fun k hk => by simp at hk; subst hk; exact ⟨h.blk.ne_ hb (by decide),odd_run h.blk⟩),(h.box hu).2,h.lowR,hH,⟨hK,h.ok.regs,h.ok.steps,h.ok.told⟩⟩,hu⟩
theorem RnSt.regs9 (h:RnSt H rb sb vt ks w r) (a0 a1 a2 a3 a4 a5 a6 a7 a8:Int) :
 ∀ W,W=((((((((w.setCell ⟨rb,1,none⟩ (.int .i64 a0)).setCell ⟨rb,2,none⟩ (.int .i64 a1)).setCell ⟨rb,3,none⟩ (.int .i64 a2)).setCell ⟨rb,4,none⟩ (.int .i64 a3)).setCell ⟨rb,5,none⟩ (.int .i64 a4)).setCell ⟨rb,6,none⟩ (.int .i64 a5)).setCell ⟨rb,7,none⟩ (.int .i64 a6)).setCell ⟨rb,8,none⟩ (.int .i64 a7)).setCell ⟨rb,9,none⟩ (.int .i64 a8) →
   RnSt H rb sb vt ks W { r with regs:=[a0,a1,a2,a3,a4,a5,a6,a7,a8] }∧Upd [rb] w W:=by
 rintro W rfl
 obtain ⟨b0,b1,b2,b3,b4,b5,b6,b7,b8,hb⟩:=nine h.ok.regs
 have k:=h.blk
 rw [hb] at k
 have k1:Blk _ rb 71 (runC sb [a0,b1,b2,b3,b4,b5,b6,b7,b8] vt r.steps):=k.set_eq (runC_setR (i:=0) (by simp) a0)
 have k2:Blk _ rb 71 (runC sb [a0,a1,b2,b3,b4,b5,b6,b7,b8] vt r.steps):=k1.set_eq (runC_setR (i:=1) (by simp) a1)
 have k3:Blk _ rb 71 (runC sb [a0,a1,a2,b3,b4,b5,b6,b7,b8] vt r.steps):=k2.set_eq (runC_setR (i:=2) (by simp) a2)
 have k4:Blk _ rb 71 (runC sb [a0,a1,a2,a3,b4,b5,b6,b7,b8] vt r.steps):=k3.set_eq (runC_setR (i:=3) (by simp) a3)
 have k5:Blk _ rb 71 (runC sb [a0,a1,a2,a3,a4,b5,b6,b7,b8] vt r.steps):=k4.set_eq (runC_setR (i:=4) (by simp) a4)
 have k6:Blk _ rb 71 (runC sb [a0,a1,a2,a3,a4,a5,b6,b7,b8] vt r.steps):=k5.set_eq (runC_setR (i:=5) (by simp) a5)
 have k7:Blk _ rb 71 (runC sb [a0,a1,a2,a3,a4,a5,a6,b7,b8] vt r.steps):=k6.set_eq (runC_setR (i:=6) (by simp) a6)
 have k8:Blk _ rb 71 (runC sb [a0,a1,a2,a3,a4,a5,a6,a7,b8] vt r.steps):=k7.set_eq (runC_setR (i:=7) (by simp) a7)
 have hs:rb ∈ [rb]∨w.heap.size≤rb:=.inl (by simp)
 have hu:=(((((((((Upd.refl [rb] w).setCell (p:=⟨rb,1,none⟩) hs (.int .i64 a0)).setCell (p:=⟨rb,2,none⟩) hs (.int .i64 a1)).setCell (p:=⟨rb,3,none⟩) hs (.int .i64 a2)).setCell (p:=⟨rb,4,none⟩) hs (.int .i64 a3)).setCell (p:=⟨rb,5,none⟩) hs (.int .i64 a4)).setCell (p:=⟨rb,6,none⟩) hs (.int .i64 a5)).setCell (p:=⟨rb,7,none⟩) hs (.int .i64 a6)).setCell (p:=⟨rb,8,none⟩) hs (.int .i64 a7)).setCell (p:=⟨rb,9,none⟩) hs (.int .i64 a8)
 exact ⟨⟨k8.set_eq (runC_setR (i:=8) (by simp) a8),(h.box hu).1,(h.box hu).2,h.lowR,h.lowS,⟨h.ok.K,by simp,h.ok.steps,h.ok.told⟩⟩,hu⟩
theorem RnSt.nine (h:RnSt H rb sb vt ks w r):∃ a0 a1 a2 a3 a4 a5 a6 a7 a8,r.regs=[a0,a1,a2,a3,a4,a5,a6,a7,a8]∧∀ W,Upd [] w W→W.cell? ⟨rb,1,none⟩=some (.int .i64 a0)∧W.cell? ⟨rb,2,none⟩=some (.int .i64 a1)∧W.cell? ⟨rb,3,none⟩=some (.int .i64 a2)∧W.cell? ⟨rb,4,none⟩=some (.int .i64 a3)∧W.cell? ⟨rb,5,none⟩=some (.int .i64 a4)∧W.cell? ⟨rb,6,none⟩=some (.int .i64 a5)∧W.cell? ⟨rb,7,none⟩=some (.int .i64 a6)∧W.cell? ⟨rb,8,none⟩=some (.int .i64 a7)∧W.cell? ⟨rb,9,none⟩=some (.int .i64 a8):=by
 obtain ⟨a0,a1,a2,a3,a4,a5,a6,a7,a8,e⟩:=Ev.nine h.ok.regs
 refine ⟨a0,a1,a2,a3,a4,a5,a6,a7,a8,e,fun W hW => ?_⟩
 have h1:=h.upd0 hW
 have h2:∀ {i x},r.regs[i]?=some x→W.cell? ⟨rb,1 + i,none⟩=some (.int .i64 x):=fun hx => h1.reg hx
 rw [e] at h2
 exact ⟨h2 (i:=0) rfl,h2 (i:=1) rfl,h2 (i:=2) rfl,h2 (i:=3) rfl,h2 (i:=4) rfl,h2 (i:=5) rfl,h2 (i:=6) rfl,h2 (i:=7) rfl,h2 (i:=8) rfl⟩
end
theorem mod_r (n m:Int) (w:World) (hm:0 < m) (hb:m≤1000):Calls Tryz.prog 12 #[.int .i64 n,.int .i64 m] w fun e w' => e=.returned (.int .i64 (modI n m))∧w=w':=by
 have z:¬ m=0:=by omega
 have hw:=tmod_in n m hm hb
 obtain ⟨x,hx⟩:∃ x,modI n m=x:=⟨_,rfl⟩
 have HX:Hid ((n.tmod m + m).tmod m=x):=Zh hx
 rw [hx]
 clear hx
 go_enter Tryz.func12,Tryz.ntmps12
 go_wp2_with fail
 go_ret
 rw [← HX.out]
 exact ⟨rfl,rfl⟩
theorem arg_r {H rb:Nat} {F:List Nat} {ks:List Int} {r:RS} (a n:Int) (w:World) (h:Rn H rb F ks w r) (ha:0≤a∧a≤8) :
 Calls Tryz.prog 78 #[.pointer (some ⟨rb,0,none⟩),.agg #[.int .i64 a,.int .i64 n]] w fun e w' => e=.returned (.int .i64 (argV r a n))∧Upd [] w w':=by
 obtain ⟨sb,vt,_,h⟩:=h
 by_cases h0:a=0
 ·subst h0
  have HR:Hid (argV r 0 n=n):=Zh (if_pos rfl)
  clear h
  go_enter Tryz.func78,Tryz.ntmps78
  go_wp2_with fail
  go_ret
  rw [HR.out]
  exact ⟨rfl,(Upd.refl [] w).alloc _⟩
 ·obtain ⟨i,rfl⟩:∃ i:Nat,a=i:=⟨a.toNat,by omega⟩
  obtain ⟨x,hx⟩:∃ x,r.regs[i]?=some x:=⟨_,List.getElem?_eq_getElem (by rw [h.ok.regs]; omega)⟩
  have HR:Hid (argV r i n=IntKind.i64.wrap (x + n)):=Zh (by unfold argV; rw [if_neg h0,Int.toNat_natCast,List.getD_eq_getElem?_getD,hx]; rfl)
  have d0:((i:Int) == 0)=false:=by simpa using h0
  have HS:=Zh h
  have XB:Hid (Blk (w.alloc (.cells #[.int .i64 i,.int .i64 n] 60)) w.heap.size 60 #[.int .i64 i,.int .i64 n]):=Zh (Blk.new w _ _)
  have UA:Hid (Upd [] w (w.alloc (.cells #[.int .i64 i,.int .i64 n] 60))):=Zh ((Upd.refl [] w).alloc _)
  have HXX:=Zh hx
  have q1:(0:Int)≤(i:Int):=by omega
  have q2:(i:Int) < 9:=by omega
  have hrb:=h.blk.lt
  clear h hx
  go_enter Tryz.func78,Tryz.ntmps78
  go_wp2_with fail
  generalize (w.alloc (.cells #[.int .i64 i,.int .i64 n] 60))=w1 at *
  have CS:Hid (∀ W,Upd [] w1.drew W→W.cell? ⟨w.heap.size,0,none⟩=some (.int .i64 i)∧W.cell? ⟨w.heap.size,1,none⟩=some (.int .i64 n)∧W.cell? ⟨rb,1 + i,none⟩=some (.int .i64 x)):=Zh (fun W hW => by
   have hu:=(Upd.refl [] w1).drew.trans hW
   exact ⟨(XB.out.upd hu (by simp)).cell 0,(XB.out.upd hu (by simp)).cell 1,(HS.out.upd0 (UA.out.trans hu)).reg HXX.out⟩)
  refine wp_invN [] [] (by kernel_rfl) (by kernel_rfl) (by kernel_rfl) trivial ?_
  iterate 11 (
   with_reducible apply wpV_light
   ·simp only [lightOp]
   ·intro W hU hF
    have f0:=CS.out W hU
    clear hU hF
    go_simp
    exact rfl
   simp only [aP])
  refine wpV_end (fun W hU _ hF => ?_)
  have UX:Hid (Upd [] w W):=Zh (UA.out.trans ((Upd.refl [] w1).drew.trans hU))
  clear hU hF
  refine wpT_end ?_
  go_wp2_with fail
  go_ret
  rw [HR.out]
  exact ⟨rfl,UX.out⟩
def RnPost (H rb:Nat) (F:List Nat) (ks:List Int) (r':RS) (w w':World):Prop:=∃ F',Rn H rb F' ks w' r'∧Frm F F' w w'
theorem RnPost.pre {H rb:Nat} {F:List Nat} {ks:List Int} {r:RS} {w w1 w':World} (h:RnPost H rb F ks r w1 w') (hu:Upd [] w w1):RnPost H rb F ks r w w':=by
 obtain ⟨F',h1,h2⟩:=h
 exact ⟨F',h1,h2.pre hu⟩
theorem frm_box {rb sb:Nat} {w w':World} (h:Upd [rb] w w'):Frm [rb,sb] [rb,sb] w w':=⟨h.mono (by intro x hx; simp at hx; subst hx; exact .inl (by simp)),fun k hk => .inl hk⟩
end Go.Proofs.YtmjnmpifibemjaaGreatDoor.Rv
namespace Go.Proofs.YtmjnmpifibemjaaGreatDoor.Rv
open Go.RowKit Assoc MP Ev
attribute [local go_sem] litStep_value
theorem set_ok {H rb:Nat} {F:List Nat} {ks:List Int} {r:RS} (reg n:Int) (w:World) (h:Rn H rb F ks w r) (h1:0≤reg) (h8:reg≤8) :
 Calls Tryz.prog 77 #[.pointer (some ⟨rb,0,none⟩),.int .i64 reg,.int .i64 n] w fun e w' => e=.returned (.tuple #[])∧RnPost H rb F ks { r with regs:=r.regs.set reg.toNat n } w w':=by
 obtain ⟨sb,vt,rfl,h⟩:=h
 obtain ⟨i,rfl⟩:∃ i:Nat,reg=i:=⟨reg.toNat,by omega⟩
 rw [Int.toNat_natCast]
 have HS:=Zh h
 obtain ⟨a0,a1,a2,a3,a4,a5,a6,a7,a8,hr9,hc9⟩:=h.nine
 have HR9:=Zh hr9
 obtain ⟨y1,y2,y3,y4,y5,y6,y7,y8,y9⟩:=hc9 w (.refl _ _)
 obtain ⟨_,_,_,cf,cl⟩:=h.cells
 have hi:i=0∨i=1∨i=2∨i=3∨i=4∨i=5∨i=6∨i=7∨i=8:=by omega
 clear h hr9 hc9 h1 h8
 have FIN:Hid (∀ (L:List Int) (W W2:World),L=r.regs.set i n→RnSt H rb sb vt ks W { r with regs:=L }→Upd [rb] w W→Upd [] W W2→RnPost H rb [rb,sb] ks { r with regs:=r.regs.set i n } w W2):=Zh (fun L W W2 e h1 h2 h3 => by
  subst e
  exact ⟨[rb,sb],⟨sb,vt,rfl,h1.upd0 h3⟩,frm_box (h2.trans (h3.mono (by simp)))⟩)
 rcases hi with rfl | rfl | rfl | rfl | rfl | rfl | rfl | rfl | rfl
 all_goals (
  go_enter Tryz.func77,Tryz.ntmps77
  go_wp2_with fail
  go_end0
  obtain ⟨g1,g2⟩:=HS.out.regs9 _ _ _ _ _ _ _ _ _ _ rfl
  refine ⟨rfl,FIN.out _ _ _ ?_ g1 g2 ((Upd.refl [] _).alloc _)⟩
  rw [HR9.out]
  rfl)
theorem tell_r {H rb:Nat} {F:List Nat} {ks:List Int} {r:RS} (reg n:Int) (w:World) (h:Rn H rb F ks w r) (h1:0≤reg) (h8:reg≤8) (hl:r.told.length + 1≤201 * 1000) :
 Calls Tryz.prog 96 #[.pointer (some ⟨rb,0,none⟩),.int .i64 reg,.int .i64 n] w fun e w' => e=.returned (.tuple #[])∧RnPost H rb F ks (tell r reg n) w w':=by
 obtain ⟨sb,vt,rfl,h⟩:=h
 obtain ⟨i,rfl⟩:∃ i:Nat,reg=i:=⟨reg.toNat,by omega⟩
 have HT:Hid (tell r i n={ r with regs:=r.regs.set i n,told:=r.told ++ [n] }):=Zh (by unfold tell; rw [Int.toNat_natCast])
 have HS:=Zh h
 have HL:=Zh hl
 obtain ⟨a0,a1,a2,a3,a4,a5,a6,a7,a8,hr9,hc9⟩:=h.nine
 have HR9:=Zh hr9
 obtain ⟨y1,y2,y3,y4,y5,y6,y7,y8,y9⟩:=hc9 w (.refl _ _)
 obtain ⟨_,_,_,cf,cl⟩:=h.cells
 have hi:i=0∨i=1∨i=2∨i=3∨i=4∨i=5∨i=6∨i=7∨i=8:=by omega
 clear h hr9 hc9 h1 h8 hl
 have FIN:Hid (∀ (L:List Int) (W:World),L=r.regs.set i n→RnSt H rb sb vt ks W { r with regs:=L }→Upd [rb] w W→RnSt H rb sb vt ks W { r with regs:=r.regs.set i n }):=Zh (fun L W e h1 h2 => by
  subst e
  exact h1)
 rcases hi with rfl | rfl | rfl | rfl | rfl | rfl | rfl | rfl | rfl
 ·go_enter Tryz.func96,Tryz.ntmps96
  go_wp2_with (at_builtin; refine stopped ?_)
  clear y1 y2 y3 y4 y5 y6 y7 y8 y9 cf cl
  obtain ⟨W2,hW2⟩:∃ W2,W2=((((((((((w.setCell ⟨rb,1,none⟩ (.int .i64 n)).setCell ⟨rb,2,none⟩ (.int .i64 a1)).setCell ⟨rb,3,none⟩ (.int .i64 a2)).setCell ⟨rb,4,none⟩ (.int .i64 a3)).setCell ⟨rb,5,none⟩ (.int .i64 a4)).setCell ⟨rb,6,none⟩ (.int .i64 a5)).setCell ⟨rb,7,none⟩ (.int .i64 a6)).setCell ⟨rb,8,none⟩ (.int .i64 a7)).setCell ⟨rb,9,none⟩ (.int .i64 a8)).alloc (.cells #[.int .i64 n,.int .i64 a1,.int .i64 a2,.int .i64 a3,.int .i64 a4,.int .i64 a5,.int .i64 a6,.int .i64 a7,.int .i64 a8] 69)):=⟨_,rfl⟩
  have SZ:Hid (W2.heap.size=w.heap.size + 1):=Zh (by rw [hW2]; simp [World.setCell])
  have H2:Hid (RnSt H rb sb vt ks W2 { r with regs:=r.regs.set 0 n }∧Upd [rb] w W2):=Zh (by
   obtain ⟨g1,g2⟩:=HS.out.regs9 n a1 a2 a3 a4 a5 a6 a7 a8 _ rfl
   rw [hW2]
   exact ⟨(FIN.out _ _ (by rw [HR9.out]; rfl) g1 g2).upd0 ((Upd.refl [] _).alloc _),g2.alloc _⟩)
  rw [← hW2]
  clear hW2
  refine Zh ?_
  refine wpList_app _ (by rfl) (.tmp 19) (.tmp 23) _ (by rfl) elem_int _ _ (by rfl) (by rfl) (own_made (B:=0) (H:=w.heap.size + 1) 1 (by rw [← SZ.out]; exact Blk.new W2 3 #[]) (Nat.zero_le _)) (Src.of_own (own_upd0 H2.out.1.told ((Upd.refl [] W2).alloc _))) (by intro u hu; obtain ⟨x,_,rfl⟩:=List.mem_map.1 hu; rfl) (by have:=HL.out; simp only [maxLen]; omega) (by have:=HL.out; (try simp only); omega) (Nat.zero_le _) ?_
  intro v3 w3 o3 u3 b3
  have U3:Hid (Upd [] W2 w3):=Zh (((Upd.refl [] W2).alloc _).trans' u3 (by intro x hx; simp [Value.ownBlock] at hx; subst hx; exact .inr (by rw [SZ.out]; exact Nat.le_refl _)))
  have N3:Hid (∀ b,v3.ownBlock=some b→W2.heap.size≤b):=Zh (by intro b hb; have hs:=SZ.out; rcases b3 with h | h <;> rw [hb] at h <;> simp [Value.ownBlock] at h <;> omega)
  rw [Nat.zero_add,List.nil_append] at o3
  have O3:=Zh o3
  obtain ⟨A3,c3,rfl,_,_⟩:=own_slice o3
  clear o3 u3 b3
  go_wp2_with (at_builtin; refine stopped ?_)
  refine Zh ?_
  refine wpList_app _ (by rfl) (.tmp 24) (.tmp 26) _ (by rfl) elem_int _ _ (by rfl) (by rfl) (own_upd0 O3.out ((Upd.refl [] w3).alloc _)) (.of_blk (Blk.new w3 3 #[.int .i64 n]) (m:=1) 1 rfl) (by intro u hu; simp at hu; subst hu; rfl) (by have:=HL.out; simp only [maxLen]; omega) (by have:=HL.out; (try simp only); omega) (Nat.zero_le _) ?_
  intro v5 w5 o5 u5 b5
  have U5:Hid (Upd [] W2 w5):=Zh ((U3.out.alloc _).trans' u5 (by intro x hx; simp only [Option.mem_toList] at hx; exact .inr (N3.out _ hx)))
  have R5:=Zh ((H2.out.1.upd0 U5.out).setT (v:=v5) (td:=r.told ++ [n]) (by show w5.ownsRow 0 _ 1 v5 (r.told ++ [n]).length ((r.told ++ [n]).map (Value.int .i64)); rw [List.length_append,List.map_append]; exact o5) (by have:=HL.out; rw [List.length_append]; exact this))
  obtain ⟨_,c10,_,cf,cl⟩:=(H2.out.1.upd0 U5.out).cells
  obtain ⟨A5,c5,rfl,_,_⟩:=own_slice o5
  clear o5 u5 b5
  go_wp2_with fail
  go_end0
  refine ⟨rfl,?_⟩
  show RnPost H rb [rb,sb] ks (tell r ((0:Nat):Int) n) w _
  rw [HT.out]
  exact ⟨[rb,sb],⟨sb,_,rfl,R5.out.1⟩,frm_box (H2.out.2.trans ((U5.out.mono (by simp)).trans R5.out.2))⟩
 ·go_enter Tryz.func96,Tryz.ntmps96
  go_wp2_with (at_builtin; refine stopped ?_)
  clear y1 y2 y3 y4 y5 y6 y7 y8 y9 cf cl
  obtain ⟨W2,hW2⟩:∃ W2,W2=((((((((((w.setCell ⟨rb,1,none⟩ (.int .i64 a0)).setCell ⟨rb,2,none⟩ (.int .i64 n)).setCell ⟨rb,3,none⟩ (.int .i64 a2)).setCell ⟨rb,4,none⟩ (.int .i64 a3)).setCell ⟨rb,5,none⟩ (.int .i64 a4)).setCell ⟨rb,6,none⟩ (.int .i64 a5)).setCell ⟨rb,7,none⟩ (.int .i64 a6)).setCell ⟨rb,8,none⟩ (.int .i64 a7)).setCell ⟨rb,9,none⟩ (.int .i64 a8)).alloc (.cells #[.int .i64 a0,.int .i64 n,.int .i64 a2,.int .i64 a3,.int .i64 a4,.int .i64 a5,.int .i64 a6,.int .i64 a7,.int .i64 a8] 69)):=⟨_,rfl⟩
  have SZ:Hid (W2.heap.size=w.heap.size + 1):=Zh (by rw [hW2]; simp [World.setCell])
  have H2:Hid (RnSt H rb sb vt ks W2 { r with regs:=r.regs.set 1 n }∧Upd [rb] w W2):=Zh (by
   obtain ⟨g1,g2⟩:=HS.out.regs9 a0 n a2 a3 a4 a5 a6 a7 a8 _ rfl
   rw [hW2]
   exact ⟨(FIN.out _ _ (by rw [HR9.out]; rfl) g1 g2).upd0 ((Upd.refl [] _).alloc _),g2.alloc _⟩)
  rw [← hW2]
  clear hW2
  refine Zh ?_
  refine wpList_app _ (by rfl) (.tmp 19) (.tmp 23) _ (by rfl) elem_int _ _ (by rfl) (by rfl) (own_made (B:=0) (H:=w.heap.size + 1) 1 (by rw [← SZ.out]; exact Blk.new W2 3 #[]) (Nat.zero_le _)) (Src.of_own (own_upd0 H2.out.1.told ((Upd.refl [] W2).alloc _))) (by intro u hu; obtain ⟨x,_,rfl⟩:=List.mem_map.1 hu; rfl) (by have:=HL.out; simp only [maxLen]; omega) (by have:=HL.out; (try simp only); omega) (Nat.zero_le _) ?_
  intro v3 w3 o3 u3 b3
  have U3:Hid (Upd [] W2 w3):=Zh (((Upd.refl [] W2).alloc _).trans' u3 (by intro x hx; simp [Value.ownBlock] at hx; subst hx; exact .inr (by rw [SZ.out]; exact Nat.le_refl _)))
  have N3:Hid (∀ b,v3.ownBlock=some b→W2.heap.size≤b):=Zh (by intro b hb; have hs:=SZ.out; rcases b3 with h | h <;> rw [hb] at h <;> simp [Value.ownBlock] at h <;> omega)
  rw [Nat.zero_add,List.nil_append] at o3
  have O3:=Zh o3
  obtain ⟨A3,c3,rfl,_,_⟩:=own_slice o3
  clear o3 u3 b3
  go_wp2_with (at_builtin; refine stopped ?_)
  refine Zh ?_
  refine wpList_app _ (by rfl) (.tmp 24) (.tmp 26) _ (by rfl) elem_int _ _ (by rfl) (by rfl) (own_upd0 O3.out ((Upd.refl [] w3).alloc _)) (.of_blk (Blk.new w3 3 #[.int .i64 n]) (m:=1) 1 rfl) (by intro u hu; simp at hu; subst hu; rfl) (by have:=HL.out; simp only [maxLen]; omega) (by have:=HL.out; (try simp only); omega) (Nat.zero_le _) ?_
  intro v5 w5 o5 u5 b5
  have U5:Hid (Upd [] W2 w5):=Zh ((U3.out.alloc _).trans' u5 (by intro x hx; simp only [Option.mem_toList] at hx; exact .inr (N3.out _ hx)))
  have R5:=Zh ((H2.out.1.upd0 U5.out).setT (v:=v5) (td:=r.told ++ [n]) (by show w5.ownsRow 0 _ 1 v5 (r.told ++ [n]).length ((r.told ++ [n]).map (Value.int .i64)); rw [List.length_append,List.map_append]; exact o5) (by have:=HL.out; rw [List.length_append]; exact this))
  obtain ⟨_,c10,_,cf,cl⟩:=(H2.out.1.upd0 U5.out).cells
  obtain ⟨A5,c5,rfl,_,_⟩:=own_slice o5
  clear o5 u5 b5
  go_wp2_with fail
  go_end0
  refine ⟨rfl,?_⟩
  show RnPost H rb [rb,sb] ks (tell r ((1:Nat):Int) n) w _
  rw [HT.out]
  exact ⟨[rb,sb],⟨sb,_,rfl,R5.out.1⟩,frm_box (H2.out.2.trans ((U5.out.mono (by simp)).trans R5.out.2))⟩
 ·go_enter Tryz.func96,Tryz.ntmps96
  go_wp2_with (at_builtin; refine stopped ?_)
  clear y1 y2 y3 y4 y5 y6 y7 y8 y9 cf cl
  obtain ⟨W2,hW2⟩:∃ W2,W2=((((((((((w.setCell ⟨rb,1,none⟩ (.int .i64 a0)).setCell ⟨rb,2,none⟩ (.int .i64 a1)).setCell ⟨rb,3,none⟩ (.int .i64 n)).setCell ⟨rb,4,none⟩ (.int .i64 a3)).setCell ⟨rb,5,none⟩ (.int .i64 a4)).setCell ⟨rb,6,none⟩ (.int .i64 a5)).setCell ⟨rb,7,none⟩ (.int .i64 a6)).setCell ⟨rb,8,none⟩ (.int .i64 a7)).setCell ⟨rb,9,none⟩ (.int .i64 a8)).alloc (.cells #[.int .i64 a0,.int .i64 a1,.int .i64 n,.int .i64 a3,.int .i64 a4,.int .i64 a5,.int .i64 a6,.int .i64 a7,.int .i64 a8] 69)):=⟨_,rfl⟩
  have SZ:Hid (W2.heap.size=w.heap.size + 1):=Zh (by rw [hW2]; simp [World.setCell])
  have H2:Hid (RnSt H rb sb vt ks W2 { r with regs:=r.regs.set 2 n }∧Upd [rb] w W2):=Zh (by
   obtain ⟨g1,g2⟩:=HS.out.regs9 a0 a1 n a3 a4 a5 a6 a7 a8 _ rfl
   rw [hW2]
   exact ⟨(FIN.out _ _ (by rw [HR9.out]; rfl) g1 g2).upd0 ((Upd.refl [] _).alloc _),g2.alloc _⟩)
  rw [← hW2]
  clear hW2
  refine Zh ?_
  refine wpList_app _ (by rfl) (.tmp 19) (.tmp 23) _ (by rfl) elem_int _ _ (by rfl) (by rfl) (own_made (B:=0) (H:=w.heap.size + 1) 1 (by rw [← SZ.out]; exact Blk.new W2 3 #[]) (Nat.zero_le _)) (Src.of_own (own_upd0 H2.out.1.told ((Upd.refl [] W2).alloc _))) (by intro u hu; obtain ⟨x,_,rfl⟩:=List.mem_map.1 hu; rfl) (by have:=HL.out; simp only [maxLen]; omega) (by have:=HL.out; (try simp only); omega) (Nat.zero_le _) ?_
  intro v3 w3 o3 u3 b3
  have U3:Hid (Upd [] W2 w3):=Zh (((Upd.refl [] W2).alloc _).trans' u3 (by intro x hx; simp [Value.ownBlock] at hx; subst hx; exact .inr (by rw [SZ.out]; exact Nat.le_refl _)))
  have N3:Hid (∀ b,v3.ownBlock=some b→W2.heap.size≤b):=Zh (by intro b hb; have hs:=SZ.out; rcases b3 with h | h <;> rw [hb] at h <;> simp [Value.ownBlock] at h <;> omega)
  rw [Nat.zero_add,List.nil_append] at o3
  have O3:=Zh o3
  obtain ⟨A3,c3,rfl,_,_⟩:=own_slice o3
  clear o3 u3 b3
  go_wp2_with (at_builtin; refine stopped ?_)
  refine Zh ?_
  refine wpList_app _ (by rfl) (.tmp 24) (.tmp 26) _ (by rfl) elem_int _ _ (by rfl) (by rfl) (own_upd0 O3.out ((Upd.refl [] w3).alloc _)) (.of_blk (Blk.new w3 3 #[.int .i64 n]) (m:=1) 1 rfl) (by intro u hu; simp at hu; subst hu; rfl) (by have:=HL.out; simp only [maxLen]; omega) (by have:=HL.out; (try simp only); omega) (Nat.zero_le _) ?_
  intro v5 w5 o5 u5 b5
  have U5:Hid (Upd [] W2 w5):=Zh ((U3.out.alloc _).trans' u5 (by intro x hx; simp only [Option.mem_toList] at hx; exact .inr (N3.out _ hx)))
  have R5:=Zh ((H2.out.1.upd0 U5.out).setT (v:=v5) (td:=r.told ++ [n]) (by show w5.ownsRow 0 _ 1 v5 (r.told ++ [n]).length ((r.told ++ [n]).map (Value.int .i64)); rw [List.length_append,List.map_append]; exact o5) (by have:=HL.out; rw [List.length_append]; exact this))
  obtain ⟨_,c10,_,cf,cl⟩:=(H2.out.1.upd0 U5.out).cells
  obtain ⟨A5,c5,rfl,_,_⟩:=own_slice o5
  clear o5 u5 b5
  go_wp2_with fail
  go_end0
  refine ⟨rfl,?_⟩
  show RnPost H rb [rb,sb] ks (tell r ((2:Nat):Int) n) w _
  rw [HT.out]
  exact ⟨[rb,sb],⟨sb,_,rfl,R5.out.1⟩,frm_box (H2.out.2.trans ((U5.out.mono (by simp)).trans R5.out.2))⟩
 ·go_enter Tryz.func96,Tryz.ntmps96
  go_wp2_with (at_builtin; refine stopped ?_)
  clear y1 y2 y3 y4 y5 y6 y7 y8 y9 cf cl
  obtain ⟨W2,hW2⟩:∃ W2,W2=((((((((((w.setCell ⟨rb,1,none⟩ (.int .i64 a0)).setCell ⟨rb,2,none⟩ (.int .i64 a1)).setCell ⟨rb,3,none⟩ (.int .i64 a2)).setCell ⟨rb,4,none⟩ (.int .i64 n)).setCell ⟨rb,5,none⟩ (.int .i64 a4)).setCell ⟨rb,6,none⟩ (.int .i64 a5)).setCell ⟨rb,7,none⟩ (.int .i64 a6)).setCell ⟨rb,8,none⟩ (.int .i64 a7)).setCell ⟨rb,9,none⟩ (.int .i64 a8)).alloc (.cells #[.int .i64 a0,.int .i64 a1,.int .i64 a2,.int .i64 n,.int .i64 a4,.int .i64 a5,.int .i64 a6,.int .i64 a7,.int .i64 a8] 69)):=⟨_,rfl⟩
  have SZ:Hid (W2.heap.size=w.heap.size + 1):=Zh (by rw [hW2]; simp [World.setCell])
  have H2:Hid (RnSt H rb sb vt ks W2 { r with regs:=r.regs.set 3 n }∧Upd [rb] w W2):=Zh (by
   obtain ⟨g1,g2⟩:=HS.out.regs9 a0 a1 a2 n a4 a5 a6 a7 a8 _ rfl
   rw [hW2]
   exact ⟨(FIN.out _ _ (by rw [HR9.out]; rfl) g1 g2).upd0 ((Upd.refl [] _).alloc _),g2.alloc _⟩)
  rw [← hW2]
  clear hW2
  refine Zh ?_
  refine wpList_app _ (by rfl) (.tmp 19) (.tmp 23) _ (by rfl) elem_int _ _ (by rfl) (by rfl) (own_made (B:=0) (H:=w.heap.size + 1) 1 (by rw [← SZ.out]; exact Blk.new W2 3 #[]) (Nat.zero_le _)) (Src.of_own (own_upd0 H2.out.1.told ((Upd.refl [] W2).alloc _))) (by intro u hu; obtain ⟨x,_,rfl⟩:=List.mem_map.1 hu; rfl) (by have:=HL.out; simp only [maxLen]; omega) (by have:=HL.out; (try simp only); omega) (Nat.zero_le _) ?_
  intro v3 w3 o3 u3 b3
  have U3:Hid (Upd [] W2 w3):=Zh (((Upd.refl [] W2).alloc _).trans' u3 (by intro x hx; simp [Value.ownBlock] at hx; subst hx; exact .inr (by rw [SZ.out]; exact Nat.le_refl _)))
  have N3:Hid (∀ b,v3.ownBlock=some b→W2.heap.size≤b):=Zh (by intro b hb; have hs:=SZ.out; rcases b3 with h | h <;> rw [hb] at h <;> simp [Value.ownBlock] at h <;> omega)
  rw [Nat.zero_add,List.nil_append] at o3
  have O3:=Zh o3
  obtain ⟨A3,c3,rfl,_,_⟩:=own_slice o3
  clear o3 u3 b3
  go_wp2_with (at_builtin; refine stopped ?_)
  refine Zh ?_
  refine wpList_app _ (by rfl) (.tmp 24) (.tmp 26) _ (by rfl) elem_int _ _ (by rfl) (by rfl) (own_upd0 O3.out ((Upd.refl [] w3).alloc _)) (.of_blk (Blk.new w3 3 #[.int .i64 n]) (m:=1) 1 rfl) (by intro u hu; simp at hu; subst hu; rfl) (by have:=HL.out; simp only [maxLen]; omega) (by have:=HL.out; (try simp only); omega) (Nat.zero_le _) ?_
  intro v5 w5 o5 u5 b5
  have U5:Hid (Upd [] W2 w5):=Zh ((U3.out.alloc _).trans' u5 (by intro x hx; simp only [Option.mem_toList] at hx; exact .inr (N3.out _ hx)))
  have R5:=Zh ((H2.out.1.upd0 U5.out).setT (v:=v5) (td:=r.told ++ [n]) (by show w5.ownsRow 0 _ 1 v5 (r.told ++ [n]).length ((r.told ++ [n]).map (Value.int .i64)); rw [List.length_append,List.map_append]; exact o5) (by have:=HL.out; rw [List.length_append]; exact this))
  obtain ⟨_,c10,_,cf,cl⟩:=(H2.out.1.upd0 U5.out).cells
  obtain ⟨A5,c5,rfl,_,_⟩:=own_slice o5
  clear o5 u5 b5
  go_wp2_with fail
  go_end0
  refine ⟨rfl,?_⟩
  show RnPost H rb [rb,sb] ks (tell r ((3:Nat):Int) n) w _
  rw [HT.out]
  exact ⟨[rb,sb],⟨sb,_,rfl,R5.out.1⟩,frm_box (H2.out.2.trans ((U5.out.mono (by simp)).trans R5.out.2))⟩
 ·go_enter Tryz.func96,Tryz.ntmps96
  go_wp2_with (at_builtin; refine stopped ?_)
  clear y1 y2 y3 y4 y5 y6 y7 y8 y9 cf cl
  obtain ⟨W2,hW2⟩:∃ W2,W2=((((((((((w.setCell ⟨rb,1,none⟩ (.int .i64 a0)).setCell ⟨rb,2,none⟩ (.int .i64 a1)).setCell ⟨rb,3,none⟩ (.int .i64 a2)).setCell ⟨rb,4,none⟩ (.int .i64 a3)).setCell ⟨rb,5,none⟩ (.int .i64 n)).setCell ⟨rb,6,none⟩ (.int .i64 a5)).setCell ⟨rb,7,none⟩ (.int .i64 a6)).setCell ⟨rb,8,none⟩ (.int .i64 a7)).setCell ⟨rb,9,none⟩ (.int .i64 a8)).alloc (.cells #[.int .i64 a0,.int .i64 a1,.int .i64 a2,.int .i64 a3,.int .i64 n,.int .i64 a5,.int .i64 a6,.int .i64 a7,.int .i64 a8] 69)):=⟨_,rfl⟩
  have SZ:Hid (W2.heap.size=w.heap.size + 1):=Zh (by rw [hW2]; simp [World.setCell])
  have H2:Hid (RnSt H rb sb vt ks W2 { r with regs:=r.regs.set 4 n }∧Upd [rb] w W2):=Zh (by
   obtain ⟨g1,g2⟩:=HS.out.regs9 a0 a1 a2 a3 n a5 a6 a7 a8 _ rfl
   rw [hW2]
   exact ⟨(FIN.out _ _ (by rw [HR9.out]; rfl) g1 g2).upd0 ((Upd.refl [] _).alloc _),g2.alloc _⟩)
  rw [← hW2]
  clear hW2
  refine Zh ?_
  refine wpList_app _ (by rfl) (.tmp 19) (.tmp 23) _ (by rfl) elem_int _ _ (by rfl) (by rfl) (own_made (B:=0) (H:=w.heap.size + 1) 1 (by rw [← SZ.out]; exact Blk.new W2 3 #[]) (Nat.zero_le _)) (Src.of_own (own_upd0 H2.out.1.told ((Upd.refl [] W2).alloc _))) (by intro u hu; obtain ⟨x,_,rfl⟩:=List.mem_map.1 hu; rfl) (by have:=HL.out; simp only [maxLen]; omega) (by have:=HL.out; (try simp only); omega) (Nat.zero_le _) ?_
  intro v3 w3 o3 u3 b3
  have U3:Hid (Upd [] W2 w3):=Zh (((Upd.refl [] W2).alloc _).trans' u3 (by intro x hx; simp [Value.ownBlock] at hx; subst hx; exact .inr (by rw [SZ.out]; exact Nat.le_refl _)))
  have N3:Hid (∀ b,v3.ownBlock=some b→W2.heap.size≤b):=Zh (by intro b hb; have hs:=SZ.out; rcases b3 with h | h <;> rw [hb] at h <;> simp [Value.ownBlock] at h <;> omega)
  rw [Nat.zero_add,List.nil_append] at o3
  have O3:=Zh o3
  obtain ⟨A3,c3,rfl,_,_⟩:=own_slice o3
  clear o3 u3 b3
  go_wp2_with (at_builtin; refine stopped ?_)
  refine Zh ?_
  refine wpList_app _ (by rfl) (.tmp 24) (.tmp 26) _ (by rfl) elem_int _ _ (by rfl) (by rfl) (own_upd0 O3.out ((Upd.refl [] w3).alloc _)) (.of_blk (Blk.new w3 3 #[.int .i64 n]) (m:=1) 1 rfl) (by intro u hu; simp at hu; subst hu; rfl) (by have:=HL.out; simp only [maxLen]; omega) (by have:=HL.out; (try simp only); omega) (Nat.zero_le _) ?_
  intro v5 w5 o5 u5 b5
  have U5:Hid (Upd [] W2 w5):=Zh ((U3.out.alloc _).trans' u5 (by intro x hx; simp only [Option.mem_toList] at hx; exact .inr (N3.out _ hx)))
  have R5:=Zh ((H2.out.1.upd0 U5.out).setT (v:=v5) (td:=r.told ++ [n]) (by show w5.ownsRow 0 _ 1 v5 (r.told ++ [n]).length ((r.told ++ [n]).map (Value.int .i64)); rw [List.length_append,List.map_append]; exact o5) (by have:=HL.out; rw [List.length_append]; exact this))
  obtain ⟨_,c10,_,cf,cl⟩:=(H2.out.1.upd0 U5.out).cells
  obtain ⟨A5,c5,rfl,_,_⟩:=own_slice o5
  clear o5 u5 b5
  go_wp2_with fail
  go_end0
  refine ⟨rfl,?_⟩
  show RnPost H rb [rb,sb] ks (tell r ((4:Nat):Int) n) w _
  rw [HT.out]
  exact ⟨[rb,sb],⟨sb,_,rfl,R5.out.1⟩,frm_box (H2.out.2.trans ((U5.out.mono (by simp)).trans R5.out.2))⟩
 ·go_enter Tryz.func96,Tryz.ntmps96
  go_wp2_with (at_builtin; refine stopped ?_)
  clear y1 y2 y3 y4 y5 y6 y7 y8 y9 cf cl
  obtain ⟨W2,hW2⟩:∃ W2,W2=((((((((((w.setCell ⟨rb,1,none⟩ (.int .i64 a0)).setCell ⟨rb,2,none⟩ (.int .i64 a1)).setCell ⟨rb,3,none⟩ (.int .i64 a2)).setCell ⟨rb,4,none⟩ (.int .i64 a3)).setCell ⟨rb,5,none⟩ (.int .i64 a4)).setCell ⟨rb,6,none⟩ (.int .i64 n)).setCell ⟨rb,7,none⟩ (.int .i64 a6)).setCell ⟨rb,8,none⟩ (.int .i64 a7)).setCell ⟨rb,9,none⟩ (.int .i64 a8)).alloc (.cells #[.int .i64 a0,.int .i64 a1,.int .i64 a2,.int .i64 a3,.int .i64 a4,.int .i64 n,.int .i64 a6,.int .i64 a7,.int .i64 a8] 69)):=⟨_,rfl⟩
  have SZ:Hid (W2.heap.size=w.heap.size + 1):=Zh (by rw [hW2]; simp [World.setCell])
  have H2:Hid (RnSt H rb sb vt ks W2 { r with regs:=r.regs.set 5 n }∧Upd [rb] w W2):=Zh (by
   obtain ⟨g1,g2⟩:=HS.out.regs9 a0 a1 a2 a3 a4 n a6 a7 a8 _ rfl
   rw [hW2]
   exact ⟨(FIN.out _ _ (by rw [HR9.out]; rfl) g1 g2).upd0 ((Upd.refl [] _).alloc _),g2.alloc _⟩)
  rw [← hW2]
  clear hW2
  refine Zh ?_
  refine wpList_app _ (by rfl) (.tmp 19) (.tmp 23) _ (by rfl) elem_int _ _ (by rfl) (by rfl) (own_made (B:=0) (H:=w.heap.size + 1) 1 (by rw [← SZ.out]; exact Blk.new W2 3 #[]) (Nat.zero_le _)) (Src.of_own (own_upd0 H2.out.1.told ((Upd.refl [] W2).alloc _))) (by intro u hu; obtain ⟨x,_,rfl⟩:=List.mem_map.1 hu; rfl) (by have:=HL.out; simp only [maxLen]; omega) (by have:=HL.out; (try simp only); omega) (Nat.zero_le _) ?_
  intro v3 w3 o3 u3 b3
  have U3:Hid (Upd [] W2 w3):=Zh (((Upd.refl [] W2).alloc _).trans' u3 (by intro x hx; simp [Value.ownBlock] at hx; subst hx; exact .inr (by rw [SZ.out]; exact Nat.le_refl _)))
  have N3:Hid (∀ b,v3.ownBlock=some b→W2.heap.size≤b):=Zh (by intro b hb; have hs:=SZ.out; rcases b3 with h | h <;> rw [hb] at h <;> simp [Value.ownBlock] at h <;> omega)
  rw [Nat.zero_add,List.nil_append] at o3
  have O3:=Zh o3
  obtain ⟨A3,c3,rfl,_,_⟩:=own_slice o3
  clear o3 u3 b3
  go_wp2_with (at_builtin; refine stopped ?_)
  refine Zh ?_
  refine wpList_app _ (by rfl) (.tmp 24) (.tmp 26) _ (by rfl) elem_int _ _ (by rfl) (by rfl) (own_upd0 O3.out ((Upd.refl [] w3).alloc _)) (.of_blk (Blk.new w3 3 #[.int .i64 n]) (m:=1) 1 rfl) (by intro u hu; simp at hu; subst hu; rfl) (by have:=HL.out; simp only [maxLen]; omega) (by have:=HL.out; (try simp only); omega) (Nat.zero_le _) ?_
  intro v5 w5 o5 u5 b5
  have U5:Hid (Upd [] W2 w5):=Zh ((U3.out.alloc _).trans' u5 (by intro x hx; simp only [Option.mem_toList] at hx; exact .inr (N3.out _ hx)))
  have R5:=Zh ((H2.out.1.upd0 U5.out).setT (v:=v5) (td:=r.told ++ [n]) (by show w5.ownsRow 0 _ 1 v5 (r.told ++ [n]).length ((r.told ++ [n]).map (Value.int .i64)); rw [List.length_append,List.map_append]; exact o5) (by have:=HL.out; rw [List.length_append]; exact this))
  obtain ⟨_,c10,_,cf,cl⟩:=(H2.out.1.upd0 U5.out).cells
  obtain ⟨A5,c5,rfl,_,_⟩:=own_slice o5
  clear o5 u5 b5
  go_wp2_with fail
  go_end0
  refine ⟨rfl,?_⟩
  show RnPost H rb [rb,sb] ks (tell r ((5:Nat):Int) n) w _
  rw [HT.out]
  exact ⟨[rb,sb],⟨sb,_,rfl,R5.out.1⟩,frm_box (H2.out.2.trans ((U5.out.mono (by simp)).trans R5.out.2))⟩
 ·go_enter Tryz.func96,Tryz.ntmps96
  go_wp2_with (at_builtin; refine stopped ?_)
  clear y1 y2 y3 y4 y5 y6 y7 y8 y9 cf cl
  obtain ⟨W2,hW2⟩:∃ W2,W2=((((((((((w.setCell ⟨rb,1,none⟩ (.int .i64 a0)).setCell ⟨rb,2,none⟩ (.int .i64 a1)).setCell ⟨rb,3,none⟩ (.int .i64 a2)).setCell ⟨rb,4,none⟩ (.int .i64 a3)).setCell ⟨rb,5,none⟩ (.int .i64 a4)).setCell ⟨rb,6,none⟩ (.int .i64 a5)).setCell ⟨rb,7,none⟩ (.int .i64 n)).setCell ⟨rb,8,none⟩ (.int .i64 a7)).setCell ⟨rb,9,none⟩ (.int .i64 a8)).alloc (.cells #[.int .i64 a0,.int .i64 a1,.int .i64 a2,.int .i64 a3,.int .i64 a4,.int .i64 a5,.int .i64 n,.int .i64 a7,.int .i64 a8] 69)):=⟨_,rfl⟩
  have SZ:Hid (W2.heap.size=w.heap.size + 1):=Zh (by rw [hW2]; simp [World.setCell])
  have H2:Hid (RnSt H rb sb vt ks W2 { r with regs:=r.regs.set 6 n }∧Upd [rb] w W2):=Zh (by
   obtain ⟨g1,g2⟩:=HS.out.regs9 a0 a1 a2 a3 a4 a5 n a7 a8 _ rfl
   rw [hW2]
   exact ⟨(FIN.out _ _ (by rw [HR9.out]; rfl) g1 g2).upd0 ((Upd.refl [] _).alloc _),g2.alloc _⟩)
  rw [← hW2]
  clear hW2
  refine Zh ?_
  refine wpList_app _ (by rfl) (.tmp 19) (.tmp 23) _ (by rfl) elem_int _ _ (by rfl) (by rfl) (own_made (B:=0) (H:=w.heap.size + 1) 1 (by rw [← SZ.out]; exact Blk.new W2 3 #[]) (Nat.zero_le _)) (Src.of_own (own_upd0 H2.out.1.told ((Upd.refl [] W2).alloc _))) (by intro u hu; obtain ⟨x,_,rfl⟩:=List.mem_map.1 hu; rfl) (by have:=HL.out; simp only [maxLen]; omega) (by have:=HL.out; (try simp only); omega) (Nat.zero_le _) ?_
  intro v3 w3 o3 u3 b3
  have U3:Hid (Upd [] W2 w3):=Zh (((Upd.refl [] W2).alloc _).trans' u3 (by intro x hx; simp [Value.ownBlock] at hx; subst hx; exact .inr (by rw [SZ.out]; exact Nat.le_refl _)))
  have N3:Hid (∀ b,v3.ownBlock=some b→W2.heap.size≤b):=Zh (by intro b hb; have hs:=SZ.out; rcases b3 with h | h <;> rw [hb] at h <;> simp [Value.ownBlock] at h <;> omega)
  rw [Nat.zero_add,List.nil_append] at o3
  have O3:=Zh o3
  obtain ⟨A3,c3,rfl,_,_⟩:=own_slice o3
  clear o3 u3 b3
  go_wp2_with (at_builtin; refine stopped ?_)
  refine Zh ?_
  refine wpList_app _ (by rfl) (.tmp 24) (.tmp 26) _ (by rfl) elem_int _ _ (by rfl) (by rfl) (own_upd0 O3.out ((Upd.refl [] w3).alloc _)) (.of_blk (Blk.new w3 3 #[.int .i64 n]) (m:=1) 1 rfl) (by intro u hu; simp at hu; subst hu; rfl) (by have:=HL.out; simp only [maxLen]; omega) (by have:=HL.out; (try simp only); omega) (Nat.zero_le _) ?_
  intro v5 w5 o5 u5 b5
  have U5:Hid (Upd [] W2 w5):=Zh ((U3.out.alloc _).trans' u5 (by intro x hx; simp only [Option.mem_toList] at hx; exact .inr (N3.out _ hx)))
  have R5:=Zh ((H2.out.1.upd0 U5.out).setT (v:=v5) (td:=r.told ++ [n]) (by show w5.ownsRow 0 _ 1 v5 (r.told ++ [n]).length ((r.told ++ [n]).map (Value.int .i64)); rw [List.length_append,List.map_append]; exact o5) (by have:=HL.out; rw [List.length_append]; exact this))
  obtain ⟨_,c10,_,cf,cl⟩:=(H2.out.1.upd0 U5.out).cells
  obtain ⟨A5,c5,rfl,_,_⟩:=own_slice o5
  clear o5 u5 b5
  go_wp2_with fail
  go_end0
  refine ⟨rfl,?_⟩
  show RnPost H rb [rb,sb] ks (tell r ((6:Nat):Int) n) w _
  rw [HT.out]
  exact ⟨[rb,sb],⟨sb,_,rfl,R5.out.1⟩,frm_box (H2.out.2.trans ((U5.out.mono (by simp)).trans R5.out.2))⟩
 ·go_enter Tryz.func96,Tryz.ntmps96
  go_wp2_with (at_builtin; refine stopped ?_)
  clear y1 y2 y3 y4 y5 y6 y7 y8 y9 cf cl
  obtain ⟨W2,hW2⟩:∃ W2,W2=((((((((((w.setCell ⟨rb,1,none⟩ (.int .i64 a0)).setCell ⟨rb,2,none⟩ (.int .i64 a1)).setCell ⟨rb,3,none⟩ (.int .i64 a2)).setCell ⟨rb,4,none⟩ (.int .i64 a3)).setCell ⟨rb,5,none⟩ (.int .i64 a4)).setCell ⟨rb,6,none⟩ (.int .i64 a5)).setCell ⟨rb,7,none⟩ (.int .i64 a6)).setCell ⟨rb,8,none⟩ (.int .i64 n)).setCell ⟨rb,9,none⟩ (.int .i64 a8)).alloc (.cells #[.int .i64 a0,.int .i64 a1,.int .i64 a2,.int .i64 a3,.int .i64 a4,.int .i64 a5,.int .i64 a6,.int .i64 n,.int .i64 a8] 69)):=⟨_,rfl⟩
  have SZ:Hid (W2.heap.size=w.heap.size + 1):=Zh (by rw [hW2]; simp [World.setCell])
  have H2:Hid (RnSt H rb sb vt ks W2 { r with regs:=r.regs.set 7 n }∧Upd [rb] w W2):=Zh (by
   obtain ⟨g1,g2⟩:=HS.out.regs9 a0 a1 a2 a3 a4 a5 a6 n a8 _ rfl
   rw [hW2]
   exact ⟨(FIN.out _ _ (by rw [HR9.out]; rfl) g1 g2).upd0 ((Upd.refl [] _).alloc _),g2.alloc _⟩)
  rw [← hW2]
  clear hW2
  refine Zh ?_
  refine wpList_app _ (by rfl) (.tmp 19) (.tmp 23) _ (by rfl) elem_int _ _ (by rfl) (by rfl) (own_made (B:=0) (H:=w.heap.size + 1) 1 (by rw [← SZ.out]; exact Blk.new W2 3 #[]) (Nat.zero_le _)) (Src.of_own (own_upd0 H2.out.1.told ((Upd.refl [] W2).alloc _))) (by intro u hu; obtain ⟨x,_,rfl⟩:=List.mem_map.1 hu; rfl) (by have:=HL.out; simp only [maxLen]; omega) (by have:=HL.out; (try simp only); omega) (Nat.zero_le _) ?_
  intro v3 w3 o3 u3 b3
  have U3:Hid (Upd [] W2 w3):=Zh (((Upd.refl [] W2).alloc _).trans' u3 (by intro x hx; simp [Value.ownBlock] at hx; subst hx; exact .inr (by rw [SZ.out]; exact Nat.le_refl _)))
  have N3:Hid (∀ b,v3.ownBlock=some b→W2.heap.size≤b):=Zh (by intro b hb; have hs:=SZ.out; rcases b3 with h | h <;> rw [hb] at h <;> simp [Value.ownBlock] at h <;> omega)
  rw [Nat.zero_add,List.nil_append] at o3
  have O3:=Zh o3
  obtain ⟨A3,c3,rfl,_,_⟩:=own_slice o3
  clear o3 u3 b3
  go_wp2_with (at_builtin; refine stopped ?_)
  refine Zh ?_
  refine wpList_app _ (by rfl) (.tmp 24) (.tmp 26) _ (by rfl) elem_int _ _ (by rfl) (by rfl) (own_upd0 O3.out ((Upd.refl [] w3).alloc _)) (.of_blk (Blk.new w3 3 #[.int .i64 n]) (m:=1) 1 rfl) (by intro u hu; simp at hu; subst hu; rfl) (by have:=HL.out; simp only [maxLen]; omega) (by have:=HL.out; (try simp only); omega) (Nat.zero_le _) ?_
  intro v5 w5 o5 u5 b5
  have U5:Hid (Upd [] W2 w5):=Zh ((U3.out.alloc _).trans' u5 (by intro x hx; simp only [Option.mem_toList] at hx; exact .inr (N3.out _ hx)))
  have R5:=Zh ((H2.out.1.upd0 U5.out).setT (v:=v5) (td:=r.told ++ [n]) (by show w5.ownsRow 0 _ 1 v5 (r.told ++ [n]).length ((r.told ++ [n]).map (Value.int .i64)); rw [List.length_append,List.map_append]; exact o5) (by have:=HL.out; rw [List.length_append]; exact this))
  obtain ⟨_,c10,_,cf,cl⟩:=(H2.out.1.upd0 U5.out).cells
  obtain ⟨A5,c5,rfl,_,_⟩:=own_slice o5
  clear o5 u5 b5
  go_wp2_with fail
  go_end0
  refine ⟨rfl,?_⟩
  show RnPost H rb [rb,sb] ks (tell r ((7:Nat):Int) n) w _
  rw [HT.out]
  exact ⟨[rb,sb],⟨sb,_,rfl,R5.out.1⟩,frm_box (H2.out.2.trans ((U5.out.mono (by simp)).trans R5.out.2))⟩
 ·go_enter Tryz.func96,Tryz.ntmps96
  go_wp2_with (at_builtin; refine stopped ?_)
  clear y1 y2 y3 y4 y5 y6 y7 y8 y9 cf cl
  obtain ⟨W2,hW2⟩:∃ W2,W2=((((((((((w.setCell ⟨rb,1,none⟩ (.int .i64 a0)).setCell ⟨rb,2,none⟩ (.int .i64 a1)).setCell ⟨rb,3,none⟩ (.int .i64 a2)).setCell ⟨rb,4,none⟩ (.int .i64 a3)).setCell ⟨rb,5,none⟩ (.int .i64 a4)).setCell ⟨rb,6,none⟩ (.int .i64 a5)).setCell ⟨rb,7,none⟩ (.int .i64 a6)).setCell ⟨rb,8,none⟩ (.int .i64 a7)).setCell ⟨rb,9,none⟩ (.int .i64 n)).alloc (.cells #[.int .i64 a0,.int .i64 a1,.int .i64 a2,.int .i64 a3,.int .i64 a4,.int .i64 a5,.int .i64 a6,.int .i64 a7,.int .i64 n] 69)):=⟨_,rfl⟩
  have SZ:Hid (W2.heap.size=w.heap.size + 1):=Zh (by rw [hW2]; simp [World.setCell])
  have H2:Hid (RnSt H rb sb vt ks W2 { r with regs:=r.regs.set 8 n }∧Upd [rb] w W2):=Zh (by
   obtain ⟨g1,g2⟩:=HS.out.regs9 a0 a1 a2 a3 a4 a5 a6 a7 n _ rfl
   rw [hW2]
   exact ⟨(FIN.out _ _ (by rw [HR9.out]; rfl) g1 g2).upd0 ((Upd.refl [] _).alloc _),g2.alloc _⟩)
  rw [← hW2]
  clear hW2
  refine Zh ?_
  refine wpList_app _ (by rfl) (.tmp 19) (.tmp 23) _ (by rfl) elem_int _ _ (by rfl) (by rfl) (own_made (B:=0) (H:=w.heap.size + 1) 1 (by rw [← SZ.out]; exact Blk.new W2 3 #[]) (Nat.zero_le _)) (Src.of_own (own_upd0 H2.out.1.told ((Upd.refl [] W2).alloc _))) (by intro u hu; obtain ⟨x,_,rfl⟩:=List.mem_map.1 hu; rfl) (by have:=HL.out; simp only [maxLen]; omega) (by have:=HL.out; (try simp only); omega) (Nat.zero_le _) ?_
  intro v3 w3 o3 u3 b3
  have U3:Hid (Upd [] W2 w3):=Zh (((Upd.refl [] W2).alloc _).trans' u3 (by intro x hx; simp [Value.ownBlock] at hx; subst hx; exact .inr (by rw [SZ.out]; exact Nat.le_refl _)))
  have N3:Hid (∀ b,v3.ownBlock=some b→W2.heap.size≤b):=Zh (by intro b hb; have hs:=SZ.out; rcases b3 with h | h <;> rw [hb] at h <;> simp [Value.ownBlock] at h <;> omega)
  rw [Nat.zero_add,List.nil_append] at o3
  have O3:=Zh o3
  obtain ⟨A3,c3,rfl,_,_⟩:=own_slice o3
  clear o3 u3 b3
  go_wp2_with (at_builtin; refine stopped ?_)
  refine Zh ?_
  refine wpList_app _ (by rfl) (.tmp 24) (.tmp 26) _ (by rfl) elem_int _ _ (by rfl) (by rfl) (own_upd0 O3.out ((Upd.refl [] w3).alloc _)) (.of_blk (Blk.new w3 3 #[.int .i64 n]) (m:=1) 1 rfl) (by intro u hu; simp at hu; subst hu; rfl) (by have:=HL.out; simp only [maxLen]; omega) (by have:=HL.out; (try simp only); omega) (Nat.zero_le _) ?_
  intro v5 w5 o5 u5 b5
  have U5:Hid (Upd [] W2 w5):=Zh ((U3.out.alloc _).trans' u5 (by intro x hx; simp only [Option.mem_toList] at hx; exact .inr (N3.out _ hx)))
  have R5:=Zh ((H2.out.1.upd0 U5.out).setT (v:=v5) (td:=r.told ++ [n]) (by show w5.ownsRow 0 _ 1 v5 (r.told ++ [n]).length ((r.told ++ [n]).map (Value.int .i64)); rw [List.length_append,List.map_append]; exact o5) (by have:=HL.out; rw [List.length_append]; exact this))
  obtain ⟨_,c10,_,cf,cl⟩:=(H2.out.1.upd0 U5.out).cells
  obtain ⟨A5,c5,rfl,_,_⟩:=own_slice o5
  clear o5 u5 b5
  go_wp2_with fail
  go_end0
  refine ⟨rfl,?_⟩
  show RnPost H rb [rb,sb] ks (tell r ((8:Nat):Int) n) w _
  rw [HT.out]
  exact ⟨[rb,sb],⟨sb,_,rfl,R5.out.1⟩,frm_box (H2.out.2.trans ((U5.out.mono (by simp)).trans R5.out.2))⟩
end Go.Proofs.YtmjnmpifibemjaaGreatDoor.Rv
namespace Go.Proofs.YtmjnmpifibemjaaGreatDoor.Rv
open Go.RowKit Assoc MP Ev
attribute [local go_sem] litStep_value
theorem RnSt.setM {H rb sb:Nat} {vt:Value} {ks:List Int} {w w':World} {r:RS} {s':MS} (h:RnSt H rb sb vt ks w r) (hm:RSt sb w' s') (hu:Upd [sb] w w') (hK:s'.K=r.s.K) :
 RnSt H rb sb vt ks w' { r with s:=s' }∧Frm [rb,sb] [rb,sb] w w' :=
 ⟨⟨h.blk.upd hu (by simp; exact h.ne),hm,own_odd h.told (.inl rfl) hu (fun k hk => by simp at hk; subst hk; exact h.st.oddB),h.lowR,h.lowS,⟨hK.trans h.ok.K,h.ok.regs,h.ok.steps,h.ok.told⟩⟩,⟨hu.mono (fun x hx => .inl (by simp at hx; subst hx; simp)),fun k hk => .inl hk⟩⟩
theorem RSt.at_ {sb:Nat} {w:World} {s:MS} (h:RSt sb w s) {i:Nat} (hi:i < s.L.length):∃ gl N cl Ai ci,i < N∧N≤8∧∀ W,Upd [] w W→W.cell? ⟨sb,1,none⟩=some (.slice (some ⟨gl,0,none⟩) N cl)∧W.cell? ⟨gl,i,none⟩=some (.slice Ai (coll s i).length ci)∧Ow encPr 157 W 0 (.slice Ai (coll s i).length ci) (coll s i):=by
 obtain ⟨F,g,vk,vl,ms,rfl,h⟩:=h
 obtain ⟨gl,cl,Ai,ci,rfl,h1,h2,h3⟩:=h.at_ hi
 refine ⟨gl,s.L.length,cl,Ai,ci,hi,by rw [← g.kl]; exact g.k8,fun W hW => ⟨(h.box.upd hW (by simp)).cell 1,own_cell (own_upd0 h.l hW) i _ h3,own_upd0 h2 hW⟩⟩
theorem ask_get1 {H rb:Nat} {F:List Nat} {ks:List Int} {r:RS} (c reg ar an br bn:Int) (vb ve:Value) (w:World) (h:Rn H rb F ks w r) (hc:isC r.s c=true) (h0:0≤reg) (h8:reg≤8) (ha:0≤ar∧ar≤8) (hb:0≤br∧br≤8) (hk3:True) (hl:r.told.length + 1≤201 * 1000) (g:Int) (hg:get (coll r.s c.toNat) (keyV r ar an)=some g) :
 Calls Tryz.prog 79 #[.pointer (some ⟨rb,0,none⟩),.agg #[.int .i64 1,.int .i64 c,.int .i64 reg,.int .i64 ar,.int .i64 an,.int .i64 br,.int .i64 bn,vb,ve]] w fun e w' => e=.returned (.int .i64 0)∧RnPost H rb F ks (tell r reg g) w w':=by
 have HL:=Zh (And.intro (And.intro h0 h8) hl)
 have H3:=Zh hk3
 clear h0 h8 hk3 hl
 have HG0:=Zh hg
 clear hg
 have HR:=Zh h
 obtain ⟨sb,vt,hF,h⟩:=h
 have HFE:Hid ([rb,sb]=F):=Zh hF.symm
 have HST:=Zh h
 have HM:Hid (∀ W,Upd [] w W→(∃ FM,RMdl 0 sb FM W r.s)∧W.cell? ⟨rb,0,none⟩=some (.pointer (some ⟨sb,0,none⟩))):=Zh (fun W hu => ⟨(HST.out.upd0 hu).st,(HST.out.upd0 hu).cells.1⟩)
 have HC:=Zh hc
 have HAB:=Zh (And.intro ha hb)
 have hrb:=h.blk.lt
 have hsb:=h.st.lt
 obtain ⟨z,hz⟩:∃ z,keyV r ar an=z:=⟨_,rfl⟩
 have HZ:Hid (modI (argV r ar an) 64=z):=Zh hz
 have HZK:=Zh hz
 obtain ⟨y,hy⟩:∃ y,keyV r br bn=y:=⟨_,rfl⟩
 have HY:Hid (modI (argV r br bn) 64=y):=Zh hy
 have HYK:=Zh hy
 clear hz hy hF h hc ha hb
 have XB:Hid (Blk (w.alloc (.cells #[.int .i64 1,.int .i64 c,.int .i64 reg,.int .i64 ar,.int .i64 an,.int .i64 br,.int .i64 bn,vb,ve] 62)) w.heap.size 62 #[.int .i64 1,.int .i64 c,.int .i64 reg,.int .i64 ar,.int .i64 an,.int .i64 br,.int .i64 bn,vb,ve]):=Zh (Blk.new w _ _)
 have UA:Hid (Upd [] w (w.alloc (.cells #[.int .i64 1,.int .i64 c,.int .i64 reg,.int .i64 ar,.int .i64 an,.int .i64 br,.int .i64 bn,vb,ve] 62))):=Zh ((Upd.refl [] w).alloc _)
 go_enter Tryz.func79,Tryz.ntmps79
 go_wp2_with fail
 generalize (w.alloc (.cells #[.int .i64 1,.int .i64 c,.int .i64 reg,.int .i64 ar,.int .i64 an,.int .i64 br,.int .i64 bn,vb,ve] 62))=w1 at *
 refine (arg_r ar an w1 (HR.out.upd0 UA.out) HAB.out.1).mono ?_
 rintro e wa ⟨rfl,ua⟩
 have XA:=Zh (XB.out.upd ua (by simp))
 have UU:=Zh (UA.out.trans ua)
 have x5:wa.cell? ⟨w.heap.size,5,none⟩=some (.int .i64 br):=XA.out.cell 5
 have x6:wa.cell? ⟨w.heap.size,6,none⟩=some (.int .i64 bn):=XA.out.cell 6
 clear ua
 go_wp2_with fail
 refine (mod_r (argV r ar an) 64 wa (by omega) (by omega)).mono ?_
 rintro e _ ⟨rfl,rfl⟩
 rw [HZ.out]
 go_wp2_with fail
 refine (arg_r br bn wa (HR.out.upd0 UU.out) HAB.out.2).mono ?_
 rintro e w2 ⟨rfl,ub⟩
 have X2:=Zh (XA.out.upd ub (by simp))
 have U2:=Zh (UU.out.trans ub)
 clear ub x5 x6
 go_wp2_with fail
 refine (mod_r (argV r br bn) 64 w2 (by omega) (by omega)).mono ?_
 rintro e _ ⟨rfl,rfl⟩
 rw [HY.out]
 have x0:w2.cell? ⟨w.heap.size,0,none⟩=some (.int .i64 1):=X2.out.cell 0
 go_wp2_with fail
 clear x0
 have CS:Hid (∀ W,Upd [] w2.drew W→W.cell? ⟨w.heap.size,1,none⟩=some (.int .i64 c)∧W.cell? ⟨w.heap.size,2,none⟩=some (.int .i64 reg)∧W.cell? ⟨w.heap.size,5,none⟩=some (.int .i64 br)∧W.cell? ⟨w.heap.size,6,none⟩=some (.int .i64 bn)∧W.cell? ⟨rb,0,none⟩=some (.pointer (some ⟨sb,0,none⟩))):=Zh (fun W hW => by
  have hu:=(Upd.refl [] w2).drew.trans hW
  have hb:=X2.out.upd hu (by simp)
  exact ⟨hb.cell 1,hb.cell 2,hb.cell 5,hb.cell 6,(HM.out W (U2.out.trans hu)).2⟩)
 have HG:Hid (get (coll r.s c.toNat) z=some g):=Zh (by rw [← HZK.out]; exact HG0.out)
 refine wp_invN [(7,.det (.tuple #[.int .i64 g,.bool true,.int .i64 0]))] [] (by kernel_rfl) (by kernel_rfl) (by kernel_rfl) ⟨lasts_det _,trivial⟩ ?_
 iterate 7 (
  with_reducible apply wpV_light
  ·simp only [lightOp]
  ·intro W hU hF
   have f0:=CS.out W hU
   clear hU hF
   go_simp
   exact rfl
  simp only [aP])
 refine wpV_heavy (by simp only [lightOp]) (by rfl) (fun W hU hk hF K hK => ?_) ?_
 ·go_wp2_with fail
  obtain ⟨FM,hm⟩:=(HM.out W (U2.out.trans ((Upd.refl [] w2).drew.trans hU))).1
  refine (rm_get 0 sb FM r.s c z W hm).mono ?_
  rintro e wx ⟨rfl,rfl⟩
  simp only [HC.out,HG.out,Option.getD_some,Option.isSome_some,Option.getD_none,Option.isSome_none,if_true]
  go_wp2_with fail
  exact hK.out _ _ (outV_new rfl rfl (by intro b hb; cases hb) (.refl _ _))
 rintro _ rfl
 simp only [aP]
 iterate 7 (
  with_reducible apply wpV_light
  ·simp only [lightOp]
  ·intro W hU hF
   have f0:=CS.out W hU
   clear hU hF
   go_simp
   exact rfl
  simp only [aP])
 refine wpV_end (fun W hU _ hF => ?_)
 have UX:Hid (Upd [] w W):=Zh (U2.out.trans ((Upd.refl [] w2).drew.trans hU))
 have BX:Hid (Blk W w.heap.size 62 _):=Zh (X2.out.upd ((Upd.refl [] w2).drew.trans hU) (by simp))
 have e0:W.cell? ⟨w.heap.size,0,none⟩=some (.int .i64 1):=BX.out.cell 0
 have e2:W.cell? ⟨w.heap.size,2,none⟩=some (.int .i64 reg):=BX.out.cell 2
 clear hU hF
 refine wpT_end ?_
 go_wp2_with fail
 refine (tell_r reg g W (HR.out.upd0 UX.out) HL.out.1.1 HL.out.1.2 HL.out.2).mono ?_
 rintro e w4 ⟨rfl,hp⟩
 have HP:=Zh (hp.pre UX.out)
 clear hp e0 e2
 go_wp2_with fail
 go_ret
 exact ⟨rfl,HP.out⟩
theorem ask_get0 {H rb:Nat} {F:List Nat} {ks:List Int} {r:RS} (c reg ar an br bn:Int) (vb ve:Value) (w:World) (h:Rn H rb F ks w r) (hc:isC r.s c=true) (h0:0≤reg) (h8:reg≤8) (ha:0≤ar∧ar≤8) (hb:0≤br∧br≤8) (hk3:True) (hl:r.told.length + 1≤201 * 1000) (hg:get (coll r.s c.toNat) (keyV r ar an)=none) :
 Calls Tryz.prog 79 #[.pointer (some ⟨rb,0,none⟩),.agg #[.int .i64 1,.int .i64 c,.int .i64 reg,.int .i64 ar,.int .i64 an,.int .i64 br,.int .i64 bn,vb,ve]] w fun e w' => e=.returned (.int .i64 0)∧RnPost H rb F ks (tell r reg (-1)) w w':=by
 have HL:=Zh (And.intro (And.intro h0 h8) hl)
 have H3:=Zh hk3
 clear h0 h8 hk3 hl
 have HG0:=Zh hg
 clear hg
 have HR:=Zh h
 obtain ⟨sb,vt,hF,h⟩:=h
 have HFE:Hid ([rb,sb]=F):=Zh hF.symm
 have HST:=Zh h
 have HM:Hid (∀ W,Upd [] w W→(∃ FM,RMdl 0 sb FM W r.s)∧W.cell? ⟨rb,0,none⟩=some (.pointer (some ⟨sb,0,none⟩))):=Zh (fun W hu => ⟨(HST.out.upd0 hu).st,(HST.out.upd0 hu).cells.1⟩)
 have HC:=Zh hc
 have HAB:=Zh (And.intro ha hb)
 have hrb:=h.blk.lt
 have hsb:=h.st.lt
 obtain ⟨z,hz⟩:∃ z,keyV r ar an=z:=⟨_,rfl⟩
 have HZ:Hid (modI (argV r ar an) 64=z):=Zh hz
 have HZK:=Zh hz
 obtain ⟨y,hy⟩:∃ y,keyV r br bn=y:=⟨_,rfl⟩
 have HY:Hid (modI (argV r br bn) 64=y):=Zh hy
 have HYK:=Zh hy
 clear hz hy hF h hc ha hb
 have XB:Hid (Blk (w.alloc (.cells #[.int .i64 1,.int .i64 c,.int .i64 reg,.int .i64 ar,.int .i64 an,.int .i64 br,.int .i64 bn,vb,ve] 62)) w.heap.size 62 #[.int .i64 1,.int .i64 c,.int .i64 reg,.int .i64 ar,.int .i64 an,.int .i64 br,.int .i64 bn,vb,ve]):=Zh (Blk.new w _ _)
 have UA:Hid (Upd [] w (w.alloc (.cells #[.int .i64 1,.int .i64 c,.int .i64 reg,.int .i64 ar,.int .i64 an,.int .i64 br,.int .i64 bn,vb,ve] 62))):=Zh ((Upd.refl [] w).alloc _)
 go_enter Tryz.func79,Tryz.ntmps79
 go_wp2_with fail
 generalize (w.alloc (.cells #[.int .i64 1,.int .i64 c,.int .i64 reg,.int .i64 ar,.int .i64 an,.int .i64 br,.int .i64 bn,vb,ve] 62))=w1 at *
 refine (arg_r ar an w1 (HR.out.upd0 UA.out) HAB.out.1).mono ?_
 rintro e wa ⟨rfl,ua⟩
 have XA:=Zh (XB.out.upd ua (by simp))
 have UU:=Zh (UA.out.trans ua)
 have x5:wa.cell? ⟨w.heap.size,5,none⟩=some (.int .i64 br):=XA.out.cell 5
 have x6:wa.cell? ⟨w.heap.size,6,none⟩=some (.int .i64 bn):=XA.out.cell 6
 clear ua
 go_wp2_with fail
 refine (mod_r (argV r ar an) 64 wa (by omega) (by omega)).mono ?_
 rintro e _ ⟨rfl,rfl⟩
 rw [HZ.out]
 go_wp2_with fail
 refine (arg_r br bn wa (HR.out.upd0 UU.out) HAB.out.2).mono ?_
 rintro e w2 ⟨rfl,ub⟩
 have X2:=Zh (XA.out.upd ub (by simp))
 have U2:=Zh (UU.out.trans ub)
 clear ub x5 x6
 go_wp2_with fail
 refine (mod_r (argV r br bn) 64 w2 (by omega) (by omega)).mono ?_
 rintro e _ ⟨rfl,rfl⟩
 rw [HY.out]
 have x0:w2.cell? ⟨w.heap.size,0,none⟩=some (.int .i64 1):=X2.out.cell 0
 go_wp2_with fail
 clear x0
 have CS:Hid (∀ W,Upd [] w2.drew W→W.cell? ⟨w.heap.size,1,none⟩=some (.int .i64 c)∧W.cell? ⟨w.heap.size,2,none⟩=some (.int .i64 reg)∧W.cell? ⟨w.heap.size,5,none⟩=some (.int .i64 br)∧W.cell? ⟨w.heap.size,6,none⟩=some (.int .i64 bn)∧W.cell? ⟨rb,0,none⟩=some (.pointer (some ⟨sb,0,none⟩))):=Zh (fun W hW => by
  have hu:=(Upd.refl [] w2).drew.trans hW
  have hb:=X2.out.upd hu (by simp)
  exact ⟨hb.cell 1,hb.cell 2,hb.cell 5,hb.cell 6,(HM.out W (U2.out.trans hu)).2⟩)
 have HG:Hid (get (coll r.s c.toNat) z=none):=Zh (by rw [← HZK.out]; exact HG0.out)
 refine wp_invN [(7,.det (.tuple #[.int .i64 0,.bool false,.int .i64 0]))] [] (by kernel_rfl) (by kernel_rfl) (by kernel_rfl) ⟨lasts_det _,trivial⟩ ?_
 iterate 7 (
  with_reducible apply wpV_light
  ·simp only [lightOp]
  ·intro W hU hF
   have f0:=CS.out W hU
   clear hU hF
   go_simp
   exact rfl
  simp only [aP])
 refine wpV_heavy (by simp only [lightOp]) (by rfl) (fun W hU hk hF K hK => ?_) ?_
 ·go_wp2_with fail
  obtain ⟨FM,hm⟩:=(HM.out W (U2.out.trans ((Upd.refl [] w2).drew.trans hU))).1
  refine (rm_get 0 sb FM r.s c z W hm).mono ?_
  rintro e wx ⟨rfl,rfl⟩
  simp only [HC.out,HG.out,Option.getD_some,Option.isSome_some,Option.getD_none,Option.isSome_none,if_true]
  go_wp2_with fail
  exact hK.out _ _ (outV_new rfl rfl (by intro b hb; cases hb) (.refl _ _))
 rintro _ rfl
 simp only [aP]
 iterate 7 (
  with_reducible apply wpV_light
  ·simp only [lightOp]
  ·intro W hU hF
   have f0:=CS.out W hU
   clear hU hF
   go_simp
   exact rfl
  simp only [aP])
 refine wpV_end (fun W hU _ hF => ?_)
 have UX:Hid (Upd [] w W):=Zh (U2.out.trans ((Upd.refl [] w2).drew.trans hU))
 have BX:Hid (Blk W w.heap.size 62 _):=Zh (X2.out.upd ((Upd.refl [] w2).drew.trans hU) (by simp))
 have e0:W.cell? ⟨w.heap.size,0,none⟩=some (.int .i64 1):=BX.out.cell 0
 have e2:W.cell? ⟨w.heap.size,2,none⟩=some (.int .i64 reg):=BX.out.cell 2
 clear hU hF
 refine wpT_end ?_
 go_wp2_with fail
 refine (tell_r reg (-1) W (HR.out.upd0 UX.out) HL.out.1.1 HL.out.1.2 HL.out.2).mono ?_
 rintro e w4 ⟨rfl,hp⟩
 have HP:=Zh (hp.pre UX.out)
 clear hp e0 e2
 go_wp2_with fail
 go_ret
 exact ⟨rfl,HP.out⟩
theorem ask_has1 {H rb:Nat} {F:List Nat} {ks:List Int} {r:RS} (c reg ar an br bn:Int) (vb ve:Value) (w:World) (h:Rn H rb F ks w r) (hc:isC r.s c=true) (h0:0≤reg) (h8:reg≤8) (ha:0≤ar∧ar≤8) (hb:0≤br∧br≤8) (hk3:True) (hl:r.told.length + 1≤201 * 1000) (g:Int) (hg:get (coll r.s c.toNat) (keyV r ar an)=some g) :
 Calls Tryz.prog 79 #[.pointer (some ⟨rb,0,none⟩),.agg #[.int .i64 4,.int .i64 c,.int .i64 reg,.int .i64 ar,.int .i64 an,.int .i64 br,.int .i64 bn,vb,ve]] w fun e w' => e=.returned (.int .i64 0)∧RnPost H rb F ks (tell r reg 1) w w':=by
 have HL:=Zh (And.intro (And.intro h0 h8) hl)
 have H3:=Zh hk3
 clear h0 h8 hk3 hl
 have HG0:=Zh hg
 clear hg
 have HR:=Zh h
 obtain ⟨sb,vt,hF,h⟩:=h
 have HFE:Hid ([rb,sb]=F):=Zh hF.symm
 have HST:=Zh h
 have HM:Hid (∀ W,Upd [] w W→(∃ FM,RMdl 0 sb FM W r.s)∧W.cell? ⟨rb,0,none⟩=some (.pointer (some ⟨sb,0,none⟩))):=Zh (fun W hu => ⟨(HST.out.upd0 hu).st,(HST.out.upd0 hu).cells.1⟩)
 have HC:=Zh hc
 have HAB:=Zh (And.intro ha hb)
 have hrb:=h.blk.lt
 have hsb:=h.st.lt
 obtain ⟨z,hz⟩:∃ z,keyV r ar an=z:=⟨_,rfl⟩
 have HZ:Hid (modI (argV r ar an) 64=z):=Zh hz
 have HZK:=Zh hz
 obtain ⟨y,hy⟩:∃ y,keyV r br bn=y:=⟨_,rfl⟩
 have HY:Hid (modI (argV r br bn) 64=y):=Zh hy
 have HYK:=Zh hy
 clear hz hy hF h hc ha hb
 have XB:Hid (Blk (w.alloc (.cells #[.int .i64 4,.int .i64 c,.int .i64 reg,.int .i64 ar,.int .i64 an,.int .i64 br,.int .i64 bn,vb,ve] 62)) w.heap.size 62 #[.int .i64 4,.int .i64 c,.int .i64 reg,.int .i64 ar,.int .i64 an,.int .i64 br,.int .i64 bn,vb,ve]):=Zh (Blk.new w _ _)
 have UA:Hid (Upd [] w (w.alloc (.cells #[.int .i64 4,.int .i64 c,.int .i64 reg,.int .i64 ar,.int .i64 an,.int .i64 br,.int .i64 bn,vb,ve] 62))):=Zh ((Upd.refl [] w).alloc _)
 go_enter Tryz.func79,Tryz.ntmps79
 go_wp2_with fail
 generalize (w.alloc (.cells #[.int .i64 4,.int .i64 c,.int .i64 reg,.int .i64 ar,.int .i64 an,.int .i64 br,.int .i64 bn,vb,ve] 62))=w1 at *
 refine (arg_r ar an w1 (HR.out.upd0 UA.out) HAB.out.1).mono ?_
 rintro e wa ⟨rfl,ua⟩
 have XA:=Zh (XB.out.upd ua (by simp))
 have UU:=Zh (UA.out.trans ua)
 have x5:wa.cell? ⟨w.heap.size,5,none⟩=some (.int .i64 br):=XA.out.cell 5
 have x6:wa.cell? ⟨w.heap.size,6,none⟩=some (.int .i64 bn):=XA.out.cell 6
 clear ua
 go_wp2_with fail
 refine (mod_r (argV r ar an) 64 wa (by omega) (by omega)).mono ?_
 rintro e _ ⟨rfl,rfl⟩
 rw [HZ.out]
 go_wp2_with fail
 refine (arg_r br bn wa (HR.out.upd0 UU.out) HAB.out.2).mono ?_
 rintro e w2 ⟨rfl,ub⟩
 have X2:=Zh (XA.out.upd ub (by simp))
 have U2:=Zh (UU.out.trans ub)
 clear ub x5 x6
 go_wp2_with fail
 refine (mod_r (argV r br bn) 64 w2 (by omega) (by omega)).mono ?_
 rintro e _ ⟨rfl,rfl⟩
 rw [HY.out]
 have x0:w2.cell? ⟨w.heap.size,0,none⟩=some (.int .i64 4):=X2.out.cell 0
 go_wp2_with fail
 clear x0
 have CS:Hid (∀ W,Upd [] w2.drew W→W.cell? ⟨w.heap.size,1,none⟩=some (.int .i64 c)∧W.cell? ⟨w.heap.size,2,none⟩=some (.int .i64 reg)∧W.cell? ⟨w.heap.size,5,none⟩=some (.int .i64 br)∧W.cell? ⟨w.heap.size,6,none⟩=some (.int .i64 bn)∧W.cell? ⟨rb,0,none⟩=some (.pointer (some ⟨sb,0,none⟩))):=Zh (fun W hW => by
  have hu:=(Upd.refl [] w2).drew.trans hW
  have hb:=X2.out.upd hu (by simp)
  exact ⟨hb.cell 1,hb.cell 2,hb.cell 5,hb.cell 6,(HM.out W (U2.out.trans hu)).2⟩)
 have HG:Hid (get (coll r.s c.toNat) z=some g):=Zh (by rw [← HZK.out]; exact HG0.out)
 refine wp_invN [(7,.det (.tuple #[.int .i64 g,.bool true,.int .i64 0]))] [] (by kernel_rfl) (by kernel_rfl) (by kernel_rfl) ⟨lasts_det _,trivial⟩ ?_
 iterate 7 (
  with_reducible apply wpV_light
  ·simp only [lightOp]
  ·intro W hU hF
   have f0:=CS.out W hU
   clear hU hF
   go_simp
   exact rfl
  simp only [aP])
 refine wpV_heavy (by simp only [lightOp]) (by rfl) (fun W hU hk hF K hK => ?_) ?_
 ·go_wp2_with fail
  obtain ⟨FM,hm⟩:=(HM.out W (U2.out.trans ((Upd.refl [] w2).drew.trans hU))).1
  refine (rm_get 0 sb FM r.s c z W hm).mono ?_
  rintro e wx ⟨rfl,rfl⟩
  simp only [HC.out,HG.out,Option.getD_some,Option.isSome_some,Option.getD_none,Option.isSome_none,if_true]
  go_wp2_with fail
  exact hK.out _ _ (outV_new rfl rfl (by intro b hb; cases hb) (.refl _ _))
 rintro _ rfl
 simp only [aP]
 iterate 7 (
  with_reducible apply wpV_light
  ·simp only [lightOp]
  ·intro W hU hF
   have f0:=CS.out W hU
   clear hU hF
   go_simp
   exact rfl
  simp only [aP])
 refine wpV_end (fun W hU _ hF => ?_)
 have UX:Hid (Upd [] w W):=Zh (U2.out.trans ((Upd.refl [] w2).drew.trans hU))
 have BX:Hid (Blk W w.heap.size 62 _):=Zh (X2.out.upd ((Upd.refl [] w2).drew.trans hU) (by simp))
 have e0:W.cell? ⟨w.heap.size,0,none⟩=some (.int .i64 4):=BX.out.cell 0
 have e2:W.cell? ⟨w.heap.size,2,none⟩=some (.int .i64 reg):=BX.out.cell 2
 clear hU hF
 refine wpT_end ?_
 go_wp2_with fail
 refine (tell_r reg 1 W (HR.out.upd0 UX.out) HL.out.1.1 HL.out.1.2 HL.out.2).mono ?_
 rintro e w4 ⟨rfl,hp⟩
 have HP:=Zh (hp.pre UX.out)
 clear hp e0 e2
 go_wp2_with fail
 go_ret
 exact ⟨rfl,HP.out⟩
theorem ask_has0 {H rb:Nat} {F:List Nat} {ks:List Int} {r:RS} (c reg ar an br bn:Int) (vb ve:Value) (w:World) (h:Rn H rb F ks w r) (hc:isC r.s c=true) (h0:0≤reg) (h8:reg≤8) (ha:0≤ar∧ar≤8) (hb:0≤br∧br≤8) (hk3:True) (hl:r.told.length + 1≤201 * 1000) (hg:get (coll r.s c.toNat) (keyV r ar an)=none) :
 Calls Tryz.prog 79 #[.pointer (some ⟨rb,0,none⟩),.agg #[.int .i64 4,.int .i64 c,.int .i64 reg,.int .i64 ar,.int .i64 an,.int .i64 br,.int .i64 bn,vb,ve]] w fun e w' => e=.returned (.int .i64 0)∧RnPost H rb F ks (tell r reg 0) w w':=by
 have HL:=Zh (And.intro (And.intro h0 h8) hl)
 have H3:=Zh hk3
 clear h0 h8 hk3 hl
 have HG0:=Zh hg
 clear hg
 have HR:=Zh h
 obtain ⟨sb,vt,hF,h⟩:=h
 have HFE:Hid ([rb,sb]=F):=Zh hF.symm
 have HST:=Zh h
 have HM:Hid (∀ W,Upd [] w W→(∃ FM,RMdl 0 sb FM W r.s)∧W.cell? ⟨rb,0,none⟩=some (.pointer (some ⟨sb,0,none⟩))):=Zh (fun W hu => ⟨(HST.out.upd0 hu).st,(HST.out.upd0 hu).cells.1⟩)
 have HC:=Zh hc
 have HAB:=Zh (And.intro ha hb)
 have hrb:=h.blk.lt
 have hsb:=h.st.lt
 obtain ⟨z,hz⟩:∃ z,keyV r ar an=z:=⟨_,rfl⟩
 have HZ:Hid (modI (argV r ar an) 64=z):=Zh hz
 have HZK:=Zh hz
 obtain ⟨y,hy⟩:∃ y,keyV r br bn=y:=⟨_,rfl⟩
 have HY:Hid (modI (argV r br bn) 64=y):=Zh hy
 have HYK:=Zh hy
 clear hz hy hF h hc ha hb
 have XB:Hid (Blk (w.alloc (.cells #[.int .i64 4,.int .i64 c,.int .i64 reg,.int .i64 ar,.int .i64 an,.int .i64 br,.int .i64 bn,vb,ve] 62)) w.heap.size 62 #[.int .i64 4,.int .i64 c,.int .i64 reg,.int .i64 ar,.int .i64 an,.int .i64 br,.int .i64 bn,vb,ve]):=Zh (Blk.new w _ _)
 have UA:Hid (Upd [] w (w.alloc (.cells #[.int .i64 4,.int .i64 c,.int .i64 reg,.int .i64 ar,.int .i64 an,.int .i64 br,.int .i64 bn,vb,ve] 62))):=Zh ((Upd.refl [] w).alloc _)
 go_enter Tryz.func79,Tryz.ntmps79
 go_wp2_with fail
 generalize (w.alloc (.cells #[.int .i64 4,.int .i64 c,.int .i64 reg,.int .i64 ar,.int .i64 an,.int .i64 br,.int .i64 bn,vb,ve] 62))=w1 at *
 refine (arg_r ar an w1 (HR.out.upd0 UA.out) HAB.out.1).mono ?_
 rintro e wa ⟨rfl,ua⟩
 have XA:=Zh (XB.out.upd ua (by simp))
 have UU:=Zh (UA.out.trans ua)
 have x5:wa.cell? ⟨w.heap.size,5,none⟩=some (.int .i64 br):=XA.out.cell 5
 have x6:wa.cell? ⟨w.heap.size,6,none⟩=some (.int .i64 bn):=XA.out.cell 6
 clear ua
 go_wp2_with fail
 refine (mod_r (argV r ar an) 64 wa (by omega) (by omega)).mono ?_
 rintro e _ ⟨rfl,rfl⟩
 rw [HZ.out]
 go_wp2_with fail
 refine (arg_r br bn wa (HR.out.upd0 UU.out) HAB.out.2).mono ?_
 rintro e w2 ⟨rfl,ub⟩
 have X2:=Zh (XA.out.upd ub (by simp))
 have U2:=Zh (UU.out.trans ub)
 clear ub x5 x6
 go_wp2_with fail
 refine (mod_r (argV r br bn) 64 w2 (by omega) (by omega)).mono ?_
 rintro e _ ⟨rfl,rfl⟩
 rw [HY.out]
 have x0:w2.cell? ⟨w.heap.size,0,none⟩=some (.int .i64 4):=X2.out.cell 0
 go_wp2_with fail
 clear x0
 have CS:Hid (∀ W,Upd [] w2.drew W→W.cell? ⟨w.heap.size,1,none⟩=some (.int .i64 c)∧W.cell? ⟨w.heap.size,2,none⟩=some (.int .i64 reg)∧W.cell? ⟨w.heap.size,5,none⟩=some (.int .i64 br)∧W.cell? ⟨w.heap.size,6,none⟩=some (.int .i64 bn)∧W.cell? ⟨rb,0,none⟩=some (.pointer (some ⟨sb,0,none⟩))):=Zh (fun W hW => by
  have hu:=(Upd.refl [] w2).drew.trans hW
  have hb:=X2.out.upd hu (by simp)
  exact ⟨hb.cell 1,hb.cell 2,hb.cell 5,hb.cell 6,(HM.out W (U2.out.trans hu)).2⟩)
 have HG:Hid (get (coll r.s c.toNat) z=none):=Zh (by rw [← HZK.out]; exact HG0.out)
 refine wp_invN [(7,.det (.tuple #[.int .i64 0,.bool false,.int .i64 0]))] [] (by kernel_rfl) (by kernel_rfl) (by kernel_rfl) ⟨lasts_det _,trivial⟩ ?_
 iterate 7 (
  with_reducible apply wpV_light
  ·simp only [lightOp]
  ·intro W hU hF
   have f0:=CS.out W hU
   clear hU hF
   go_simp
   exact rfl
  simp only [aP])
 refine wpV_heavy (by simp only [lightOp]) (by rfl) (fun W hU hk hF K hK => ?_) ?_
 ·go_wp2_with fail
  obtain ⟨FM,hm⟩:=(HM.out W (U2.out.trans ((Upd.refl [] w2).drew.trans hU))).1
  refine (rm_get 0 sb FM r.s c z W hm).mono ?_
  rintro e wx ⟨rfl,rfl⟩
  simp only [HC.out,HG.out,Option.getD_some,Option.isSome_some,Option.getD_none,Option.isSome_none,if_true]
  go_wp2_with fail
  exact hK.out _ _ (outV_new rfl rfl (by intro b hb; cases hb) (.refl _ _))
 rintro _ rfl
 simp only [aP]
 iterate 7 (
  with_reducible apply wpV_light
  ·simp only [lightOp]
  ·intro W hU hF
   have f0:=CS.out W hU
   clear hU hF
   go_simp
   exact rfl
  simp only [aP])
 refine wpV_end (fun W hU _ hF => ?_)
 have UX:Hid (Upd [] w W):=Zh (U2.out.trans ((Upd.refl [] w2).drew.trans hU))
 have BX:Hid (Blk W w.heap.size 62 _):=Zh (X2.out.upd ((Upd.refl [] w2).drew.trans hU) (by simp))
 have e0:W.cell? ⟨w.heap.size,0,none⟩=some (.int .i64 4):=BX.out.cell 0
 have e2:W.cell? ⟨w.heap.size,2,none⟩=some (.int .i64 reg):=BX.out.cell 2
 clear hU hF
 refine wpT_end ?_
 go_wp2_with fail
 refine (tell_r reg 0 W (HR.out.upd0 UX.out) HL.out.1.1 HL.out.1.2 HL.out.2).mono ?_
 rintro e w4 ⟨rfl,hp⟩
 have HP:=Zh (hp.pre UX.out)
 clear hp e0 e2
 go_wp2_with fail
 go_ret
 exact ⟨rfl,HP.out⟩
theorem ask_ceil1 {H rb:Nat} {F:List Nat} {ks:List Int} {r:RS} (c reg ar an br bn:Int) (vb ve:Value) (w:World) (h:Rn H rb F ks w r) (hc:isC r.s c=true) (h0:0≤reg) (h8:reg≤8) (ha:0≤ar∧ar≤8) (hb:0≤br∧br≤8) (hk3:oErr r.s c=0) (hl:r.told.length + 1≤201 * 1000) (g:Int) (hg:ceilL (coll r.s c.toNat) (keyV r ar an)=some g) :
 Calls Tryz.prog 79 #[.pointer (some ⟨rb,0,none⟩),.agg #[.int .i64 6,.int .i64 c,.int .i64 reg,.int .i64 ar,.int .i64 an,.int .i64 br,.int .i64 bn,vb,ve]] w fun e w' => e=.returned (.int .i64 0)∧RnPost H rb F ks (tell r reg g) w w':=by
 have HL:=Zh (And.intro (And.intro h0 h8) hl)
 have H3:=Zh hk3
 clear h0 h8 hk3 hl
 have HG0:Hid (ceilC r.s c (keyV r ar an)=some g):=Zh (by unfold ceilC; rw [if_pos H3.out]; exact hg)
 clear hg
 have HR:=Zh h
 obtain ⟨sb,vt,hF,h⟩:=h
 have HFE:Hid ([rb,sb]=F):=Zh hF.symm
 have HST:=Zh h
 have HM:Hid (∀ W,Upd [] w W→(∃ FM,RMdl 0 sb FM W r.s)∧W.cell? ⟨rb,0,none⟩=some (.pointer (some ⟨sb,0,none⟩))):=Zh (fun W hu => ⟨(HST.out.upd0 hu).st,(HST.out.upd0 hu).cells.1⟩)
 have HC:=Zh hc
 have HAB:=Zh (And.intro ha hb)
 have hrb:=h.blk.lt
 have hsb:=h.st.lt
 obtain ⟨z,hz⟩:∃ z,keyV r ar an=z:=⟨_,rfl⟩
 have HZ:Hid (modI (argV r ar an) 64=z):=Zh hz
 have HZK:=Zh hz
 obtain ⟨y,hy⟩:∃ y,keyV r br bn=y:=⟨_,rfl⟩
 have HY:Hid (modI (argV r br bn) 64=y):=Zh hy
 have HYK:=Zh hy
 clear hz hy hF h hc ha hb
 have XB:Hid (Blk (w.alloc (.cells #[.int .i64 6,.int .i64 c,.int .i64 reg,.int .i64 ar,.int .i64 an,.int .i64 br,.int .i64 bn,vb,ve] 62)) w.heap.size 62 #[.int .i64 6,.int .i64 c,.int .i64 reg,.int .i64 ar,.int .i64 an,.int .i64 br,.int .i64 bn,vb,ve]):=Zh (Blk.new w _ _)
 have UA:Hid (Upd [] w (w.alloc (.cells #[.int .i64 6,.int .i64 c,.int .i64 reg,.int .i64 ar,.int .i64 an,.int .i64 br,.int .i64 bn,vb,ve] 62))):=Zh ((Upd.refl [] w).alloc _)
 go_enter Tryz.func79,Tryz.ntmps79
 go_wp2_with fail
 generalize (w.alloc (.cells #[.int .i64 6,.int .i64 c,.int .i64 reg,.int .i64 ar,.int .i64 an,.int .i64 br,.int .i64 bn,vb,ve] 62))=w1 at *
 refine (arg_r ar an w1 (HR.out.upd0 UA.out) HAB.out.1).mono ?_
 rintro e wa ⟨rfl,ua⟩
 have XA:=Zh (XB.out.upd ua (by simp))
 have UU:=Zh (UA.out.trans ua)
 have x5:wa.cell? ⟨w.heap.size,5,none⟩=some (.int .i64 br):=XA.out.cell 5
 have x6:wa.cell? ⟨w.heap.size,6,none⟩=some (.int .i64 bn):=XA.out.cell 6
 clear ua
 go_wp2_with fail
 refine (mod_r (argV r ar an) 64 wa (by omega) (by omega)).mono ?_
 rintro e _ ⟨rfl,rfl⟩
 rw [HZ.out]
 go_wp2_with fail
 refine (arg_r br bn wa (HR.out.upd0 UU.out) HAB.out.2).mono ?_
 rintro e w2 ⟨rfl,ub⟩
 have X2:=Zh (XA.out.upd ub (by simp))
 have U2:=Zh (UU.out.trans ub)
 clear ub x5 x6
 go_wp2_with fail
 refine (mod_r (argV r br bn) 64 w2 (by omega) (by omega)).mono ?_
 rintro e _ ⟨rfl,rfl⟩
 rw [HY.out]
 have x0:w2.cell? ⟨w.heap.size,0,none⟩=some (.int .i64 6):=X2.out.cell 0
 go_wp2_with fail
 clear x0
 have CS:Hid (∀ W,Upd [] w2.drew W→W.cell? ⟨w.heap.size,1,none⟩=some (.int .i64 c)∧W.cell? ⟨w.heap.size,2,none⟩=some (.int .i64 reg)∧W.cell? ⟨w.heap.size,5,none⟩=some (.int .i64 br)∧W.cell? ⟨w.heap.size,6,none⟩=some (.int .i64 bn)∧W.cell? ⟨rb,0,none⟩=some (.pointer (some ⟨sb,0,none⟩))):=Zh (fun W hW => by
  have hu:=(Upd.refl [] w2).drew.trans hW
  have hb:=X2.out.upd hu (by simp)
  exact ⟨hb.cell 1,hb.cell 2,hb.cell 5,hb.cell 6,(HM.out W (U2.out.trans hu)).2⟩)
 have HG:Hid (ceilC r.s c z=some g):=Zh (by rw [← HZK.out]; exact HG0.out)
 refine wp_invN [(7,.det (.tuple #[.int .i64 g,.bool true,.int .i64 0]))] [] (by kernel_rfl) (by kernel_rfl) (by kernel_rfl) ⟨lasts_det _,trivial⟩ ?_
 iterate 7 (
  with_reducible apply wpV_light
  ·simp only [lightOp]
  ·intro W hU hF
   have f0:=CS.out W hU
   clear hU hF
   go_simp
   exact rfl
  simp only [aP])
 refine wpV_heavy (by simp only [lightOp]) (by rfl) (fun W hU hk hF K hK => ?_) ?_
 ·go_wp2_with fail
  obtain ⟨FM,hm⟩:=(HM.out W (U2.out.trans ((Upd.refl [] w2).drew.trans hU))).1
  refine (rm_ceil 0 sb FM r.s c z W hm).mono ?_
  rintro e wx ⟨rfl,rfl⟩
  simp only [HC.out,H3.out,HG.out,Option.getD_some,Option.isSome_some,Option.getD_none,Option.isSome_none,if_true]
  go_wp2_with fail
  exact hK.out _ _ (outV_new rfl rfl (by intro b hb; cases hb) (.refl _ _))
 rintro _ rfl
 simp only [aP]
 iterate 7 (
  with_reducible apply wpV_light
  ·simp only [lightOp]
  ·intro W hU hF
   have f0:=CS.out W hU
   clear hU hF
   go_simp
   exact rfl
  simp only [aP])
 refine wpV_end (fun W hU _ hF => ?_)
 have UX:Hid (Upd [] w W):=Zh (U2.out.trans ((Upd.refl [] w2).drew.trans hU))
 have BX:Hid (Blk W w.heap.size 62 _):=Zh (X2.out.upd ((Upd.refl [] w2).drew.trans hU) (by simp))
 have e0:W.cell? ⟨w.heap.size,0,none⟩=some (.int .i64 6):=BX.out.cell 0
 have e2:W.cell? ⟨w.heap.size,2,none⟩=some (.int .i64 reg):=BX.out.cell 2
 clear hU hF
 refine wpT_end ?_
 go_wp2_with fail
 refine (tell_r reg g W (HR.out.upd0 UX.out) HL.out.1.1 HL.out.1.2 HL.out.2).mono ?_
 rintro e w4 ⟨rfl,hp⟩
 have HP:=Zh (hp.pre UX.out)
 clear hp e0 e2
 go_wp2_with fail
 go_ret
 exact ⟨rfl,HP.out⟩
theorem ask_ceil0 {H rb:Nat} {F:List Nat} {ks:List Int} {r:RS} (c reg ar an br bn:Int) (vb ve:Value) (w:World) (h:Rn H rb F ks w r) (hc:isC r.s c=true) (h0:0≤reg) (h8:reg≤8) (ha:0≤ar∧ar≤8) (hb:0≤br∧br≤8) (hk3:oErr r.s c=0) (hl:r.told.length + 1≤201 * 1000) (hg:ceilL (coll r.s c.toNat) (keyV r ar an)=none) :
 Calls Tryz.prog 79 #[.pointer (some ⟨rb,0,none⟩),.agg #[.int .i64 6,.int .i64 c,.int .i64 reg,.int .i64 ar,.int .i64 an,.int .i64 br,.int .i64 bn,vb,ve]] w fun e w' => e=.returned (.int .i64 0)∧RnPost H rb F ks (tell r reg (-1)) w w':=by
 have HL:=Zh (And.intro (And.intro h0 h8) hl)
 have H3:=Zh hk3
 clear h0 h8 hk3 hl
 have HG0:Hid (ceilC r.s c (keyV r ar an)=none):=Zh (by unfold ceilC; rw [if_pos H3.out]; exact hg)
 clear hg
 have HR:=Zh h
 obtain ⟨sb,vt,hF,h⟩:=h
 have HFE:Hid ([rb,sb]=F):=Zh hF.symm
 have HST:=Zh h
 have HM:Hid (∀ W,Upd [] w W→(∃ FM,RMdl 0 sb FM W r.s)∧W.cell? ⟨rb,0,none⟩=some (.pointer (some ⟨sb,0,none⟩))):=Zh (fun W hu => ⟨(HST.out.upd0 hu).st,(HST.out.upd0 hu).cells.1⟩)
 have HC:=Zh hc
 have HAB:=Zh (And.intro ha hb)
 have hrb:=h.blk.lt
 have hsb:=h.st.lt
 obtain ⟨z,hz⟩:∃ z,keyV r ar an=z:=⟨_,rfl⟩
 have HZ:Hid (modI (argV r ar an) 64=z):=Zh hz
 have HZK:=Zh hz
 obtain ⟨y,hy⟩:∃ y,keyV r br bn=y:=⟨_,rfl⟩
 have HY:Hid (modI (argV r br bn) 64=y):=Zh hy
 have HYK:=Zh hy
 clear hz hy hF h hc ha hb
 have XB:Hid (Blk (w.alloc (.cells #[.int .i64 6,.int .i64 c,.int .i64 reg,.int .i64 ar,.int .i64 an,.int .i64 br,.int .i64 bn,vb,ve] 62)) w.heap.size 62 #[.int .i64 6,.int .i64 c,.int .i64 reg,.int .i64 ar,.int .i64 an,.int .i64 br,.int .i64 bn,vb,ve]):=Zh (Blk.new w _ _)
 have UA:Hid (Upd [] w (w.alloc (.cells #[.int .i64 6,.int .i64 c,.int .i64 reg,.int .i64 ar,.int .i64 an,.int .i64 br,.int .i64 bn,vb,ve] 62))):=Zh ((Upd.refl [] w).alloc _)
 go_enter Tryz.func79,Tryz.ntmps79
 go_wp2_with fail
 generalize (w.alloc (.cells #[.int .i64 6,.int .i64 c,.int .i64 reg,.int .i64 ar,.int .i64 an,.int .i64 br,.int .i64 bn,vb,ve] 62))=w1 at *
 refine (arg_r ar an w1 (HR.out.upd0 UA.out) HAB.out.1).mono ?_
 rintro e wa ⟨rfl,ua⟩
 have XA:=Zh (XB.out.upd ua (by simp))
 have UU:=Zh (UA.out.trans ua)
 have x5:wa.cell? ⟨w.heap.size,5,none⟩=some (.int .i64 br):=XA.out.cell 5
 have x6:wa.cell? ⟨w.heap.size,6,none⟩=some (.int .i64 bn):=XA.out.cell 6
 clear ua
 go_wp2_with fail
 refine (mod_r (argV r ar an) 64 wa (by omega) (by omega)).mono ?_
 rintro e _ ⟨rfl,rfl⟩
 rw [HZ.out]
 go_wp2_with fail
 refine (arg_r br bn wa (HR.out.upd0 UU.out) HAB.out.2).mono ?_
 rintro e w2 ⟨rfl,ub⟩
 have X2:=Zh (XA.out.upd ub (by simp))
 have U2:=Zh (UU.out.trans ub)
 clear ub x5 x6
 go_wp2_with fail
 refine (mod_r (argV r br bn) 64 w2 (by omega) (by omega)).mono ?_
 rintro e _ ⟨rfl,rfl⟩
 rw [HY.out]
 have x0:w2.cell? ⟨w.heap.size,0,none⟩=some (.int .i64 6):=X2.out.cell 0
 go_wp2_with fail
 clear x0
 have CS:Hid (∀ W,Upd [] w2.drew W→W.cell? ⟨w.heap.size,1,none⟩=some (.int .i64 c)∧W.cell? ⟨w.heap.size,2,none⟩=some (.int .i64 reg)∧W.cell? ⟨w.heap.size,5,none⟩=some (.int .i64 br)∧W.cell? ⟨w.heap.size,6,none⟩=some (.int .i64 bn)∧W.cell? ⟨rb,0,none⟩=some (.pointer (some ⟨sb,0,none⟩))):=Zh (fun W hW => by
  have hu:=(Upd.refl [] w2).drew.trans hW
  have hb:=X2.out.upd hu (by simp)
  exact ⟨hb.cell 1,hb.cell 2,hb.cell 5,hb.cell 6,(HM.out W (U2.out.trans hu)).2⟩)
 have HG:Hid (ceilC r.s c z=none):=Zh (by rw [← HZK.out]; exact HG0.out)
 refine wp_invN [(7,.det (.tuple #[.int .i64 0,.bool false,.int .i64 0]))] [] (by kernel_rfl) (by kernel_rfl) (by kernel_rfl) ⟨lasts_det _,trivial⟩ ?_
 iterate 7 (
  with_reducible apply wpV_light
  ·simp only [lightOp]
  ·intro W hU hF
   have f0:=CS.out W hU
   clear hU hF
   go_simp
   exact rfl
  simp only [aP])
 refine wpV_heavy (by simp only [lightOp]) (by rfl) (fun W hU hk hF K hK => ?_) ?_
 ·go_wp2_with fail
  obtain ⟨FM,hm⟩:=(HM.out W (U2.out.trans ((Upd.refl [] w2).drew.trans hU))).1
  refine (rm_ceil 0 sb FM r.s c z W hm).mono ?_
  rintro e wx ⟨rfl,rfl⟩
  simp only [HC.out,H3.out,HG.out,Option.getD_some,Option.isSome_some,Option.getD_none,Option.isSome_none,if_true]
  go_wp2_with fail
  exact hK.out _ _ (outV_new rfl rfl (by intro b hb; cases hb) (.refl _ _))
 rintro _ rfl
 simp only [aP]
 iterate 7 (
  with_reducible apply wpV_light
  ·simp only [lightOp]
  ·intro W hU hF
   have f0:=CS.out W hU
   clear hU hF
   go_simp
   exact rfl
  simp only [aP])
 refine wpV_end (fun W hU _ hF => ?_)
 have UX:Hid (Upd [] w W):=Zh (U2.out.trans ((Upd.refl [] w2).drew.trans hU))
 have BX:Hid (Blk W w.heap.size 62 _):=Zh (X2.out.upd ((Upd.refl [] w2).drew.trans hU) (by simp))
 have e0:W.cell? ⟨w.heap.size,0,none⟩=some (.int .i64 6):=BX.out.cell 0
 have e2:W.cell? ⟨w.heap.size,2,none⟩=some (.int .i64 reg):=BX.out.cell 2
 clear hU hF
 refine wpT_end ?_
 go_wp2_with fail
 refine (tell_r reg (-1) W (HR.out.upd0 UX.out) HL.out.1.1 HL.out.1.2 HL.out.2).mono ?_
 rintro e w4 ⟨rfl,hp⟩
 have HP:=Zh (hp.pre UX.out)
 clear hp e0 e2
 go_wp2_with fail
 go_ret
 exact ⟨rfl,HP.out⟩
theorem ask_range {H rb:Nat} {F:List Nat} {ks:List Int} {r:RS} (c reg ar an br bn:Int) (vb ve:Value) (w:World) (h:Rn H rb F ks w r) (hc:isC r.s c=true) (h0:0≤reg) (h8:reg≤8) (ha:0≤ar∧ar≤8) (hb:0≤br∧br≤8) (hk3:oErr r.s c=0) (hl:r.told.length + 1≤201 * 1000) (g:Int) (hg:(rangeL (coll r.s c.toNat) (keyV r ar an) (keyV r br bn):Int)=g) :
 Calls Tryz.prog 79 #[.pointer (some ⟨rb,0,none⟩),.agg #[.int .i64 7,.int .i64 c,.int .i64 reg,.int .i64 ar,.int .i64 an,.int .i64 br,.int .i64 bn,vb,ve]] w fun e w' => e=.returned (.int .i64 0)∧RnPost H rb F ks (tell r reg g) w w':=by
 have HL:=Zh (And.intro (And.intro h0 h8) hl)
 have H3:=Zh hk3
 clear h0 h8 hk3 hl
 have HG0:Hid ((rangeC r.s c (keyV r ar an) (keyV r br bn):Int)=g):=Zh (by unfold rangeC; rw [if_pos H3.out]; exact hg)
 clear hg
 have HR:=Zh h
 obtain ⟨sb,vt,hF,h⟩:=h
 have HFE:Hid ([rb,sb]=F):=Zh hF.symm
 have HST:=Zh h
 have HM:Hid (∀ W,Upd [] w W→(∃ FM,RMdl 0 sb FM W r.s)∧W.cell? ⟨rb,0,none⟩=some (.pointer (some ⟨sb,0,none⟩))):=Zh (fun W hu => ⟨(HST.out.upd0 hu).st,(HST.out.upd0 hu).cells.1⟩)
 have HC:=Zh hc
 have HAB:=Zh (And.intro ha hb)
 have hrb:=h.blk.lt
 have hsb:=h.st.lt
 obtain ⟨z,hz⟩:∃ z,keyV r ar an=z:=⟨_,rfl⟩
 have HZ:Hid (modI (argV r ar an) 64=z):=Zh hz
 have HZK:=Zh hz
 obtain ⟨y,hy⟩:∃ y,keyV r br bn=y:=⟨_,rfl⟩
 have HY:Hid (modI (argV r br bn) 64=y):=Zh hy
 have HYK:=Zh hy
 clear hz hy hF h hc ha hb
 have XB:Hid (Blk (w.alloc (.cells #[.int .i64 7,.int .i64 c,.int .i64 reg,.int .i64 ar,.int .i64 an,.int .i64 br,.int .i64 bn,vb,ve] 62)) w.heap.size 62 #[.int .i64 7,.int .i64 c,.int .i64 reg,.int .i64 ar,.int .i64 an,.int .i64 br,.int .i64 bn,vb,ve]):=Zh (Blk.new w _ _)
 have UA:Hid (Upd [] w (w.alloc (.cells #[.int .i64 7,.int .i64 c,.int .i64 reg,.int .i64 ar,.int .i64 an,.int .i64 br,.int .i64 bn,vb,ve] 62))):=Zh ((Upd.refl [] w).alloc _)
 go_enter Tryz.func79,Tryz.ntmps79
 go_wp2_with fail
 generalize (w.alloc (.cells #[.int .i64 7,.int .i64 c,.int .i64 reg,.int .i64 ar,.int .i64 an,.int .i64 br,.int .i64 bn,vb,ve] 62))=w1 at *
 refine (arg_r ar an w1 (HR.out.upd0 UA.out) HAB.out.1).mono ?_
 rintro e wa ⟨rfl,ua⟩
 have XA:=Zh (XB.out.upd ua (by simp))
 have UU:=Zh (UA.out.trans ua)
 have x5:wa.cell? ⟨w.heap.size,5,none⟩=some (.int .i64 br):=XA.out.cell 5
 have x6:wa.cell? ⟨w.heap.size,6,none⟩=some (.int .i64 bn):=XA.out.cell 6
 clear ua
 go_wp2_with fail
 refine (mod_r (argV r ar an) 64 wa (by omega) (by omega)).mono ?_
 rintro e _ ⟨rfl,rfl⟩
 rw [HZ.out]
 go_wp2_with fail
 refine (arg_r br bn wa (HR.out.upd0 UU.out) HAB.out.2).mono ?_
 rintro e w2 ⟨rfl,ub⟩
 have X2:=Zh (XA.out.upd ub (by simp))
 have U2:=Zh (UU.out.trans ub)
 clear ub x5 x6
 go_wp2_with fail
 refine (mod_r (argV r br bn) 64 w2 (by omega) (by omega)).mono ?_
 rintro e _ ⟨rfl,rfl⟩
 rw [HY.out]
 have x0:w2.cell? ⟨w.heap.size,0,none⟩=some (.int .i64 7):=X2.out.cell 0
 go_wp2_with fail
 clear x0
 have CS:Hid (∀ W,Upd [] w2.drew W→W.cell? ⟨w.heap.size,1,none⟩=some (.int .i64 c)∧W.cell? ⟨w.heap.size,2,none⟩=some (.int .i64 reg)∧W.cell? ⟨w.heap.size,5,none⟩=some (.int .i64 br)∧W.cell? ⟨w.heap.size,6,none⟩=some (.int .i64 bn)∧W.cell? ⟨rb,0,none⟩=some (.pointer (some ⟨sb,0,none⟩))):=Zh (fun W hW => by
  have hu:=(Upd.refl [] w2).drew.trans hW
  have hb:=X2.out.upd hu (by simp)
  exact ⟨hb.cell 1,hb.cell 2,hb.cell 5,hb.cell 6,(HM.out W (U2.out.trans hu)).2⟩)
 have HG:Hid ((rangeC r.s c z y:Int)=g):=Zh (by rw [← HZK.out,← HYK.out]; exact HG0.out)
 refine wp_invN [(8,.det (.tuple #[.int .i64 g,.int .i64 0]))] [] (by kernel_rfl) (by kernel_rfl) (by kernel_rfl) ⟨lasts_det _,trivial⟩ ?_
 iterate 8 (
  with_reducible apply wpV_light
  ·simp only [lightOp]
  ·intro W hU hF
   have f0:=CS.out W hU
   clear hU hF
   go_simp
   exact rfl
  simp only [aP])
 refine wpV_heavy (by simp only [lightOp]) (by rfl) (fun W hU hk hF K hK => ?_) ?_
 ·go_wp2_with fail
  obtain ⟨FM,hm⟩:=(HM.out W (U2.out.trans ((Upd.refl [] w2).drew.trans hU))).1
  refine (rm_range 0 sb FM r.s c z y W hm).mono ?_
  rintro e wx ⟨rfl,rfl⟩
  simp only [HC.out,H3.out,HG.out,if_true]
  go_wp2_with fail
  exact hK.out _ _ (outV_new rfl rfl (by intro b hb; cases hb) (.refl _ _))
 rintro _ rfl
 simp only [aP]
 iterate 5 (
  with_reducible apply wpV_light
  ·simp only [lightOp]
  ·intro W hU hF
   have f0:=CS.out W hU
   clear hU hF
   go_simp
   exact rfl
  simp only [aP])
 refine wpV_end (fun W hU _ hF => ?_)
 have UX:Hid (Upd [] w W):=Zh (U2.out.trans ((Upd.refl [] w2).drew.trans hU))
 have BX:Hid (Blk W w.heap.size 62 _):=Zh (X2.out.upd ((Upd.refl [] w2).drew.trans hU) (by simp))
 have e0:W.cell? ⟨w.heap.size,0,none⟩=some (.int .i64 7):=BX.out.cell 0
 have e2:W.cell? ⟨w.heap.size,2,none⟩=some (.int .i64 reg):=BX.out.cell 2
 clear hU hF
 refine wpT_end ?_
 go_wp2_with fail
 refine (tell_r reg g W (HR.out.upd0 UX.out) HL.out.1.1 HL.out.1.2 HL.out.2).mono ?_
 rintro e w4 ⟨rfl,hp⟩
 have HP:=Zh (hp.pre UX.out)
 clear hp e0 e2
 go_wp2_with fail
 go_ret
 exact ⟨rfl,HP.out⟩
theorem ask_size {H rb:Nat} {F:List Nat} {ks:List Int} {r:RS} (c reg ar an br bn:Int) (vb ve:Value) (w:World) (h:Rn H rb F ks w r) (hc:isC r.s c=true) (h0:0≤reg) (h8:reg≤8) (ha:0≤ar∧ar≤8) (hb:0≤br∧br≤8) (hk3:True) (hl:r.told.length + 1≤201 * 1000) (g:Int) (hg:((coll r.s c.toNat).length:Int)=g) :
 Calls Tryz.prog 79 #[.pointer (some ⟨rb,0,none⟩),.agg #[.int .i64 5,.int .i64 c,.int .i64 reg,.int .i64 ar,.int .i64 an,.int .i64 br,.int .i64 bn,vb,ve]] w fun e w' => e=.returned (.int .i64 0)∧RnPost H rb F ks (tell r reg g) w w':=by
 have HL:=Zh (And.intro (And.intro h0 h8) hl)
 have H3:=Zh hk3
 clear h0 h8 hk3 hl
 have HG0:=Zh hg
 clear hg
 have HR:=Zh h
 obtain ⟨sb,vt,hF,h⟩:=h
 have HFE:Hid ([rb,sb]=F):=Zh hF.symm
 have HST:=Zh h
 have HM:Hid (∀ W,Upd [] w W→(∃ FM,RMdl 0 sb FM W r.s)∧W.cell? ⟨rb,0,none⟩=some (.pointer (some ⟨sb,0,none⟩))):=Zh (fun W hu => ⟨(HST.out.upd0 hu).st,(HST.out.upd0 hu).cells.1⟩)
 have HC:=Zh hc
 have HAB:=Zh (And.intro ha hb)
 have hrb:=h.blk.lt
 have hsb:=h.st.lt
 obtain ⟨z,hz⟩:∃ z,keyV r ar an=z:=⟨_,rfl⟩
 have HZ:Hid (modI (argV r ar an) 64=z):=Zh hz
 have HZK:=Zh hz
 obtain ⟨y,hy⟩:∃ y,keyV r br bn=y:=⟨_,rfl⟩
 have HY:Hid (modI (argV r br bn) 64=y):=Zh hy
 have HYK:=Zh hy
 clear hz hy hF h hc ha hb
 have XB:Hid (Blk (w.alloc (.cells #[.int .i64 5,.int .i64 c,.int .i64 reg,.int .i64 ar,.int .i64 an,.int .i64 br,.int .i64 bn,vb,ve] 62)) w.heap.size 62 #[.int .i64 5,.int .i64 c,.int .i64 reg,.int .i64 ar,.int .i64 an,.int .i64 br,.int .i64 bn,vb,ve]):=Zh (Blk.new w _ _)
 have UA:Hid (Upd [] w (w.alloc (.cells #[.int .i64 5,.int .i64 c,.int .i64 reg,.int .i64 ar,.int .i64 an,.int .i64 br,.int .i64 bn,vb,ve] 62))):=Zh ((Upd.refl [] w).alloc _)
 go_enter Tryz.func79,Tryz.ntmps79
 go_wp2_with fail
 generalize (w.alloc (.cells #[.int .i64 5,.int .i64 c,.int .i64 reg,.int .i64 ar,.int .i64 an,.int .i64 br,.int .i64 bn,vb,ve] 62))=w1 at *
 refine (arg_r ar an w1 (HR.out.upd0 UA.out) HAB.out.1).mono ?_
 rintro e wa ⟨rfl,ua⟩
 have XA:=Zh (XB.out.upd ua (by simp))
 have UU:=Zh (UA.out.trans ua)
 have x5:wa.cell? ⟨w.heap.size,5,none⟩=some (.int .i64 br):=XA.out.cell 5
 have x6:wa.cell? ⟨w.heap.size,6,none⟩=some (.int .i64 bn):=XA.out.cell 6
 clear ua
 go_wp2_with fail
 refine (mod_r (argV r ar an) 64 wa (by omega) (by omega)).mono ?_
 rintro e _ ⟨rfl,rfl⟩
 rw [HZ.out]
 go_wp2_with fail
 refine (arg_r br bn wa (HR.out.upd0 UU.out) HAB.out.2).mono ?_
 rintro e w2 ⟨rfl,ub⟩
 have X2:=Zh (XA.out.upd ub (by simp))
 have U2:=Zh (UU.out.trans ub)
 clear ub x5 x6
 go_wp2_with fail
 refine (mod_r (argV r br bn) 64 w2 (by omega) (by omega)).mono ?_
 rintro e _ ⟨rfl,rfl⟩
 rw [HY.out]
 have x0:w2.cell? ⟨w.heap.size,0,none⟩=some (.int .i64 5):=X2.out.cell 0
 go_wp2_with fail
 clear x0
 have CS:Hid (∀ W,Upd [] w2.drew W→W.cell? ⟨w.heap.size,1,none⟩=some (.int .i64 c)∧W.cell? ⟨w.heap.size,2,none⟩=some (.int .i64 reg)∧W.cell? ⟨w.heap.size,5,none⟩=some (.int .i64 br)∧W.cell? ⟨w.heap.size,6,none⟩=some (.int .i64 bn)∧W.cell? ⟨rb,0,none⟩=some (.pointer (some ⟨sb,0,none⟩))):=Zh (fun W hW => by
  have hu:=(Upd.refl [] w2).drew.trans hW
  have hb:=X2.out.upd hu (by simp)
  exact ⟨hb.cell 1,hb.cell 2,hb.cell 5,hb.cell 6,(HM.out W (U2.out.trans hu)).2⟩)
 obtain ⟨i,rfl,hi⟩:=isC_form HC.out
 obtain ⟨gl,N,cl,Ai,ci,hiN,hN8,hat⟩:=(HST.out.upd0 U2.out).st.at_ hi
 obtain ⟨n,hn⟩:∃ n,(coll r.s i).length=n:=⟨_,rfl⟩
 have HN:Hid ((n:Int)=g):=Zh (by rw [← HG0.out,Int.toNat_natCast,hn])
 rw [hn] at hat
 have CS2:Hid (∀ W,Upd [] w2.drew W→W.cell? ⟨sb,1,none⟩=some (.slice (some ⟨gl,0,none⟩) N cl)∧W.cell? ⟨gl,i,none⟩=some (.slice Ai n ci)):=Zh (fun W hW => ⟨(hat W ((Upd.refl [] w2).drew.trans hW)).1,(hat W ((Upd.refl [] w2).drew.trans hW)).2.1⟩)
 have q1:(0:Int)≤(i:Int):=by omega
 have q2:(i:Int) < (N:Int):=by omega
 clear hat hn
 refine wp_invNT 15 [] [] (by kernel_rfl) (by simp) (by kernel_rfl) (by kernel_rfl) trivial ?_
 simp only [List.take_succ_cons,List.take_zero,List.drop_succ_cons,List.drop_zero]
 iterate 15 (
  with_reducible apply wpV_light
  ·simp only [lightOp]
  ·intro W hU hF
   have f0:=CS.out W hU
   have f1:=CS2.out W hU
   clear hU hF
   go_simp
   exact rfl
  simp only [aP])
 refine wpV_end (fun W hU _ hF => ?_)
 have UX:Hid (Upd [] w W):=Zh (U2.out.trans ((Upd.refl [] w2).drew.trans hU))
 clear hU hF
 refine wpT_op (by rfl) (fun K hK => ?_)
 go_wp2_with fail
 refine (tell_r reg (n:Int) W (HR.out.upd0 UX.out) HL.out.1.1 HL.out.1.2 HL.out.2).mono ?_
 rintro e w4 ⟨rfl,hp⟩
 have HP:=Zh (hp.pre UX.out)
 clear hp
 go_wp2_with fail
 refine hK.out _ _ ?_
 clear hK K
 try simp only [aP]
 refine wpT_end ?_
 go_wp2_with fail
 go_ret
 rw [← HN.out]
 exact ⟨rfl,HP.out⟩
theorem ask_put {H rb:Nat} {F:List Nat} {ks:List Int} {r:RS} (c reg ar an br bn:Int) (vb ve:Value) (w:World) (h:Rn H rb F ks w r) (hc:isC r.s c=true) (ha:0≤ar∧ar≤8) (hb:0≤br∧br≤8) (hp:putE (coll r.s c.toNat) (keyV r ar an)=0) :
 Calls Tryz.prog 79 #[.pointer (some ⟨rb,0,none⟩),.agg #[.int .i64 2,.int .i64 c,.int .i64 reg,.int .i64 ar,.int .i64 an,.int .i64 br,.int .i64 bn,vb,ve]] w fun e w' => e=.returned (.int .i64 0)∧RnPost H rb F ks { r with s:=mPut r.s c.toNat (keyV r ar an) (valV r br bn) } w w':=by
 have HP0:=Zh hp
 clear hp
 have HR:=Zh h
 obtain ⟨sb,vt,hF,h⟩:=h
 have HFE:Hid ([rb,sb]=F):=Zh hF.symm
 have HST:=Zh h
 have HM:Hid (∀ W,Upd [] w W→(∃ FM,RMdl 0 sb FM W r.s)∧W.cell? ⟨rb,0,none⟩=some (.pointer (some ⟨sb,0,none⟩))):=Zh (fun W hu => ⟨(HST.out.upd0 hu).st,(HST.out.upd0 hu).cells.1⟩)
 have HC:=Zh hc
 have HAB:=Zh (And.intro ha hb)
 have hrb:=h.blk.lt
 have hsb:=h.st.lt
 obtain ⟨z,hz⟩:∃ z,keyV r ar an=z:=⟨_,rfl⟩
 have HZ:Hid (modI (argV r ar an) 64=z):=Zh hz
 have HZK:=Zh hz
 obtain ⟨y,hy⟩:∃ y,keyV r br bn=y:=⟨_,rfl⟩
 have HY:Hid (modI (argV r br bn) 64=y):=Zh hy
 have HYK:=Zh hy
 clear hz hy hF h hc ha hb
 have XB:Hid (Blk (w.alloc (.cells #[.int .i64 2,.int .i64 c,.int .i64 reg,.int .i64 ar,.int .i64 an,.int .i64 br,.int .i64 bn,vb,ve] 62)) w.heap.size 62 #[.int .i64 2,.int .i64 c,.int .i64 reg,.int .i64 ar,.int .i64 an,.int .i64 br,.int .i64 bn,vb,ve]):=Zh (Blk.new w _ _)
 have UA:Hid (Upd [] w (w.alloc (.cells #[.int .i64 2,.int .i64 c,.int .i64 reg,.int .i64 ar,.int .i64 an,.int .i64 br,.int .i64 bn,vb,ve] 62))):=Zh ((Upd.refl [] w).alloc _)
 go_enter Tryz.func79,Tryz.ntmps79
 go_wp2_with fail
 generalize (w.alloc (.cells #[.int .i64 2,.int .i64 c,.int .i64 reg,.int .i64 ar,.int .i64 an,.int .i64 br,.int .i64 bn,vb,ve] 62))=w1 at *
 refine (arg_r ar an w1 (HR.out.upd0 UA.out) HAB.out.1).mono ?_
 rintro e wa ⟨rfl,ua⟩
 have XA:=Zh (XB.out.upd ua (by simp))
 have UU:=Zh (UA.out.trans ua)
 have x5:wa.cell? ⟨w.heap.size,5,none⟩=some (.int .i64 br):=XA.out.cell 5
 have x6:wa.cell? ⟨w.heap.size,6,none⟩=some (.int .i64 bn):=XA.out.cell 6
 clear ua
 go_wp2_with fail
 refine (mod_r (argV r ar an) 64 wa (by omega) (by omega)).mono ?_
 rintro e _ ⟨rfl,rfl⟩
 rw [HZ.out]
 go_wp2_with fail
 refine (arg_r br bn wa (HR.out.upd0 UU.out) HAB.out.2).mono ?_
 rintro e w2 ⟨rfl,ub⟩
 have X2:=Zh (XA.out.upd ub (by simp))
 have U2:=Zh (UU.out.trans ub)
 clear ub x5 x6
 go_wp2_with fail
 refine (mod_r (argV r br bn) 64 w2 (by omega) (by omega)).mono ?_
 rintro e _ ⟨rfl,rfl⟩
 rw [HY.out]
 have x0:w2.cell? ⟨w.heap.size,0,none⟩=some (.int .i64 2):=X2.out.cell 0
 go_wp2_with fail
 clear x0
 have CS:Hid (∀ W,Upd [] w2.drew W→W.cell? ⟨w.heap.size,1,none⟩=some (.int .i64 c)∧W.cell? ⟨w.heap.size,2,none⟩=some (.int .i64 reg)∧W.cell? ⟨w.heap.size,5,none⟩=some (.int .i64 br)∧W.cell? ⟨w.heap.size,6,none⟩=some (.int .i64 bn)∧W.cell? ⟨rb,0,none⟩=some (.pointer (some ⟨sb,0,none⟩))):=Zh (fun W hW => by
  have hu:=(Upd.refl [] w2).drew.trans hW
  have hb:=X2.out.upd hu (by simp)
  exact ⟨hb.cell 1,hb.cell 2,hb.cell 5,hb.cell 6,(HM.out W (U2.out.trans hu)).2⟩)
 have HVV:Hid (valV r br bn=modI (argV r br bn) 1000):=Zh rfl
 obtain ⟨x,hx⟩:∃ x,modI (argV r br bn) 1000=x:=⟨_,rfl⟩
 have HX:=Zh hx
 rw [hx] at HVV
 clear hx
 have KBZ:Hid (kB z):=Zh (by rw [← HZK.out]; exact kB_key r ar an)
 refine wp_invNT 12 [(10,.det (.int .i64 (argV r br bn))),(11,.det (.int .i64 x))] [] (by kernel_rfl) (by simp) (by kernel_rfl) (by kernel_rfl) ⟨lasts_det _,lasts_det _,trivial⟩ ?_
 simp only [List.take_succ_cons,List.take_zero,List.drop_succ_cons,List.drop_zero]
 iterate 10 (
  with_reducible apply wpV_light
  ·simp only [lightOp]
  ·intro W hU hF
   have f0:=CS.out W hU
   clear hU hF
   go_simp
   exact rfl
  simp only [aP])
 refine wpV_heavy (by simp only [lightOp]) (by rfl) (fun W hU hk hF K hK => ?_) ?_
 ·go_wp2_with fail
  refine (arg_r br bn W (HR.out.upd0 (U2.out.trans ((Upd.refl [] w2).drew.trans hU))) HAB.out.2).mono ?_
  rintro e wx ⟨rfl,ux⟩
  go_wp2_with fail
  exact hK.out _ _ (outV_new rfl rfl (by intro b hb; cases hb) ux)
 rintro _ rfl
 simp only [aP]
 refine wpV_heavy (by simp only [lightOp]) (by rfl) (fun W hU hk hF K hK => ?_) ?_
 ·go_wp2_with fail
  refine (mod_r (argV r br bn) 1000 W (by omega) (by omega)).mono ?_
  rintro e _ ⟨rfl,rfl⟩
  rw [HX.out]
  go_wp2_with fail
  exact hK.out _ _ (outV_new rfl rfl (by intro b hb; cases hb) (.refl _ _))
 rintro _ rfl
 simp only [aP]
 refine wpV_end (fun W hU _ hF => ?_)
 have UX:Hid (Upd [] w W):=Zh (U2.out.trans ((Upd.refl [] w2).drew.trans hU))
 clear hU hF
 refine wpT_op (by rfl) (fun K hK => ?_)
 go_wp2_with fail
 obtain ⟨FM,hm⟩:=(HM.out W UX.out).1
 refine (Rf.rm_put 0 sb FM r.s c z x W hm KBZ.out (Nat.zero_le _)).mono ?_
 rintro e w5 ⟨F',rfl,hm5,hu⟩
 have HP:Hid (putE (coll r.s c.toNat) z=0):=Zh (by rw [← HZK.out]; exact HP0.out)
 simp only [HC.out,HP.out,if_true] at hm5 ⊢
 have R5:=Zh ((HST.out.upd0 UX.out).setM ⟨_,hm5⟩ hu (by unfold mPut setC; split <;> rfl))
 clear hm5 hu hm
 go_wp2_with fail
 refine hK.out _ _ ?_
 clear hK K
 try simp only [aP]
 refine wpT_op (by rfl) (fun K hK => ?_)
 go_wp2_with fail
 refine hK.out _ _ ?_
 clear hK K
 try simp only [aP]
 refine wpT_end ?_
 go_wp2_with fail
 go_ret
 rw [HVV.out,HZK.out]
 refine ⟨rfl,F,?_,?_⟩
 ·rw [← HFE.out]; exact ⟨sb,vt,rfl,R5.out.1⟩
 ·rw [← HFE.out]; exact R5.out.2.pre UX.out
theorem ask_full {H rb:Nat} {F:List Nat} {ks:List Int} {r:RS} (c reg ar an br bn:Int) (vb ve:Value) (w:World) (h:Rn H rb F ks w r) (hc:isC r.s c=true) (ha:0≤ar∧ar≤8) (hb:0≤br∧br≤8) (hp:putE (coll r.s c.toNat) (keyV r ar an)=8) :
 Calls Tryz.prog 79 #[.pointer (some ⟨rb,0,none⟩),.agg #[.int .i64 2,.int .i64 c,.int .i64 reg,.int .i64 ar,.int .i64 an,.int .i64 br,.int .i64 bn,vb,ve]] w fun e w' => e=.returned (.int .i64 5)∧RnPost H rb F ks r w w':=by
 have HP0:=Zh hp
 clear hp
 have HR:=Zh h
 obtain ⟨sb,vt,hF,h⟩:=h
 have HFE:Hid ([rb,sb]=F):=Zh hF.symm
 have HST:=Zh h
 have HM:Hid (∀ W,Upd [] w W→(∃ FM,RMdl 0 sb FM W r.s)∧W.cell? ⟨rb,0,none⟩=some (.pointer (some ⟨sb,0,none⟩))):=Zh (fun W hu => ⟨(HST.out.upd0 hu).st,(HST.out.upd0 hu).cells.1⟩)
 have HC:=Zh hc
 have HAB:=Zh (And.intro ha hb)
 have hrb:=h.blk.lt
 have hsb:=h.st.lt
 obtain ⟨z,hz⟩:∃ z,keyV r ar an=z:=⟨_,rfl⟩
 have HZ:Hid (modI (argV r ar an) 64=z):=Zh hz
 have HZK:=Zh hz
 obtain ⟨y,hy⟩:∃ y,keyV r br bn=y:=⟨_,rfl⟩
 have HY:Hid (modI (argV r br bn) 64=y):=Zh hy
 have HYK:=Zh hy
 clear hz hy hF h hc ha hb
 have XB:Hid (Blk (w.alloc (.cells #[.int .i64 2,.int .i64 c,.int .i64 reg,.int .i64 ar,.int .i64 an,.int .i64 br,.int .i64 bn,vb,ve] 62)) w.heap.size 62 #[.int .i64 2,.int .i64 c,.int .i64 reg,.int .i64 ar,.int .i64 an,.int .i64 br,.int .i64 bn,vb,ve]):=Zh (Blk.new w _ _)
 have UA:Hid (Upd [] w (w.alloc (.cells #[.int .i64 2,.int .i64 c,.int .i64 reg,.int .i64 ar,.int .i64 an,.int .i64 br,.int .i64 bn,vb,ve] 62))):=Zh ((Upd.refl [] w).alloc _)
 go_enter Tryz.func79,Tryz.ntmps79
 go_wp2_with fail
 generalize (w.alloc (.cells #[.int .i64 2,.int .i64 c,.int .i64 reg,.int .i64 ar,.int .i64 an,.int .i64 br,.int .i64 bn,vb,ve] 62))=w1 at *
 refine (arg_r ar an w1 (HR.out.upd0 UA.out) HAB.out.1).mono ?_
 rintro e wa ⟨rfl,ua⟩
 have XA:=Zh (XB.out.upd ua (by simp))
 have UU:=Zh (UA.out.trans ua)
 have x5:wa.cell? ⟨w.heap.size,5,none⟩=some (.int .i64 br):=XA.out.cell 5
 have x6:wa.cell? ⟨w.heap.size,6,none⟩=some (.int .i64 bn):=XA.out.cell 6
 clear ua
 go_wp2_with fail
 refine (mod_r (argV r ar an) 64 wa (by omega) (by omega)).mono ?_
 rintro e _ ⟨rfl,rfl⟩
 rw [HZ.out]
 go_wp2_with fail
 refine (arg_r br bn wa (HR.out.upd0 UU.out) HAB.out.2).mono ?_
 rintro e w2 ⟨rfl,ub⟩
 have X2:=Zh (XA.out.upd ub (by simp))
 have U2:=Zh (UU.out.trans ub)
 clear ub x5 x6
 go_wp2_with fail
 refine (mod_r (argV r br bn) 64 w2 (by omega) (by omega)).mono ?_
 rintro e _ ⟨rfl,rfl⟩
 rw [HY.out]
 have x0:w2.cell? ⟨w.heap.size,0,none⟩=some (.int .i64 2):=X2.out.cell 0
 go_wp2_with fail
 clear x0
 have CS:Hid (∀ W,Upd [] w2.drew W→W.cell? ⟨w.heap.size,1,none⟩=some (.int .i64 c)∧W.cell? ⟨w.heap.size,2,none⟩=some (.int .i64 reg)∧W.cell? ⟨w.heap.size,5,none⟩=some (.int .i64 br)∧W.cell? ⟨w.heap.size,6,none⟩=some (.int .i64 bn)∧W.cell? ⟨rb,0,none⟩=some (.pointer (some ⟨sb,0,none⟩))):=Zh (fun W hW => by
  have hu:=(Upd.refl [] w2).drew.trans hW
  have hb:=X2.out.upd hu (by simp)
  exact ⟨hb.cell 1,hb.cell 2,hb.cell 5,hb.cell 6,(HM.out W (U2.out.trans hu)).2⟩)
 have HVV:Hid (valV r br bn=modI (argV r br bn) 1000):=Zh rfl
 obtain ⟨x,hx⟩:∃ x,modI (argV r br bn) 1000=x:=⟨_,rfl⟩
 have HX:=Zh hx
 rw [hx] at HVV
 clear hx
 have KBZ:Hid (kB z):=Zh (by rw [← HZK.out]; exact kB_key r ar an)
 refine wp_invNT 12 [(10,.det (.int .i64 (argV r br bn))),(11,.det (.int .i64 x))] [] (by kernel_rfl) (by simp) (by kernel_rfl) (by kernel_rfl) ⟨lasts_det _,lasts_det _,trivial⟩ ?_
 simp only [List.take_succ_cons,List.take_zero,List.drop_succ_cons,List.drop_zero]
 iterate 10 (
  with_reducible apply wpV_light
  ·simp only [lightOp]
  ·intro W hU hF
   have f0:=CS.out W hU
   clear hU hF
   go_simp
   exact rfl
  simp only [aP])
 refine wpV_heavy (by simp only [lightOp]) (by rfl) (fun W hU hk hF K hK => ?_) ?_
 ·go_wp2_with fail
  refine (arg_r br bn W (HR.out.upd0 (U2.out.trans ((Upd.refl [] w2).drew.trans hU))) HAB.out.2).mono ?_
  rintro e wx ⟨rfl,ux⟩
  go_wp2_with fail
  exact hK.out _ _ (outV_new rfl rfl (by intro b hb; cases hb) ux)
 rintro _ rfl
 simp only [aP]
 refine wpV_heavy (by simp only [lightOp]) (by rfl) (fun W hU hk hF K hK => ?_) ?_
 ·go_wp2_with fail
  refine (mod_r (argV r br bn) 1000 W (by omega) (by omega)).mono ?_
  rintro e _ ⟨rfl,rfl⟩
  rw [HX.out]
  go_wp2_with fail
  exact hK.out _ _ (outV_new rfl rfl (by intro b hb; cases hb) (.refl _ _))
 rintro _ rfl
 simp only [aP]
 refine wpV_end (fun W hU _ hF => ?_)
 have UX:Hid (Upd [] w W):=Zh (U2.out.trans ((Upd.refl [] w2).drew.trans hU))
 clear hU hF
 refine wpT_op (by rfl) (fun K hK => ?_)
 go_wp2_with fail
 obtain ⟨FM,hm⟩:=(HM.out W UX.out).1
 refine (Rf.rm_put 0 sb FM r.s c z x W hm KBZ.out (Nat.zero_le _)).mono ?_
 rintro e w5 ⟨F',rfl,hm5,hu⟩
 have HP:Hid (putE (coll r.s c.toNat) z=8):=Zh (by rw [← HZK.out]; exact HP0.out)
 have HPM:Hid (mPut r.s c.toNat z x=r.s):=Zh (by unfold mPut; rw [if_neg (by rw [HP.out]; omega)])
 simp only [HC.out,HP.out,HPM.out,if_true] at hm5 ⊢
 have R5:=Zh ((HST.out.upd0 UX.out).setM ⟨_,hm5⟩ hu rfl)
 clear hm5 hu hm
 go_wp2_with fail
 refine hK.out _ _ ?_
 clear hK K
 try simp only [aP]
 refine wpT_op (by rfl) (fun K hK => ?_)
 go_wp2_with fail
 refine hK.out _ _ ?_
 clear hK K
 try simp only [aP]
 refine wpT_end ?_
 go_wp2_with fail
 go_ret
 refine ⟨rfl,F,?_,?_⟩
 ·rw [← HFE.out]; exact ⟨sb,vt,rfl,R5.out.1⟩
 ·rw [← HFE.out]; exact R5.out.2.pre UX.out
theorem ask_del {H rb:Nat} {F:List Nat} {ks:List Int} {r:RS} (c reg ar an br bn:Int) (vb ve:Value) (w:World) (h:Rn H rb F ks w r) (hc:isC r.s c=true) (ha:0≤ar∧ar≤8) (hb:0≤br∧br≤8) :
 Calls Tryz.prog 79 #[.pointer (some ⟨rb,0,none⟩),.agg #[.int .i64 3,.int .i64 c,.int .i64 reg,.int .i64 ar,.int .i64 an,.int .i64 br,.int .i64 bn,vb,ve]] w fun e w' => e=.returned (.int .i64 0)∧RnPost H rb F ks { r with s:=mDel r.s c.toNat (keyV r ar an) } w w':=by
 have HR:=Zh h
 obtain ⟨sb,vt,hF,h⟩:=h
 have HFE:Hid ([rb,sb]=F):=Zh hF.symm
 have HST:=Zh h
 have HM:Hid (∀ W,Upd [] w W→(∃ FM,RMdl 0 sb FM W r.s)∧W.cell? ⟨rb,0,none⟩=some (.pointer (some ⟨sb,0,none⟩))):=Zh (fun W hu => ⟨(HST.out.upd0 hu).st,(HST.out.upd0 hu).cells.1⟩)
 have HC:=Zh hc
 have HAB:=Zh (And.intro ha hb)
 have hrb:=h.blk.lt
 have hsb:=h.st.lt
 obtain ⟨z,hz⟩:∃ z,keyV r ar an=z:=⟨_,rfl⟩
 have HZ:Hid (modI (argV r ar an) 64=z):=Zh hz
 have HZK:=Zh hz
 obtain ⟨y,hy⟩:∃ y,keyV r br bn=y:=⟨_,rfl⟩
 have HY:Hid (modI (argV r br bn) 64=y):=Zh hy
 have HYK:=Zh hy
 clear hz hy hF h hc ha hb
 have XB:Hid (Blk (w.alloc (.cells #[.int .i64 3,.int .i64 c,.int .i64 reg,.int .i64 ar,.int .i64 an,.int .i64 br,.int .i64 bn,vb,ve] 62)) w.heap.size 62 #[.int .i64 3,.int .i64 c,.int .i64 reg,.int .i64 ar,.int .i64 an,.int .i64 br,.int .i64 bn,vb,ve]):=Zh (Blk.new w _ _)
 have UA:Hid (Upd [] w (w.alloc (.cells #[.int .i64 3,.int .i64 c,.int .i64 reg,.int .i64 ar,.int .i64 an,.int .i64 br,.int .i64 bn,vb,ve] 62))):=Zh ((Upd.refl [] w).alloc _)
 go_enter Tryz.func79,Tryz.ntmps79
 go_wp2_with fail
 generalize (w.alloc (.cells #[.int .i64 3,.int .i64 c,.int .i64 reg,.int .i64 ar,.int .i64 an,.int .i64 br,.int .i64 bn,vb,ve] 62))=w1 at *
 refine (arg_r ar an w1 (HR.out.upd0 UA.out) HAB.out.1).mono ?_
 rintro e wa ⟨rfl,ua⟩
 have XA:=Zh (XB.out.upd ua (by simp))
 have UU:=Zh (UA.out.trans ua)
 have x5:wa.cell? ⟨w.heap.size,5,none⟩=some (.int .i64 br):=XA.out.cell 5
 have x6:wa.cell? ⟨w.heap.size,6,none⟩=some (.int .i64 bn):=XA.out.cell 6
 clear ua
 go_wp2_with fail
 refine (mod_r (argV r ar an) 64 wa (by omega) (by omega)).mono ?_
 rintro e _ ⟨rfl,rfl⟩
 rw [HZ.out]
 go_wp2_with fail
 refine (arg_r br bn wa (HR.out.upd0 UU.out) HAB.out.2).mono ?_
 rintro e w2 ⟨rfl,ub⟩
 have X2:=Zh (XA.out.upd ub (by simp))
 have U2:=Zh (UU.out.trans ub)
 clear ub x5 x6
 go_wp2_with fail
 refine (mod_r (argV r br bn) 64 w2 (by omega) (by omega)).mono ?_
 rintro e _ ⟨rfl,rfl⟩
 rw [HY.out]
 have x0:w2.cell? ⟨w.heap.size,0,none⟩=some (.int .i64 3):=X2.out.cell 0
 go_wp2_with fail
 clear x0
 have CS:Hid (∀ W,Upd [] w2.drew W→W.cell? ⟨w.heap.size,1,none⟩=some (.int .i64 c)∧W.cell? ⟨w.heap.size,2,none⟩=some (.int .i64 reg)∧W.cell? ⟨w.heap.size,5,none⟩=some (.int .i64 br)∧W.cell? ⟨w.heap.size,6,none⟩=some (.int .i64 bn)∧W.cell? ⟨rb,0,none⟩=some (.pointer (some ⟨sb,0,none⟩))):=Zh (fun W hW => by
  have hu:=(Upd.refl [] w2).drew.trans hW
  have hb:=X2.out.upd hu (by simp)
  exact ⟨hb.cell 1,hb.cell 2,hb.cell 5,hb.cell 6,(HM.out W (U2.out.trans hu)).2⟩)
 refine wp_invNT 7 [] [] (by kernel_rfl) (by simp) (by kernel_rfl) (by kernel_rfl) trivial ?_
 simp only [List.take_succ_cons,List.take_zero,List.drop_succ_cons,List.drop_zero]
 iterate 7 (
  with_reducible apply wpV_light
  ·simp only [lightOp]
  ·intro W hU hF
   have f0:=CS.out W hU
   clear hU hF
   go_simp
   exact rfl
  simp only [aP])
 refine wpV_end (fun W hU _ hF => ?_)
 have UX:Hid (Upd [] w W):=Zh (U2.out.trans ((Upd.refl [] w2).drew.trans hU))
 clear hU hF
 refine wpT_op (by rfl) (fun K hK => ?_)
 go_wp2_with fail
 obtain ⟨FM,hm⟩:=(HM.out W UX.out).1
 refine (Rf.rm_del 0 sb FM r.s c z W hm (Nat.zero_le _)).mono ?_
 rintro e w5 ⟨F',rfl,hm5,hu⟩
 simp only [HC.out,if_true] at hm5 ⊢
 have R5:=Zh ((HST.out.upd0 UX.out).setM ⟨_,hm5⟩ hu rfl)
 clear hm5 hu hm
 go_wp2_with fail
 refine hK.out _ _ ?_
 clear hK K
 try simp only [aP]
 refine wpT_end ?_
 go_wp2_with fail
 go_ret
 rw [HZK.out]
 refine ⟨rfl,F,?_,?_⟩
 ·rw [← HFE.out]; exact ⟨sb,vt,rfl,R5.out.1⟩
 ·rw [← HFE.out]; exact R5.out.2.pre UX.out
end Go.Proofs.YtmjnmpifibemjaaGreatDoor.Rv
namespace Go.Proofs.YtmjnmpifibemjaaGreatDoor.Rv
open Go.RowKit Assoc MP Ev
attribute [local go_sem] litStep_value
theorem ask_list' {H rb:Nat} {F:List Nat} {ks:List Int} {r:RS} (i:Nat) (reg ar an br bn:Int) (vb ve:Value) (w:World) (h:Rn H rb F ks w r) (hi:i < r.s.L.length) (Lc:AL) (n:Nat) (hLc:coll r.s i=Lc) (hn:Lc.length=n) (ha:0≤ar∧ar≤8) (hb:0≤br∧br≤8) (hl:r.told.length + 201≤201 * 1000) :
 Calls Tryz.prog 79 #[.pointer (some ⟨rb,0,none⟩),.agg #[.int .i64 8,.int .i64 i,.int .i64 reg,.int .i64 ar,.int .i64 an,.int .i64 br,.int .i64 bn,vb,ve]] w fun e w' => e=.returned (.int .i64 0)∧RnPost H rb F ks (tellL r n Lc) w w':=by
 have HL:=Zh hl
 clear hl
 have HI:=Zh hi
 have HLC:=Zh hLc
 have HN:=Zh hn
 have hc:=True.intro
 clear hi hLc hn
 have HR:=Zh h
 obtain ⟨sb,vt,hF,h⟩:=h
 have HFE:Hid ([rb,sb]=F):=Zh hF.symm
 have HST:=Zh h
 have HM:Hid (∀ W,Upd [] w W→(∃ FM,RMdl 0 sb FM W r.s)∧W.cell? ⟨rb,0,none⟩=some (.pointer (some ⟨sb,0,none⟩))):=Zh (fun W hu => ⟨(HST.out.upd0 hu).st,(HST.out.upd0 hu).cells.1⟩)
 have HC:=Zh hc
 have HAB:=Zh (And.intro ha hb)
 have hrb:=h.blk.lt
 have hsb:=h.st.lt
 obtain ⟨z,hz⟩:∃ z,keyV r ar an=z:=⟨_,rfl⟩
 have HZ:Hid (modI (argV r ar an) 64=z):=Zh hz
 have HZK:=Zh hz
 obtain ⟨y,hy⟩:∃ y,keyV r br bn=y:=⟨_,rfl⟩
 have HY:Hid (modI (argV r br bn) 64=y):=Zh hy
 have HYK:=Zh hy
 clear hz hy hF h hc ha hb
 have XB:Hid (Blk (w.alloc (.cells #[.int .i64 8,.int .i64 i,.int .i64 reg,.int .i64 ar,.int .i64 an,.int .i64 br,.int .i64 bn,vb,ve] 62)) w.heap.size 62 #[.int .i64 8,.int .i64 i,.int .i64 reg,.int .i64 ar,.int .i64 an,.int .i64 br,.int .i64 bn,vb,ve]):=Zh (Blk.new w _ _)
 have UA:Hid (Upd [] w (w.alloc (.cells #[.int .i64 8,.int .i64 i,.int .i64 reg,.int .i64 ar,.int .i64 an,.int .i64 br,.int .i64 bn,vb,ve] 62))):=Zh ((Upd.refl [] w).alloc _)
 go_enter Tryz.func79,Tryz.ntmps79
 go_wp2_with fail
 generalize (w.alloc (.cells #[.int .i64 8,.int .i64 i,.int .i64 reg,.int .i64 ar,.int .i64 an,.int .i64 br,.int .i64 bn,vb,ve] 62))=w1 at *
 refine (arg_r ar an w1 (HR.out.upd0 UA.out) HAB.out.1).mono ?_
 rintro e wa ⟨rfl,ua⟩
 have XA:=Zh (XB.out.upd ua (by simp))
 have UU:=Zh (UA.out.trans ua)
 have x5:wa.cell? ⟨w.heap.size,5,none⟩=some (.int .i64 br):=XA.out.cell 5
 have x6:wa.cell? ⟨w.heap.size,6,none⟩=some (.int .i64 bn):=XA.out.cell 6
 clear ua
 go_wp2_with fail
 refine (mod_r (argV r ar an) 64 wa (by omega) (by omega)).mono ?_
 rintro e _ ⟨rfl,rfl⟩
 rw [HZ.out]
 go_wp2_with fail
 refine (arg_r br bn wa (HR.out.upd0 UU.out) HAB.out.2).mono ?_
 rintro e w2 ⟨rfl,ub⟩
 have X2:=Zh (XA.out.upd ub (by simp))
 have U2:=Zh (UU.out.trans ub)
 clear ub x5 x6
 go_wp2_with fail
 refine (mod_r (argV r br bn) 64 w2 (by omega) (by omega)).mono ?_
 rintro e _ ⟨rfl,rfl⟩
 rw [HY.out]
 have x0:w2.cell? ⟨w.heap.size,0,none⟩=some (.int .i64 8):=X2.out.cell 0
 go_wp2_with fail
 clear x0
 have CS:Hid (∀ W,Upd [] w2.drew W→W.cell? ⟨w.heap.size,1,none⟩=some (.int .i64 i)∧W.cell? ⟨w.heap.size,2,none⟩=some (.int .i64 reg)∧W.cell? ⟨w.heap.size,5,none⟩=some (.int .i64 br)∧W.cell? ⟨w.heap.size,6,none⟩=some (.int .i64 bn)∧W.cell? ⟨rb,0,none⟩=some (.pointer (some ⟨sb,0,none⟩))):=Zh (fun W hW => by
  have hu:=(Upd.refl [] w2).drew.trans hW
  have hb:=X2.out.upd hu (by simp)
  exact ⟨hb.cell 1,hb.cell 2,hb.cell 5,hb.cell 6,(HM.out W (U2.out.trans hu)).2⟩)
 obtain ⟨gl,N,cl,Ai,ci,hiN,hN8,hat⟩:=(HST.out.upd0 U2.out).st.at_ HI.out
 have hn100:Lc.length≤100:=by rw [← HLC.out]; exact HR.out.good.len _ (coll_mem HI.out)
 rw [HLC.out,HN.out] at hat
 rw [HN.out] at hn100
 obtain ⟨At,ct,hvt,_,_⟩:=own_slice HST.out.told
 obtain ⟨m,hm⟩:∃ m,r.told.length=m:=⟨_,rfl⟩
 rw [hm] at hvt HL
 subst hvt
 have HMM:=Zh hm
 have m63:=HL.out
 have HAT:=Zh hat
 have CS2:Hid (∀ W,Upd [] w2.drew W→W.cell? ⟨sb,1,none⟩=some (.slice (some ⟨gl,0,none⟩) N cl)∧W.cell? ⟨gl,i,none⟩=some (.slice Ai n ci)∧W.cell? ⟨rb,10,none⟩=some (.slice At m ct)):=Zh (fun W hW => ⟨(HAT.out W ((Upd.refl [] w2).drew.trans hW)).1,(HAT.out W ((Upd.refl [] w2).drew.trans hW)).2.1,((HST.out.upd0 (U2.out.trans ((Upd.refl [] w2).drew.trans hW))).cells).2.1⟩)
 have FT:Hid (∀ W,Upd [] w2.drew W→Src W 1 (.slice At m ct) m (Ev.ints r.told)):=Zh (fun W hW => by
  have:=Src.of_own (own_upd0 HST.out.told (U2.out.trans ((Upd.refl [] w2).drew.trans hW)))
  rwa [HMM.out] at this)
 have ONE:Hid (∀ u ∈ Ev.ints r.told,u.oneCell'=true):=Zh (by intro u hu; obtain ⟨x,_,rfl⟩:=List.mem_map.1 hu; rfl)
 have q1:(0:Int)≤(i:Int):=by omega
 have q2:(i:Int) < (N:Int):=by omega
 have S2:=Zh U2.out.size
 clear hat hm
 refine wp_invNT 19 [(0,.own w2.heap.size 3 1 0 []),(5,.own w2.heap.size 3 1 m (Ev.ints r.told)),(18,.src 1 1 [.int .i64 n])] [(5,[0])] (by kernel_rfl) (by simp) (by kernel_rfl) (by kernel_rfl) ⟨lasts_own _ _ _ _ _ (by simp [maxLen]),lasts_own _ _ _ _ _ (by simp only [maxLen]; omega),lasts_src _ _ _,trivial⟩ ?_
 simp only [List.take_succ_cons,List.take_zero,List.drop_succ_cons,List.drop_zero]
 refine wpV_heavy (by simp only [lightOp]) (by rfl) (fun W hU hk hF K hK => ?_) ?_
 ·go_wp2_with fail
  exact wpV_made hK rfl rfl rfl rfl hU.size
 rintro _ ⟨A1,c1,rfl,_,_⟩
 simp only [aP]
 iterate 4 (
  with_reducible apply wpV_light
  ·simp only [lightOp]
  ·intro W hU hF
   have f0:=CS.out W hU
   have f1:=CS2.out W hU
   clear hU hF
   go_simp
   exact rfl
  simp only [aP])
 refine wpV_heavy (by simp only [lightOp]) (by rfl) (fun W hU hk hF K hK => ?_) ?_
 ·exact wpV_app hK (.tmp 146) (.tmp 150) _ (by rfl) elem_int _ _ (by rfl) (by rfl) rfl rfl (by simp [usedV,mkI,conOf,specOf,Spec.own]) (hF.out.1 (by kernel_rfl)) (FT.out W hU) (by omega) (by simp) ONE.out (by simp only [maxLen]; omega) (by omega) hU.size
 rintro _ ⟨A2,c2,rfl,_,_⟩
 simp only [aP]
 iterate 12 (
  with_reducible apply wpV_light
  ·simp only [lightOp]
  ·intro W hU hF
   have f0:=CS.out W hU
   have f1:=CS2.out W hU
   clear hU hF
   go_simp
   exact rfl
  simp only [aP])
 refine wpV_heavy (by simp only [lightOp]) (by rfl) (fun W hU hk hF K hK => ?_) ?_
 ·go_wp2_with fail
  have hh:=hK.out (.slice (some ⟨W.heap.size,0,none⟩) 1 1) (W.alloc (.cells #[.int .i64 n] 3)) (outV_new rfl (Src.newAt rfl 1 rfl) (by intro b hb; obtain rfl:b=W.heap.size:=(by simpa [mkI,specOf,Spec.src,Value.ownBlock,eq_comm] using hb); exact ⟨Nat.le_refl _,by simp⟩) ((Upd.refl [] W).alloc _))
  simp only [aP] at hh
  exact hh
 rintro _ ⟨A3,c3,rfl⟩
 simp only [aP]
 refine wpV_end (fun W hU _ hF => ?_)
 have UX:Hid (Upd [] w2 W):=Zh ((Upd.refl [] w2).drew.trans hU)
 have O2:Hid (W.ownsRow w2.heap.size 3 1 (.slice A2 m c2) m (Ev.ints r.told)):=Zh (hF.out.2.1 (by kernel_rfl))
 have O3:Hid (Src W 1 (.slice A3 1 c3) 1 [.int .i64 n]):=Zh (hF.out.2.2.1 (by kernel_rfl))
 clear hU hF
 refine wpT_op (by rfl) (fun K hK => ?_)
 refine wp_app _ (.tmp 151) (.tmp 164) _ (by rfl) elem_int _ _ (by rfl) (by rfl) O2.out O3.out (by intro u hu; simp at hu; subst hu; rfl) (by simp only [maxLen]; omega) (by omega) UX.out.size ?_
 intro v5 w5 o5 u5 b5
 refine hK.out _ _ ?_
 clear hK K
 try simp only [aP]
 have U5:Hid (Upd [] w2 w5):=Zh (UX.out.trans' u5 (by intro x hx; simp only [Option.mem_toList] at hx; exact .inr (own_lt O2.out hx).1))
 have S5:Hid (w5.ownsRow w2.heap.size 3 1 v5 (m + 1 + 2 * 0) (Ev.ints (r.told ++ (n:Int) :: flatP (Lc.take 0)))):=Zh (by
  rw [show Ev.ints (r.told ++ (n:Int) :: flatP (Lc.take 0))=Ev.ints r.told ++ [.int .i64 n] by simp [flatP,Ev.ints]]
  exact o5)
 clear o5 u5 b5 UX O2 O3
 refine wpT_op (by rfl) (fun K hK => ?_)
 go_wp2_with fail
 refine hK.out _ _ ?_
 clear hK K
 try simp only [aP]
 refine wpT_end ?_
 go_wp2_with fail
 go_loopw [15,16] (fun u15 u16 wr => ∃ j:Nat,u16=.int .i64 j∧j≤n∧Hid (Upd [] w2 wr∧wr.ownsRow w2.heap.size 3 1 u15 (m + 1 + 2 * j) (Ev.ints (r.told ++ (n:Int) :: flatP (Lc.take j))))) (fun _ u _ => n - (intOf u).toNat)
 case atStart => exact ⟨0,rfl,by omega,Zh ⟨U5.out,S5.out⟩⟩
 case round =>
  obtain ⟨j,rfl,hj,HK⟩:=hrel
  rename World => wr
  obtain ⟨Al,cl',rfl,_,_⟩:=own_slice HK.out.2
  have CB:Hid (∀ W,Upd [] wr.drew W→W.cell? ⟨sb,1,none⟩=some (.slice (some ⟨gl,0,none⟩) N cl)∧W.cell? ⟨gl,i,none⟩=some (.slice Ai n ci)∧W.cell? ⟨w.heap.size,1,none⟩=some (.int .i64 i)∧W.cell? ⟨rb,0,none⟩=some (.pointer (some ⟨sb,0,none⟩))):=Zh (fun W hW => by
   have hu:Upd [] w2 W:=HK.out.1.trans ((Upd.refl [] wr).drew.trans hW)
   have hb:=X2.out.upd hu (by simp)
   exact ⟨(HAT.out W hu).1,(HAT.out W hu).2.1,hb.cell 1,(HM.out W (U2.out.trans hu)).2⟩)
  go_wp2_with fail
  refine wp_invN [] [] (by kernel_rfl) (by kernel_rfl) (by kernel_rfl) trivial ?_
  iterate 14 (
   with_reducible apply wpV_light
   ·simp only [lightOp]
   ·intro W hU hF
    have f0:=CB.out W hU
    clear hU hF
    go_simp
    exact rfl
   simp only [aP])
  refine wpV_end (fun W hU _ hF => ?_)
  have UW:Hid (Upd [] w2 W):=Zh (HK.out.1.trans ((Upd.refl [] wr).drew.trans hU))
  have OW:Hid (W.ownsRow w2.heap.size 3 1 (.slice Al (m + 1 + 2 * j) cl') (m + 1 + 2 * j) (Ev.ints (r.told ++ (n:Int) :: flatP (Lc.take j)))):=Zh (own_upd0 HK.out.2 ((Upd.refl [] wr).drew.trans hU))
  clear hU hF CB HK
  refine wpT_end ?_
  by_cases hjn:j < n
  ·have d1:decide (j < n)=true:=by simpa using hjn
   rw [d1]
   clear d1
   obtain ⟨x,hx⟩:∃ x,Lc[j]?=some x:=⟨_,List.getElem?_eq_getElem (by rw [HN.out]; exact hjn)⟩
   obtain ⟨xk,xv⟩:=x
   have HX:=Zh hx
   obtain ⟨gp,hAi⟩:∃ gp,Ai=some ⟨gp,0,none⟩:=by
    have h3:=(HAT.out w2 (.refl _ _)).2.2
    unfold Ow at h3
    rw [HN.out] at h3
    obtain ⟨g,cap,cur,e,_⟩:=own_form h3 (by omega)
    injection e with e
    exact ⟨g,e⟩
   subst hAi
   have CB:Hid (∀ W',Upd [] W.drew W'→W'.cell? ⟨sb,1,none⟩=some (.slice (some ⟨gl,0,none⟩) N cl)∧W'.cell? ⟨gl,i,none⟩=some (.slice (some ⟨gp,0,none⟩) n ci)∧W'.cell? ⟨w.heap.size,1,none⟩=some (.int .i64 i)∧W'.cell? ⟨rb,0,none⟩=some (.pointer (some ⟨sb,0,none⟩))∧W'.cell? ⟨gp,j * 2,none⟩=some (.int .i64 xk)∧W'.cell? ⟨gp,j * 2 + 1,none⟩=some (.int .i64 xv)):=Zh (fun W' hW => by
    have hu:Upd [] w2 W':=UW.out.trans ((Upd.refl [] W).drew.trans hW)
    have hb:=X2.out.upd hu (by simp)
    have hp:=(HAT.out W' hu).2.2
    exact ⟨(HAT.out W' hu).1,(HAT.out W' hu).2.1,hb.cell 1,(HM.out W' (U2.out.trans hu)).2,hp.at_ HX.out 0 _ rfl,hp.at_ HX.out 1 _ rfl⟩)
   have q3:(0:Int)≤(j:Int):=by omega
   have q4:(j:Int) < (n:Int):=by omega
   clear hx hjn
   go_wp2_with fail
   refine wp_invNT 32 [(31,.src 1 2 [.int .i64 xk,.int .i64 xv])] [] (by kernel_rfl) (by simp) (by kernel_rfl) (by kernel_rfl) ⟨lasts_src _ _ _,trivial⟩ ?_
   simp only [List.take_succ_cons,List.take_zero,List.drop_succ_cons,List.drop_zero]
   iterate 31 (
    with_reducible apply wpV_light
    ·simp only [lightOp]
    ·intro W hU hF
     have f0:=CB.out W hU
     clear hU hF
     go_simp
     exact rfl
    simp only [aP])
   refine wpV_heavy (by simp only [lightOp]) (by rfl) (fun W hU hk hF K hK => ?_) ?_
   ·go_wp2_with fail
    have hh:=hK.out (.slice (some ⟨W.heap.size,0,none⟩) 2 2) (W.alloc (.cells #[.int .i64 xk,.int .i64 xv] 3)) (outV_new rfl (Src.newAt rfl 2 rfl) (by intro b hb; obtain rfl:b=W.heap.size:=(by simpa [mkI,specOf,Spec.src,Value.ownBlock,eq_comm] using hb); exact ⟨Nat.le_refl _,by simp⟩) ((Upd.refl [] W).alloc _))
    simp only [aP] at hh
    exact hh
   rintro _ ⟨A3,c3,rfl⟩
   simp only [aP]
   refine wpV_end (fun W' hU _ hF => ?_)
   have UX:Hid (Upd [] W W'):=Zh ((Upd.refl [] W).drew.trans hU)
   have O3:Hid (Src W' 1 (.slice A3 2 c3) 2 [.int .i64 xk,.int .i64 xv]):=Zh (hF.out.1 (by kernel_rfl))
   clear hU hF
   refine wpT_op (by rfl) (fun K hK => ?_)
   refine wp_app _ (.tmp 182) (.tmp 213) _ (by rfl) elem_int _ _ (by rfl) (by rfl) (own_upd0 OW.out UX.out) O3.out (by intro u hu; simp at hu; rcases hu with rfl | rfl <;> rfl) (by simp only [maxLen]; omega) (by omega) (Nat.le_trans UW.out.size UX.out.size) ?_
   intro v7 w7 o7 u7 b7
   refine hK.out _ _ ?_
   clear hK K
   try simp only [aP]
   have U7:Hid (Upd [] w2 w7):=Zh ((UW.out.trans UX.out).trans' u7 (by intro x hx; simp only [Option.mem_toList] at hx; exact .inr (own_lt OW.out hx).1))
   have S7:Hid (w7.ownsRow w2.heap.size 3 1 v7 (m + 1 + 2 * (j + 1)) (Ev.ints (r.told ++ (n:Int) :: flatP (Lc.take (j + 1))))):=Zh (by
    rw [List.take_add_one,HX.out]
    simp only [Option.toList_some]
    rw [flatP_snoc,show Ev.ints (r.told ++ (n:Int) :: (flatP (Lc.take j) ++ [xk,xv]))=Ev.ints (r.told ++ (n:Int) :: flatP (Lc.take j)) ++ [.int .i64 xk,.int .i64 xv] by simp [Ev.ints]]
    exact o7)
   clear o7 u7 b7 UX O3 OW CB
   refine wpT_op (by rfl) (fun K hK => ?_)
   go_wp2_with fail
   refine hK.out _ _ ?_
   clear hK K
   try simp only [aP]
   refine wpT_end ?_
   go_wp2_with fail
   go_round
   case rel => exact ⟨j + 1,by go_num,by omega,Zh ⟨U7.out,S7.out⟩⟩
   case measure => simp [intOf]; omega
  ·obtain rfl:j=n:=by omega
   have d1:decide (j < j)=false:=by simp
   rw [d1]
   clear d1
   have R5:=Zh ((HST.out.upd0 (U2.out.trans UW.out)).setT (v:=.slice Al (m + 1 + 2 * j) cl') (td:=r.told ++ (j:Int) :: flatP Lc) (by
    have h1:=OW.out
    rw [List.take_of_length_le (by rw [HN.out]; exact Nat.le_refl _)] at h1
    have h2:(r.told ++ (j:Int) :: flatP Lc).length=m + 1 + 2 * j:=by rw [List.length_append,HMM.out,List.length_cons,flatP_len,HN.out]; omega
    rw [h2]
    exact own_base h1 (Nat.zero_le _)) (by rw [List.length_append,HMM.out,List.length_cons,flatP_len,HN.out]; have:=HL.out; omega))
   obtain ⟨_,c10,_,cf,cl1⟩:=(HST.out.upd0 (U2.out.trans UW.out)).cells
   clear hj hjn
   go_wp2_with fail
   go_ret
   refine ⟨rfl,F,?_,?_⟩
   ·rw [← HFE.out]; exact ⟨sb,_,rfl,R5.out.1⟩
   ·rw [← HFE.out]; exact frm_box (((U2.out.trans UW.out).mono (by simp)).trans R5.out.2)
theorem ask_list {H rb:Nat} {F:List Nat} {ks:List Int} {r:RS} (c reg ar an br bn:Int) (vb ve:Value) (w:World) (h:Rn H rb F ks w r) (hc:isC r.s c=true) (ha:0≤ar∧ar≤8) (hb:0≤br∧br≤8) (hl:r.told.length + 201≤201 * 1000) :
 Calls Tryz.prog 79 #[.pointer (some ⟨rb,0,none⟩),.agg #[.int .i64 8,.int .i64 c,.int .i64 reg,.int .i64 ar,.int .i64 an,.int .i64 br,.int .i64 bn,vb,ve]] w fun e w' => e=.returned (.int .i64 0)∧RnPost H rb F ks (tellL r (coll r.s c.toNat).length (coll r.s c.toNat)) w w':=by
 obtain ⟨i,rfl,hi⟩:=isC_form hc
 exact ask_list' i reg ar an br bn vb ve w h hi _ _ rfl rfl ha hb hl
end Go.Proofs.YtmjnmpifibemjaaGreatDoor.Rv
namespace Go.Proofs.YtmjnmpifibemjaaGreatDoor.Rv
open Go.RowKit Assoc MP Ev
attribute [local go_sem] litStep_value
def EvPR (H rb:Nat) (F:List Nat) (ks:List Int) (x:RS × Int) (w:World) (e:Ending) (w':World):Prop :=
 e=.returned (.int .i64 x.2)∧RnPost H rb F ks x.1 w w'∧TB x.1
theorem EvPR.pre {H rb:Nat} {F:List Nat} {ks:List Int} {x:RS × Int} {w w1 w':World} {e:Ending} (h:EvPR H rb F ks x w1 e w') (hu:Upd [] w w1):EvPR H rb F ks x w e w':=⟨h.1,h.2.1.pre hu,h.2.2⟩
theorem EvPR.preF {H rb:Nat} {F F1:List Nat} {ks:List Int} {x:RS × Int} {w w1 w':World} {e:Ending} (h:EvPR H rb F1 ks x w1 e w') (hf:Frm F F1 w w1):EvPR H rb F ks x w e w':=by
 obtain ⟨h1,⟨F',h3,h5⟩,h4⟩:=h
 exact ⟨h1,⟨F',h3,hf.trans h5⟩,h4⟩
theorem rf_isC {ks:List Int} {k c reg ar an br bn:Int} (h:RF ks k c reg ar an br bn) (h8:k≤8) {H rb:Nat} {F:List Nat} {w:World} {r:RS} (hr:Rn H rb F ks w r):isC r.s c=true:=by
 have hg:=hr.good.kl
 have:=h.hc h8
 rw [← hr.ok.K,hg] at this
 unfold MP.isC
 simpa using this
theorem rf_oErr {ks:List Int} {k c reg ar an br bn:Int} (h:RF ks k c reg ar an br bn) (h67:k=6∨k=7) {H rb:Nat} {F:List Nat} {w:World} {r:RS} (hr:Rn H rb F ks w r):oErr r.s c=0:=by
 have hc:=rf_isC h (by omega) hr
 unfold Go.Proofs.YtmjnmpifibemjaaGreatDoor.oErr
 rw [if_pos hc,hr.ok.K,if_pos (h.ord h67)]
theorem ask_r {H rb:Nat} {F:List Nat} {ks:List Int} {r:RS} (k c reg ar an br bn:Int) (vb ve:Value) (w:World) (hk:k≤8) (hf:RF ks k c reg ar an br bn) (h:Rn H rb F ks w r) (ht:r.told.length + 201≤201 * r.steps) :
 Calls Tryz.prog 79 #[.pointer (some ⟨rb,0,none⟩),.agg #[.int .i64 k,.int .i64 c,.int .i64 reg,.int .i64 ar,.int .i64 an,.int .i64 br,.int .i64 bn,vb,ve]] w (EvPR H rb F ks (askR k c reg ar an br bn r) w):=by
 have hc:=rf_isC hf hk h
 have hst:=h.ok.steps
 have hl:r.told.length + 1≤201 * 1000:=by omega
 have hl2:r.told.length + 201≤201 * 1000:=by omega
 have h16:=hf.hk
 have hn:∀ {v:Int} {e:Ending} {w':World},(e=.returned (.int .i64 0)∧RnPost H rb F ks (tell r reg v) w w')→EvPR H rb F ks (tell r reg v,0) w e w':=fun ⟨h1,h2⟩ => ⟨h1,h2,tb_tell _ _ ht⟩
 have hs:∀ {s':MS} {e:Ending} {w':World},(e=.returned (.int .i64 0)∧RnPost H rb F ks { r with s:=s' } w w')→EvPR H rb F ks ({ r with s:=s' },0) w e w':=fun ⟨h1,h2⟩ => ⟨h1,h2,by unfold TB; simp only; omega⟩
 have hcase:k=1∨k=2∨k=3∨k=4∨k=5∨k=6∨k=7∨k=8:=by omega
 rcases hcase with rfl | rfl | rfl | rfl | rfl | rfl | rfl | rfl
 ·have e:askR 1 c reg ar an br bn r=(tell r reg ((get (coll r.s c.toNat) (keyV r ar an)).getD (-1)),0):=rfl
  rw [e]
  cases hg:get (coll r.s c.toNat) (keyV r ar an) with
  | none => exact (ask_get0 c reg ar an br bn vb ve w h hc hf.hreg.1 hf.hreg.2 hf.a hf.b trivial hl hg).mono fun _ _ hp => hn hp
  | some g => exact (ask_get1 c reg ar an br bn vb ve w h hc hf.hreg.1 hf.hreg.2 hf.a hf.b trivial hl g hg).mono fun _ _ hp => hn hp
 ·have e:askR 2 c reg ar an br bn r=(if putE (coll r.s c.toNat) (keyV r ar an)=0 then ({ r with s:=mPut r.s c.toNat (keyV r ar an) (valV r br bn) },0) else (r,5)):=rfl
  rw [e]
  by_cases hp:putE (coll r.s c.toNat) (keyV r ar an)=0
  ·rw [if_pos hp]
   exact (ask_put c reg ar an br bn vb ve w h hc hf.a hf.b hp).mono fun _ _ hp => hs hp
  ·rw [if_neg hp]
   have hp8:putE (coll r.s c.toNat) (keyV r ar an)=8:=by
    unfold putE at hp ⊢
    split at hp
    ·rename_i h1; rw [if_pos h1]
    ·exact absurd rfl hp
   exact (ask_full c reg ar an br bn vb ve w h hc hf.a hf.b hp8).mono fun _ _ ⟨h1,h2⟩ => ⟨h1,h2,show TB r by unfold TB; omega⟩
 ·have e:askR 3 c reg ar an br bn r=({ r with s:=mDel r.s c.toNat (keyV r ar an) },0):=rfl
  rw [e]
  exact (ask_del c reg ar an br bn vb ve w h hc hf.a hf.b).mono fun _ _ hp => hs hp
 ·have e:askR 4 c reg ar an br bn r=(tell r reg (if (get (coll r.s c.toNat) (keyV r ar an)).isSome then 1 else 0),0):=rfl
  rw [e]
  cases hg:get (coll r.s c.toNat) (keyV r ar an) with
  | none => exact (ask_has0 c reg ar an br bn vb ve w h hc hf.hreg.1 hf.hreg.2 hf.a hf.b trivial hl hg).mono fun _ _ hp => hn hp
  | some g => exact (ask_has1 c reg ar an br bn vb ve w h hc hf.hreg.1 hf.hreg.2 hf.a hf.b trivial hl g hg).mono fun _ _ hp => hn hp
 ·have e:askR 5 c reg ar an br bn r=(tell r reg (coll r.s c.toNat).length,0):=rfl
  rw [e]
  exact (ask_size c reg ar an br bn vb ve w h hc hf.hreg.1 hf.hreg.2 hf.a hf.b trivial hl _ rfl).mono fun _ _ hp => hn hp
 ·have e:askR 6 c reg ar an br bn r=(tell r reg ((ceilL (coll r.s c.toNat) (keyV r ar an)).getD (-1)),0):=rfl
  rw [e]
  cases hg:ceilL (coll r.s c.toNat) (keyV r ar an) with
  | none => exact (ask_ceil0 c reg ar an br bn vb ve w h hc hf.hreg.1 hf.hreg.2 hf.a hf.b (rf_oErr hf (.inl rfl) h) hl hg).mono fun _ _ hp => hn hp
  | some g => exact (ask_ceil1 c reg ar an br bn vb ve w h hc hf.hreg.1 hf.hreg.2 hf.a hf.b (rf_oErr hf (.inl rfl) h) hl g hg).mono fun _ _ hp => hn hp
 ·have e:askR 7 c reg ar an br bn r=(tell r reg (rangeL (coll r.s c.toNat) (keyV r ar an) (keyV r br bn)),0):=rfl
  rw [e]
  exact (ask_range c reg ar an br bn vb ve w h hc hf.hreg.1 hf.hreg.2 hf.a hf.b (rf_oErr hf (.inr rfl) h) hl _ rfl).mono fun _ _ hp => hn hp
 ·have e:askR 8 c reg ar an br bn r=(tellL r (coll r.s c.toNat).length (coll r.s c.toNat),0):=rfl
  rw [e]
  have hlen:(coll r.s c.toNat).length≤100:=h.good.len _ (coll_mem (isC_lt hc))
  refine (ask_list c reg ar an br bn vb ve w h hc hf.a hf.b hl2).mono fun _ _ ⟨h1,h2⟩ => ⟨h1,h2,?_⟩
  unfold TB tellL
  simp only [List.length_append,List.length_cons,flatP_len]
  omega
def AllR (ks:List Int) (l:List Stm):Prop:=∀ (H rb:Nat) (F:List Nat) (v:Value) (r:RS) (w:World),Rn H rb F ks w r→TB r→Stms w H v l→H≤w.heap.size →
 Calls Tryz.prog 22 #[.pointer (some ⟨rb,0,none⟩),v] w (EvPR H rb F ks (evL l r) w)
def OneR (ks:List Int):Stm→Prop
 | .mk k c reg ar an br bn b e => ∀ (H rb:Nat) (F:List Nat) (vb ve:Value) (r:RS) (w:World),Rn H rb F ks w r→r.told.length + 201≤201 * r.steps→Stms w H vb b→Stms w H ve e→H≤w.heap.size →
   Calls Tryz.prog 48 #[.pointer (some ⟨rb,0,none⟩),.agg #[.int .i64 k,.int .i64 c,.int .i64 reg,.int .i64 ar,.int .i64 an,.int .i64 br,.int .i64 bn,vb,ve]] w (EvPR H rb F ks (ev (.mk k c reg ar an br bn b e) r) w)
theorem Rn.setN {H rb:Nat} {F:List Nat} {ks:List Int} {w:World} {r:RS} (h:Rn H rb F ks w r) {n:Nat} (hn:n≤1000):Rn H rb F ks (w.setCell ⟨rb,11,none⟩ (.int .i64 n)) { r with steps:=n }∧Frm F F w (w.setCell ⟨rb,11,none⟩ (.int .i64 n)):=by
 obtain ⟨sb,vt,rfl,h⟩:=h
 exact ⟨⟨sb,vt,rfl,h.setN hn⟩,frm_box (Upd.setCell (p:=⟨rb,11,none⟩) (.refl _ _) (.inl (by simp)) _)⟩
theorem Rn.cells {H rb:Nat} {F:List Nat} {ks:List Int} {w:World} {r:RS} (h:Rn H rb F ks w r):w.cell? ⟨rb,11,none⟩=some (.int .i64 r.steps)∧(∀ i,w.frozen? ⟨rb,i,none⟩=false)∧rb < w.heap.size:=by
 obtain ⟨sb,vt,rfl,h⟩:=h
 exact h.cells.2.2
theorem all_r (ks:List Int) (l:List Stm) (hx:∀ x ∈ l,OneR ks x):AllR ks l:=by
 intro H rb F v r w hr ht hv hH
 obtain ⟨X,hX⟩:∃ X,evL l r=X:=⟨_,rfl⟩
 have HX:=Zh hX
 rw [hX]
 have HLI:=Zh hv
 have HO:=Zh hx
 have HHH:=Zh hH
 have HFL:=Zh (fun k hk => (hr.lt k hk).1)
 have S0:Hid (∃ Fk rk,Rn H rb Fk ks w rk∧Frm F Fk w w∧TB rk∧X=evL (l.drop 0) rk):=Zh ⟨F,r,hr,Frm.refl _ _,ht,hX.symm⟩
 clear hX hx hr ht hH
 cases hv with
 | mk A nn c l vb ve hln hc hcm hcell hbb hee =>
 have hnn:nn≤9223372036854775807:=by omega
 have HLN:=Zh hln
 have HCE:=Zh hcell
 have HBB:=Zh hbb
 have HEE:=Zh hee
 clear hln hcell hbb hee
 go_enter Tryz.func22,Tryz.ntmps22
 go_wp2_with fail
 go_loopw [5] (fun i wr => ∃ k:Nat,i=.int .i64 k∧k≤nn∧Hid (∃ Fk rk,Rn H rb Fk ks wr rk∧Frm F Fk w wr∧TB rk∧X=evL (l.drop k) rk)) (fun i _ => nn - (intOf i).toNat)
 case atStart => exact ⟨0,rfl,by omega,S0⟩
 case round =>
  obtain ⟨k,rfl,hk,HK⟩:=hrel
  rename World => wr
  by_cases hkn:k < nn
  ·obtain ⟨x,hx⟩:∃ x,l[k]?=some x:=⟨_,List.getElem?_eq_getElem (by rw [HLN.out]; exact hkn)⟩
   obtain ⟨Fk,rk,hr,hf,ht,he⟩:=HK.out
   have HI:=Zh (HO.out x (List.mem_of_getElem? hx))
   have HDR:Hid (l.drop k=x :: l.drop (k + 1)):=Zh (by
    obtain ⟨h1,h2⟩:=List.getElem?_eq_some_iff.1 hx
    rw [List.drop_eq_getElem_cons h1,h2])
   obtain ⟨a1,a2,a3,a4,a5,a6,a7,bo,el⟩:=x
   obtain ⟨ad,rfl,hlt,hcc⟩:=HCE.out k a1 a2 a3 a4 a5 a6 a7 bo el hx
   have HSB:=Zh ((HBB.out k a1 a2 a3 a4 a5 a6 a7 bo el hx).frm hf HFL.out HHH.out)
   have HSE:=Zh ((HEE.out k a1 a2 a3 a4 a5 a6 a7 bo el hx).frm hf HFL.out HHH.out)
   have HFR:=Zh hf
   have HRK:=Zh hr
   have HTB:=Zh ht
   obtain ⟨Ab,nb,cb,hub⟩:=HSB.out.slice
   obtain ⟨Ae,ne,ce,hue⟩:=HSE.out.slice
   rw [hub] at HSB
   rw [hue] at HSE
   rw [hub,hue] at hcc
   obtain ⟨c11,cf,cl⟩:=hr.cells
   have HEV:=Zh he
   obtain ⟨st,hst⟩:∃ st,rk.steps=st:=⟨_,rfl⟩
   have HST:=Zh hst
   rw [hst] at c11
   have q1:(0:Int)≤(k:Int):=by omega
   have q2:(k:Int) < (nn:Int):=by omega
   have hs1000:st≤1000:=hst ▸ hr.ok.steps
   have HCC:=Zh hcc
   have HLT:=Zh hlt
   have hlr:=hr.lt
   clear hr hf ht he hx hcc hub hue hst HK
   by_cases h1:st=1000
   ·have d1:((st:Int) == 1000)=true:=by simp; omega
    have HXX:Hid (X=(rk,4)):=Zh (by rw [HEV.out,HDR.out,evL_cons,if_pos (by rw [HST.out]; omega)])
    clear h1 hs1000
    go_wp2_with fail
    go_ret
    rw [HXX.out]
    exact ⟨rfl,⟨Fk,HRK.out,HFR.out⟩,HTB.out⟩
   ·have d1:((st:Int) == 1000)=false:=by simp; omega
    have HNE:Hid (st + 1≤1000):=Zh (by omega)
    have R1:=Zh (HRK.out.setN (n:=st + 1) HNE.out)
    rw [show ((st + 1:Nat):Int)=(st:Int) + 1 by omega] at R1
    have HXX:Hid (X=if (ev (.mk a1 a2 a3 a4 a5 a6 a7 bo el) { rk with steps:=st + 1 }).2=0 then evL (l.drop (k + 1)) (ev (.mk a1 a2 a3 a4 a5 a6 a7 bo el) { rk with steps:=st + 1 }).1 else ev (.mk a1 a2 a3 a4 a5 a6 a7 bo el) { rk with steps:=st + 1 }):=Zh (by rw [HEV.out,HDR.out,evL_cons,if_neg (by rw [HST.out]; have:=HNE.out; omega),HST.out])
    have HTT:Hid (rk.told.length + 201≤201 * (st + 1)):=Zh (by have:=HTB.out; unfold TB at this; rw [HST.out] at this; omega)
    have HLk:Hid (∀ k ∈ Fk,H≤k):=Zh (fun k hk => (hlr k hk).1)
    have HHr:Hid (H≤wr.heap.size):=Zh (Nat.le_trans HHH.out HFR.out.upd.size)
    have G1:=Zh (HFR.out.trans R1.out.2)
    have hcw:∀ j u,(stmCells a1 a2 a3 a4 a5 a6 a7 (.slice Ab nb cb) (.slice Ae ne ce))[j]?=some u→(wr.setCell ⟨rb,11,none⟩ (.int .i64 ((st:Int) + 1))).cell? (ad.add (k * 9 + j))=some u:=fun j u hj =>
     ((G1.out.upd.below HHH.out HFL.out).cell (by rw [block_add]; exact HLT.out)).trans (HCC.out j u hj)
    have e0:(wr.setCell ⟨rb,11,none⟩ (.int .i64 ((st:Int) + 1))).cell? (ad.add (k * 9))=some (.int .i64 a1):=hcw 0 _ rfl
    have e1:(wr.setCell ⟨rb,11,none⟩ (.int .i64 ((st:Int) + 1))).cell? ⟨(ad.add (k * 9)).block,(ad.add (k * 9)).off + 1,none⟩=some (.int .i64 a2):=by
     have:=hcw 1 _ rfl; rwa [show k * 9 + 1=k * 9 + (0 + 1) from rfl,add_more] at this
    have e2:(wr.setCell ⟨rb,11,none⟩ (.int .i64 ((st:Int) + 1))).cell? ⟨(ad.add (k * 9)).block,(ad.add (k * 9)).off + 2,none⟩=some (.int .i64 a3):=by
     have:=hcw 2 _ rfl; rwa [show k * 9 + 2=k * 9 + (1 + 1) from rfl,add_more] at this
    have e3:(wr.setCell ⟨rb,11,none⟩ (.int .i64 ((st:Int) + 1))).cell? ⟨(ad.add (k * 9)).block,(ad.add (k * 9)).off + 3,none⟩=some (.int .i64 a4):=by
     have:=hcw 3 _ rfl; rwa [show k * 9 + 3=k * 9 + (2 + 1) from rfl,add_more] at this
    have e4:(wr.setCell ⟨rb,11,none⟩ (.int .i64 ((st:Int) + 1))).cell? ⟨(ad.add (k * 9)).block,(ad.add (k * 9)).off + 4,none⟩=some (.int .i64 a5):=by
     have:=hcw 4 _ rfl; rwa [show k * 9 + 4=k * 9 + (3 + 1) from rfl,add_more] at this
    have e5:(wr.setCell ⟨rb,11,none⟩ (.int .i64 ((st:Int) + 1))).cell? ⟨(ad.add (k * 9)).block,(ad.add (k * 9)).off + 5,none⟩=some (.int .i64 a6):=by
     have:=hcw 5 _ rfl; rwa [show k * 9 + 5=k * 9 + (4 + 1) from rfl,add_more] at this
    have e6:(wr.setCell ⟨rb,11,none⟩ (.int .i64 ((st:Int) + 1))).cell? ⟨(ad.add (k * 9)).block,(ad.add (k * 9)).off + 6,none⟩=some (.int .i64 a7):=by
     have:=hcw 6 _ rfl; rwa [show k * 9 + 6=k * 9 + (5 + 1) from rfl,add_more] at this
    have e7:(wr.setCell ⟨rb,11,none⟩ (.int .i64 ((st:Int) + 1))).cell? ⟨(ad.add (k * 9)).block,(ad.add (k * 9)).off + 7,none⟩=some (.slice Ab nb cb):=by
     have:=hcw 7 _ rfl; rwa [show k * 9 + 7=k * 9 + (6 + 1) from rfl,add_more] at this
    have e8:(wr.setCell ⟨rb,11,none⟩ (.int .i64 ((st:Int) + 1))).cell? ⟨(ad.add (k * 9)).block,(ad.add (k * 9)).off + 8,none⟩=some (.slice Ae ne ce):=by
     have:=hcw 8 _ rfl; rwa [show k * 9 + 8=k * 9 + (7 + 1) from rfl,add_more] at this
    clear h1 hcw hlr
    go_wp2_with fail
    generalize (wr.setCell ⟨rb,11,none⟩ (.int .i64 ((st:Int) + 1)))=w1 at *
    obtain ⟨EV,hEV⟩:∃ EV,ev (.mk a1 a2 a3 a4 a5 a6 a7 bo el) { rk with steps:=st + 1 }=EV:=⟨_,rfl⟩
    rw [hEV] at HXX
    have HC:=Zh (HI.out H rb Fk (.slice Ab nb cb) (.slice Ae ne ce) { rk with steps:=st + 1 } w1 R1.out.1 HTT.out (HSB.out.frm R1.out.2 HLk.out HHr.out) (HSE.out.frm R1.out.2 HLk.out HHr.out) (Nat.le_trans HHr.out R1.out.2.upd.size))
    rw [hEV] at HC
    clear hEV c11 cf cl e0 e1 e2 e3 e4 e5 e6 e7 e8 q1 q2 d1 hs1000
    refine HC.out.mono ?_
    rintro e w5 ⟨rfl,⟨F5,h5,f5⟩,t5⟩
    have H5:=Zh h5
    have T5:=Zh t5
    have G5:=Zh (HFR.out.trans (R1.out.2.trans f5))
    clear h5 f5 t5 HC
    obtain ⟨EV1,EV2⟩:=EV
    simp only at H5 T5 HXX ⊢
    by_cases h0:EV2=0
    ·have HY:Hid (X=evL (l.drop (k + 1)) EV1):=Zh (by rw [HXX.out,if_pos h0])
     subst h0
     go_wp2_with fail
     go_roundw
     case rel => exact ⟨k + 1,by go_num,by omega,Zh ⟨F5,EV1,H5.out,G5.out,T5.out,HY.out⟩⟩
     case measure => simp [intOf]; omega
    ·have HY:Hid (X=(EV1,EV2)):=Zh (by rw [HXX.out,if_neg h0])
     have d0:(EV2 != 0)=true:=by simpa using h0
     clear h0
     go_wp2_with fail
     go_ret
     rw [HY.out]
     exact ⟨rfl,⟨F5,H5.out,G5.out⟩,T5.out⟩
  ·obtain rfl:k=nn:=by omega
   obtain ⟨Fk,rk,hr,hf,ht,he⟩:=HK.out
   rw [List.drop_of_length_le (by rw [HLN.out]; exact Nat.le_refl _),evL_nil] at he
   have HQ:=Zh (And.intro hr (And.intro hf (And.intro ht he)))
   clear hr hf ht he HK
   go_wp2_with fail
   go_ret
   rw [HQ.out.2.2.2]
   exact ⟨rfl,⟨Fk,HQ.out.1,HQ.out.2.1⟩,HQ.out.2.2.1⟩
end Go.Proofs.YtmjnmpifibemjaaGreatDoor.Rv

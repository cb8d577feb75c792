/-
 concordref12.Sort: the places, sorted.
-/
import Derived.Test.YtmjnmpifibemjaaGreatDoorJtB5
import Derived.Test.YtmjnmpifibemjaaGreatDoorJtB0
import Derived.Deep.RegionHeld3
import Derived.Deep.DrawnRows
import Derived.Test.YtmjnmpifibemjaaGreatDoorJtB2
import Derived.Deep.QuietTactic
import Derived.BigQuiet
import Derived.Test.YtmjnmpifibemjaaGreatDoorJtB4
set_option linter.unusedVariables false
set_option linter.unusedSimpArgs false
set_option maxRecDepth 100000
set_option maxHeartbeats 16000000
namespace Go.Proofs.YtmjnmpifibemjaaGreatDoor
open Go.RowKit
attribute [local go_sem ↓] Go.wp_at_zero Go.wp_at_succ
theorem int_elem:Elem Tryz.prog 22 3 1 8:=.mk' Tryz.underlying22 int_info rfl (by omega)
theorem ints_one (xs:List Nat):∀ u ∈ ints xs,u.oneCell'=true:=by
 intro u hu
 simp only [ints,List.mem_map] at hu
 obtain ⟨x,_,rfl⟩:=hu
 rfl
theorem rsort_ok (A:Option Addr) (n c:Nat) (L:List Att) (w:World) (hA:Atts w A L) (hn:L.length=n) (h60:n≤100) :
 Calls Tryz.prog 64 #[.slice A n c] w fun e w' => ∃ v,e=.returned v∧w'.ownsRow w.heap.size 3 1 v n (ints (srt (ahd L) (List.range n)))∧Upd [] w w':=by
 have HN:=Zh hn
 have HA:=Zh hA
 clear hn hA
 go_enter Tryz.func64,Tryz.ntmps64
 go_wp2_with fail
 go_loopw [3,4] (fun u i wr => ∃ (k:Nat),i=.int .i64 k∧k≤n∧Hid (wr.ownsRow w.heap.size 3 1 u k (ints (srt (ahd L) (List.range k))))∧Hid (Upd [] w wr)) (fun _ i _ => n - (intOf i).toNat)
 case atStart => exact ⟨0,rfl,by omega,Zh (own_nil _ _ _ _),Zh (.refl _ _)⟩
 case round =>
  obtain ⟨i,rfl,hi,HO,HU⟩:=hrel
  by_cases hlt:i < n
  ·obtain ⟨S,hS⟩:∃ S,srt (ahd L) (List.range i)=S:=⟨_,rfl⟩
   have hl:S.length=i:=by rw [← hS,(srt_perm _).length_eq,List.length_range]
   have hr:∀ x ∈ S,x < i:=fun x hx => by rw [← hS] at hx; simpa using (srt_perm _).mem_iff.1 hx
   have HO':=Zh (hS ▸ HO.out)
   have HL:=Zh hl
   have HR:=Zh hr
   have HS:=Zh hS
   obtain ⟨A1,c1,rfl,hc1,hc2⟩:=own_slice HO.out
   unfold maxLen at hc2
   clear hl hr hS HO
   go_wp2_with fail
   obtain ⟨wo,hwo⟩:∃ wo:World,wo=wr:=⟨_,rfl⟩
   subst hwo
   go_loopw [5] (fun u ws => ∃ (k:Nat),u=.int .i64 k∧k≤i∧Hid (Upd [] wo ws)∧Hid (∀ j,j < k→ahd L (S.getD j default) i=true)) (fun u _ => i - (intOf u).toNat)
   case atStart => exact ⟨0,rfl,by omega,Zh (.refl _ _),Zh (by intro j hj; omega)⟩
   case round =>
    obtain ⟨k,rfl,hk,KU,KA⟩:=hrel
    have hk0:(0:Int)≤k:=by omega
    have hk1:(k:Int)≤i:=by omega
    have hk2:(i:Int)≤c1:=by omega
    have hk3:(k:Int)≤c1:=by omega
    by_cases hki:k < i
    ·have KO:=Zh (own_upd0 HO'.out KU.out)
     obtain ⟨x,hx⟩:∃ x,S.getD k default=x:=⟨_,rfl⟩
     have hxi:x < i:=by rw [← hx,List.getD_eq_getElem?_getD,List.getElem?_eq_getElem (by rw [HL.out]; exact hki)]; exact HR.out _ (List.getElem_mem ..)
     have f1:∃ g,A1=some ⟨g,0,none⟩∧wr.cell? ⟨g,k,none⟩=some (.int .i64 x):=by
      obtain ⟨g,c',cur,he,_⟩:=own_form KO.out (by omega)
      injection he with he _ he2
      subst he he2
      exact ⟨g,rfl,hx ▸ own_cell KO.out k _ (ints_get S k (by rw [HL.out]; exact hki))⟩
     have HX:=Zh hx
     clear hx
     obtain ⟨g,hg,f1⟩:=f1
     subst hg
     go_wp2_with fail
     refine (rahead_at A n c L _ (HA.out.upd (HU.out.trans KU.out)) HN.out x i (by omega) (by omega)).mono ?_; rintro e w1 ⟨rfl,u1⟩
     have U1:=Zh (KU.out.trans u1)
     clear u1 f1
     cases hb:ahd L x i with
     | true =>
       go_wp2_with fail
       go_roundw
       case rel =>
        refine ⟨k + 1,by go_num,by omega,U1,Zh ?_⟩
        intro j hj
        rcases Nat.lt_or_eq_of_le (Nat.le_of_lt_succ hj) with h | h
        ·exact KA.out j h
        ·rw [h,HX.out]; exact hb
       case measure => simp [intOf]; omega
     | false =>
       have HB:Hid (S.length=k∨ahd L (S.getD k default) i=false):=Zh (.inr (by rw [HX.out]; exact hb))
       clear HX hb KU KO hxi
       go_wp2_with fail
       generalize (some (⟨g,0,none⟩:Addr))=A1 at *
       have hz1:w.heap.size≤w1.heap.size:=(HU.out.trans U1.out).size
       have hz2:wo.heap.size≤w1.heap.size:=U1.out.size
       have I1:=Zh (show ∀ u ∈ ints (S.take k),u.oneCell'=true from ints_one _)
       have I2:=Zh (show ∀ u ∈ ints (S.drop k),u.oneCell'=true from ints_one _)
       have I3:=Zh (show ∀ u ∈ (#[Value.int .i64 i]:Array Value).toList,u.oneCell'=true from fun u hu => by simp only [List.mem_singleton] at hu; subst hu; rfl)
       have FS1:Hid (∀ W,Upd [] wo W→Src W 1 (.slice A1 k c1) k (ints (S.take k))):=Zh fun W hu => by
        have:=(Src.of_own (own_upd0 HO'.out hu)).take k hk c1
        rwa [Nat.mul_one,← ints_take] at this
       have FS2:Hid (∀ W,Upd [] wo W→Src W 1 (.slice (if c1=k then A1 else Option.map (fun x => x.add k) A1) (i - k) (c1 - k)) (i - k) (ints (S.drop k))):=Zh fun W hu => by
        have:=(Src.of_own (own_upd0 HO'.out hu)).drop k hk hc1 (c1 - k)
        rw [Nat.mul_one] at this
        have hd:(ints S).drop k=ints (S.drop k):=by simp [ints]
        rwa [hd] at this
       have NO1:=HO'
       go_region_held3 (fun _ => True) (trivial) (first
        | ((refine step_app (o:=⟨some 31,_,_,_,_,_⟩) (w1.drew.alloc (.cells #[] 3)) (by rfl) (.tmp 27) (.tmp 30) _ (by rfl) int_elem _ _ (by rfl) (by rfl) (own_made (B:=w.heap.size) 1 (Blk.new _ _ _) (by first | exact hz1 | omega)) (FS1.out _ (U1.out.drew.alloc _)) I1.out (by simp only [maxLen]; omega) (by omega) (by simp; omega) ?_; intro v1 w2 o1 u1 b1
            have U2:Hid (Upd [] wo w2):=Zh ((U1.out.drew.alloc _).trans' u1 (by intro x hx; simp [Value.ownBlock] at hx; subst hx; right; first | exact hz2 | omega))
            have N1:Hid (∀ b,v1.ownBlock=some b→wo.heap.size≤b):=Zh (by intro b hb; rcases b1 with h | h <;> rw [hb] at h <;> simp [Value.ownBlock] at h <;> omega)
            have s2:w.heap.size≤w2.heap.size:=by have:=U2.out.size; have:=HU.out.size; omega
            have t2:wo.heap.size≤w2.heap.size:=U2.out.size
            have O1:=Zh o1
            clear o1 u1 b1))
        | ((refine step_app (o:=⟨some 31,_,_,_,_,_⟩) ((w1.drew.alloc (.cells #[] 3)).alloc (.cells #[.int .i64 i] 3)) (by rfl) (.tmp 27) (.tmp 30) _ (by rfl) int_elem _ _ (by rfl) (by rfl) (own_made (B:=w.heap.size) 1 ((Blk.new w1.drew _ _).alloc _) (by first | exact hz1 | omega)) (FS1.out _ ((U1.out.drew.alloc _).alloc _)) I1.out (by simp only [maxLen]; omega) (by omega) (by simp; omega) ?_; intro v1 w2 o1 u1 b1
            have U2:Hid (Upd [] wo w2):=Zh (((U1.out.drew.alloc _).alloc _).trans' u1 (by intro x hx; simp [Value.ownBlock] at hx; subst hx; right; first | exact hz2 | omega))
            have N1:Hid (∀ b,v1.ownBlock=some b→wo.heap.size≤b):=Zh (by intro b hb; rcases b1 with h | h <;> rw [hb] at h <;> simp [Value.ownBlock] at h <;> omega)
            have s2:w.heap.size≤w2.heap.size:=by have:=U2.out.size; have:=HU.out.size; omega
            have t2:wo.heap.size≤w2.heap.size:=U2.out.size
            have B33:Hid (Blk w2 (w1.heap.size + 1) 3 #[.int .i64 i]):=Zh ((show Blk ((w1.drew.alloc (.cells #[] 3)).alloc (.cells #[.int .i64 i] 3)) (w1.heap.size + 1) 3 #[.int .i64 i] by have:=Blk.new (w1.drew.alloc (.cells #[] 3)) 3 #[.int .i64 i]; simpa using this).upd u1 (by simp [Value.ownBlock]))
            have O1:=Zh o1
            clear o1 u1 b1))
        | ((refine step_app (o:=⟨some 31,_,_,_,_,_⟩) ((w1.drew.alloc (.cells #[.int .i64 i] 3)).alloc (.cells #[] 3)) (by rfl) (.tmp 27) (.tmp 30) _ (by rfl) int_elem _ _ (by rfl) (by rfl) (own_made (B:=w.heap.size) 1 (show Blk ((w1.drew.alloc (.cells #[.int .i64 i] 3)).alloc (.cells #[] 3)) (w1.heap.size + 1) 3 #[] by have:=Blk.new (w1.drew.alloc (.cells #[.int .i64 i] 3)) 3 #[]; simpa using this) (by first | exact hz1 | omega)) (FS1.out _ ((U1.out.drew.alloc _).alloc _)) I1.out (by simp only [maxLen]; omega) (by omega) (by simp; omega) ?_; intro v1 w2 o1 u1 b1
            have U2:Hid (Upd [] wo w2):=Zh (((U1.out.drew.alloc _).alloc _).trans' u1 (by intro x hx; simp [Value.ownBlock] at hx; subst hx; right; first | exact hz2 | omega))
            have N1:Hid (∀ b,v1.ownBlock=some b→wo.heap.size≤b):=Zh (by intro b hb; rcases b1 with h | h <;> rw [hb] at h <;> simp [Value.ownBlock] at h <;> omega)
            have s2:w.heap.size≤w2.heap.size:=by have:=U2.out.size; have:=HU.out.size; omega
            have t2:wo.heap.size≤w2.heap.size:=U2.out.size
            have B33:Hid (Blk w2 w1.heap.size 3 #[.int .i64 i]):=Zh (((Blk.new w1.drew 3 #[.int .i64 i]).alloc _).upd u1 (by simp [Value.ownBlock]))
            have O1:=Zh o1
            clear o1 u1 b1))
        | ((refine step_app (o:=⟨some 34,_,_,_,_,_⟩) (w2.alloc (.cells #[.int .i64 i] 3)) (by rfl) (.tmp 31) (.tmp 33) _ (by rfl) int_elem v1 _ (by rfl) (by rfl) (own_upd0 O1.out ((Upd.refl [] w2).alloc _)) (.of_blk (Blk.new w2 3 #[.int .i64 i]) (m:=1) 1 rfl) I3.out (by simp only [maxLen]; omega) (by omega) (by first | exact s2 | (simp; omega)) ?_; intro v2 w3 o2 u2 b2
            have U3:Hid (Upd [] wo w3):=Zh ((U2.out.alloc _).trans' u2 (by intro x hx; simp only [Option.mem_toList] at hx; exact .inr (N1.out _ hx)))
            have N2:Hid (∀ b,v2.ownBlock=some b→wo.heap.size≤b):=Zh (by
             intro b hb
             rcases b2 with h | h
             ·exact N1.out _ (h ▸ hb)
             ·rw [hb] at h; simp at h; omega)
            have s3:w.heap.size≤w3.heap.size:=by have:=U3.out.size; have:=HU.out.size; omega
            have t3:wo.heap.size≤w3.heap.size:=U3.out.size
            have O2:=Zh o2
            clear o2 u2 b2))
        | ((refine step_app (o:=⟨some 34,_,_,_,_,_⟩) (w2) (by rfl) (.tmp 31) (.tmp 33) _ (by rfl) int_elem v1 _ (by rfl) (by rfl) (O1.out) (.of_blk B33.out (m:=1) 1 rfl) I3.out (by simp only [maxLen]; omega) (by omega) (by first | exact s2 | (simp; omega)) ?_; intro v2 w3 o2 u2 b2
            have U3:Hid (Upd [] wo w3):=Zh ((U2.out).trans' u2 (by intro x hx; simp only [Option.mem_toList] at hx; exact .inr (N1.out _ hx)))
            have N2:Hid (∀ b,v2.ownBlock=some b→wo.heap.size≤b):=Zh (by
             intro b hb
             rcases b2 with h | h
             ·exact N1.out _ (h ▸ hb)
             ·rw [hb] at h; simp at h; omega)
            have s3:w.heap.size≤w3.heap.size:=by have:=U3.out.size; have:=HU.out.size; omega
            have t3:wo.heap.size≤w3.heap.size:=U3.out.size
            have O2:=Zh o2
            clear o2 u2 b2))
        | ((refine step_app (o:=⟨some 38,_,_,_,_,_⟩) w3 (by rfl) (.tmp 34) (.tmp 37) _ (by rfl) int_elem v2 _ (by rfl) (by rfl) O2.out (FS2.out _ U3.out) I2.out (by simp only [maxLen]; omega) (by omega) s3 ?_; intro v3 w4 o3 u3 b3
            have U4:Hid (Upd [] wo w4):=Zh (U3.out.trans' u3 (by intro x hx; simp only [Option.mem_toList] at hx; exact .inr (N2.out _ hx)))
            have O3:=Zh o3
            clear o3 u3 b3)))
       all_goals
        go_wp2_with fail
        go_roundw
        case rel =>
         have hm:0 + k + 1 + (i - k)=i + 1:=by omega
         have hl:srt (ahd L) (List.range (i + 1))=S.take k ++ i :: S.drop k:=by
          rw [List.range_succ,srt_snoc,HS.out]
          exact insO_at S i k (by rw [HL.out]; exact hk) KA.out HB.out
         have o:=O3.out
         rw [hm] at o
         refine ⟨i + 1,by go_num,by omega,Zh ?_,Zh (HU.out.trans U4.out)⟩
         rw [hl]
         simpa [ints] using o
        case measure => simp [intOf]; omega
    ·have HB:Hid (S.length=k∨ahd L (S.getD k default) i=false):=Zh (.inl (by rw [HL.out]; omega))
     have U1:=KU
     obtain ⟨w1,rfl⟩:∃ w1:World,w1=wr:=⟨_,rfl⟩
     go_wp2_with fail
     clear KU
     have hz1:w.heap.size≤w1.heap.size:=(HU.out.trans U1.out).size
     have hz2:wo.heap.size≤w1.heap.size:=U1.out.size
     have I1:=Zh (show ∀ u ∈ ints (S.take k),u.oneCell'=true from ints_one _)
     have I2:=Zh (show ∀ u ∈ ints (S.drop k),u.oneCell'=true from ints_one _)
     have I3:=Zh (show ∀ u ∈ (#[Value.int .i64 i]:Array Value).toList,u.oneCell'=true from fun u hu => by simp only [List.mem_singleton] at hu; subst hu; rfl)
     have FS1:Hid (∀ W,Upd [] wo W→Src W 1 (.slice A1 k c1) k (ints (S.take k))):=Zh fun W hu => by
      have:=(Src.of_own (own_upd0 HO'.out hu)).take k hk c1
      rwa [Nat.mul_one,← ints_take] at this
     have FS2:Hid (∀ W,Upd [] wo W→Src W 1 (.slice (if c1=k then A1 else Option.map (fun x => x.add k) A1) (i - k) (c1 - k)) (i - k) (ints (S.drop k))):=Zh fun W hu => by
      have:=(Src.of_own (own_upd0 HO'.out hu)).drop k hk hc1 (c1 - k)
      rw [Nat.mul_one] at this
      have hd:(ints S).drop k=ints (S.drop k):=by simp [ints]
      rwa [hd] at this
     have NO1:=HO'
     go_region_held3 (fun _ => True) (trivial) (first
      | ((refine step_app (o:=⟨some 31,_,_,_,_,_⟩) (w1.drew.alloc (.cells #[] 3)) (by rfl) (.tmp 27) (.tmp 30) _ (by rfl) int_elem _ _ (by rfl) (by rfl) (own_made (B:=w.heap.size) 1 (Blk.new _ _ _) (by first | exact hz1 | omega)) (FS1.out _ (U1.out.drew.alloc _)) I1.out (by simp only [maxLen]; omega) (by omega) (by simp; omega) ?_; intro v1 w2 o1 u1 b1
          have U2:Hid (Upd [] wo w2):=Zh ((U1.out.drew.alloc _).trans' u1 (by intro x hx; simp [Value.ownBlock] at hx; subst hx; right; first | exact hz2 | omega))
          have N1:Hid (∀ b,v1.ownBlock=some b→wo.heap.size≤b):=Zh (by intro b hb; rcases b1 with h | h <;> rw [hb] at h <;> simp [Value.ownBlock] at h <;> omega)
          have s2:w.heap.size≤w2.heap.size:=by have:=U2.out.size; have:=HU.out.size; omega
          have t2:wo.heap.size≤w2.heap.size:=U2.out.size
          have O1:=Zh o1
          clear o1 u1 b1))
      | ((refine step_app (o:=⟨some 31,_,_,_,_,_⟩) ((w1.drew.alloc (.cells #[] 3)).alloc (.cells #[.int .i64 i] 3)) (by rfl) (.tmp 27) (.tmp 30) _ (by rfl) int_elem _ _ (by rfl) (by rfl) (own_made (B:=w.heap.size) 1 ((Blk.new w1.drew _ _).alloc _) (by first | exact hz1 | omega)) (FS1.out _ ((U1.out.drew.alloc _).alloc _)) I1.out (by simp only [maxLen]; omega) (by omega) (by simp; omega) ?_; intro v1 w2 o1 u1 b1
          have U2:Hid (Upd [] wo w2):=Zh (((U1.out.drew.alloc _).alloc _).trans' u1 (by intro x hx; simp [Value.ownBlock] at hx; subst hx; right; first | exact hz2 | omega))
          have N1:Hid (∀ b,v1.ownBlock=some b→wo.heap.size≤b):=Zh (by intro b hb; rcases b1 with h | h <;> rw [hb] at h <;> simp [Value.ownBlock] at h <;> omega)
          have s2:w.heap.size≤w2.heap.size:=by have:=U2.out.size; have:=HU.out.size; omega
          have t2:wo.heap.size≤w2.heap.size:=U2.out.size
          have B33:Hid (Blk w2 (w1.heap.size + 1) 3 #[.int .i64 i]):=Zh ((show Blk ((w1.drew.alloc (.cells #[] 3)).alloc (.cells #[.int .i64 i] 3)) (w1.heap.size + 1) 3 #[.int .i64 i] by have:=Blk.new (w1.drew.alloc (.cells #[] 3)) 3 #[.int .i64 i]; simpa using this).upd u1 (by simp [Value.ownBlock]))
          have O1:=Zh o1
          clear o1 u1 b1))
      | ((refine step_app (o:=⟨some 31,_,_,_,_,_⟩) ((w1.drew.alloc (.cells #[.int .i64 i] 3)).alloc (.cells #[] 3)) (by rfl) (.tmp 27) (.tmp 30) _ (by rfl) int_elem _ _ (by rfl) (by rfl) (own_made (B:=w.heap.size) 1 (show Blk ((w1.drew.alloc (.cells #[.int .i64 i] 3)).alloc (.cells #[] 3)) (w1.heap.size + 1) 3 #[] by have:=Blk.new (w1.drew.alloc (.cells #[.int .i64 i] 3)) 3 #[]; simpa using this) (by first | exact hz1 | omega)) (FS1.out _ ((U1.out.drew.alloc _).alloc _)) I1.out (by simp only [maxLen]; omega) (by omega) (by simp; omega) ?_; intro v1 w2 o1 u1 b1
          have U2:Hid (Upd [] wo w2):=Zh (((U1.out.drew.alloc _).alloc _).trans' u1 (by intro x hx; simp [Value.ownBlock] at hx; subst hx; right; first | exact hz2 | omega))
          have N1:Hid (∀ b,v1.ownBlock=some b→wo.heap.size≤b):=Zh (by intro b hb; rcases b1 with h | h <;> rw [hb] at h <;> simp [Value.ownBlock] at h <;> omega)
          have s2:w.heap.size≤w2.heap.size:=by have:=U2.out.size; have:=HU.out.size; omega
          have t2:wo.heap.size≤w2.heap.size:=U2.out.size
          have B33:Hid (Blk w2 w1.heap.size 3 #[.int .i64 i]):=Zh (((Blk.new w1.drew 3 #[.int .i64 i]).alloc _).upd u1 (by simp [Value.ownBlock]))
          have O1:=Zh o1
          clear o1 u1 b1))
      | ((refine step_app (o:=⟨some 34,_,_,_,_,_⟩) (w2.alloc (.cells #[.int .i64 i] 3)) (by rfl) (.tmp 31) (.tmp 33) _ (by rfl) int_elem v1 _ (by rfl) (by rfl) (own_upd0 O1.out ((Upd.refl [] w2).alloc _)) (.of_blk (Blk.new w2 3 #[.int .i64 i]) (m:=1) 1 rfl) I3.out (by simp only [maxLen]; omega) (by omega) (by first | exact s2 | (simp; omega)) ?_; intro v2 w3 o2 u2 b2
          have U3:Hid (Upd [] wo w3):=Zh ((U2.out.alloc _).trans' u2 (by intro x hx; simp only [Option.mem_toList] at hx; exact .inr (N1.out _ hx)))
          have N2:Hid (∀ b,v2.ownBlock=some b→wo.heap.size≤b):=Zh (by
           intro b hb
           rcases b2 with h | h
           ·exact N1.out _ (h ▸ hb)
           ·rw [hb] at h; simp at h; omega)
          have s3:w.heap.size≤w3.heap.size:=by have:=U3.out.size; have:=HU.out.size; omega
          have t3:wo.heap.size≤w3.heap.size:=U3.out.size
          have O2:=Zh o2
          clear o2 u2 b2))
      | ((refine step_app (o:=⟨some 34,_,_,_,_,_⟩) (w2) (by rfl) (.tmp 31) (.tmp 33) _ (by rfl) int_elem v1 _ (by rfl) (by rfl) (O1.out) (.of_blk B33.out (m:=1) 1 rfl) I3.out (by simp only [maxLen]; omega) (by omega) (by first | exact s2 | (simp; omega)) ?_; intro v2 w3 o2 u2 b2
          have U3:Hid (Upd [] wo w3):=Zh ((U2.out).trans' u2 (by intro x hx; simp only [Option.mem_toList] at hx; exact .inr (N1.out _ hx)))
          have N2:Hid (∀ b,v2.ownBlock=some b→wo.heap.size≤b):=Zh (by
           intro b hb
           rcases b2 with h | h
           ·exact N1.out _ (h ▸ hb)
           ·rw [hb] at h; simp at h; omega)
          have s3:w.heap.size≤w3.heap.size:=by have:=U3.out.size; have:=HU.out.size; omega
          have t3:wo.heap.size≤w3.heap.size:=U3.out.size
          have O2:=Zh o2
          clear o2 u2 b2))
      | ((refine step_app (o:=⟨some 38,_,_,_,_,_⟩) w3 (by rfl) (.tmp 34) (.tmp 37) _ (by rfl) int_elem v2 _ (by rfl) (by rfl) O2.out (FS2.out _ U3.out) I2.out (by simp only [maxLen]; omega) (by omega) s3 ?_; intro v3 w4 o3 u3 b3
          have U4:Hid (Upd [] wo w4):=Zh (U3.out.trans' u3 (by intro x hx; simp only [Option.mem_toList] at hx; exact .inr (N2.out _ hx)))
          have O3:=Zh o3
          clear o3 u3 b3)))
     all_goals
      go_wp2_with fail
      go_roundw
      case rel =>
       have hm:0 + k + 1 + (i - k)=i + 1:=by omega
       have hl:srt (ahd L) (List.range (i + 1))=S.take k ++ i :: S.drop k:=by
        rw [List.range_succ,srt_snoc,HS.out]
        exact insO_at S i k (by rw [HL.out]; exact hk) KA.out HB.out
       have o:=O3.out
       rw [hm] at o
       refine ⟨i + 1,by go_num,by omega,Zh ?_,Zh (HU.out.trans U4.out)⟩
       rw [hl]
       simpa [ints] using o
      case measure => simp [intOf]; omega
  ·obtain rfl:n=i:=by omega
   go_wp2_with fail
   go_ret
   exact ⟨_,rfl,HO.out,HU.out⟩
end Go.Proofs.YtmjnmpifibemjaaGreatDoor
namespace Go.Proofs.YtmjnmpifibemjaaGreatDoor
open Go.RowKit
def wthK (L:List Att) (S:List Nat) (begin_:Int):Nat→Nat
 | 0 => 0
 | k + 1 => if (L.getD (S.getD k 0) default).en < begin_ then k + 1 else wthK L S begin_ k
def wth (L:List Att) (begin_:Int):Nat:=wthK L (srt (ahd L) (List.range L.length)) begin_ L.length
theorem wthK_le (L:List Att) (S:List Nat) (b:Int):∀ k,wthK L S b k≤k
 | 0 => Nat.le_refl _
 | k + 1 => by
   unfold wthK
   split
   ·exact Nat.le_refl _
   ·exact Nat.le_succ_of_le (wthK_le L S b k)
theorem wthK_yes {L:List Att} {S:List Nat} {b:Int} {k i:Nat} (h:S.getD k 0=i) (he:(L.getD i default).en < b):wthK L S b (k + 1)=k + 1:=by unfold wthK; rw [h,if_pos he]
theorem wthK_no {L:List Att} {S:List Nat} {b:Int} {k i:Nat} (h:S.getD k 0=i) (he:¬ (L.getD i default).en < b):wthK L S b (k + 1)=wthK L S b k:=by
 show (if (L.getD (S.getD k 0) default).en < b then k + 1 else wthK L S b k)=_
 rw [h,if_neg he]
theorem srt_len (L:List Att) (n:Nat):(srt (ahd L) (List.range n)).length=n:=by rw [(srt_perm _).length_eq,List.length_range]
theorem srt_lt (L:List Att) (n k:Nat) (hk:k < n):(srt (ahd L) (List.range n)).getD k 0 < n:=by
 rw [List.getD_eq_getElem?_getD,List.getElem?_eq_getElem (by rw [srt_len]; exact hk)]
 have:=(srt_perm (lt:=ahd L) (List.range n)).mem_iff.1 (List.getElem_mem (by rw [srt_len]; exact hk))
 simpa using this
theorem Atts.en {w:World} {A:Option Addr} {L:List Att} (h:Atts w A L) (i:Nat) (hi:i < L.length) :
 ∃ ad,A=some ad∧w.cell? ⟨(ad.add (i * 6)).block,(ad.add (i * 6)).off + 5,none⟩=some (.int .i64 (L.getD i default).en):=by
 obtain ⟨ad,rfl,_,_,_,_,_,c6,_⟩:=h i _ (List.getElem?_eq_getElem hi)
 exact ⟨ad,rfl,by rw [List.getD_eq_getElem?_getD,List.getElem?_eq_getElem hi]; exact c6⟩
theorem within_ok (A:Option Addr) (n c:Nat) (L:List Att) (b:Int) (w:World) (hA:Atts w A L) (hn:L.length=n) (h60:n≤100) :
 Calls Tryz.prog 60 #[.slice A n c,.int .i64 b] w fun e w' => e=.returned (.int .i64 (wth L b))∧Upd [] w w':=by
 have HN:=Zh hn
 have HA:=Zh hA
 obtain ⟨S,hS⟩:∃ S,srt (ahd L) (List.range n)=S:=⟨_,rfl⟩
 have HW:Hid (wth L b=wthK L S b n):=Zh (by unfold wth; rw [hn,hS])
 have HL:Hid (S.length=n):=Zh (hS ▸ srt_len L n)
 have HT:Hid (∀ k,k < n→S.getD k 0 < n):=Zh (hS ▸ fun k hk => srt_lt L n k hk)
 have HS:=Zh hS
 clear hn hA hS
 go_enter Tryz.func60,Tryz.ntmps60
 go_wp2_with fail
 refine (sort_ok A n c L _ HA.out HN.out h60).mono ?_; rintro e w1 ⟨v,rfl,o1,u1⟩
 rw [HS.out] at o1
 have O1:=Zh o1
 have U1:=Zh u1
 clear o1 u1
 obtain ⟨A1,c1,rfl,_⟩:=own_slice O1.out
 go_wp2_with fail
 go_loopw [5,11] (fun m i wr => ∃ k:Nat,i=.int .i64 k∧k≤n∧m=.int .i64 (wthK L S b k)∧Hid (Upd [] w1 wr)) (fun _ i _ => n - (intOf i).toNat)
 case atStart => exact ⟨0,rfl,by omega,rfl,Zh (.refl _ _)⟩
 case round =>
  obtain ⟨k,rfl,hk,rfl,HU⟩:=hrel
  by_cases hlt:k < n
  ·have KO:=own_upd0 O1.out HU.out
   obtain ⟨g,c',cur,he,_⟩:=own_form KO (by omega)
   injection he with he _ he2
   subst he he2
   obtain ⟨i,hi⟩:∃ i,S.getD k 0=i:=⟨_,rfl⟩
   have f1:wr.cell? ⟨g,k,none⟩=some (.int .i64 i):=by
    have:=own_cell KO k _ (ints_get S k (by rw [HL.out]; exact hlt))
    rw [this,← hi]; rfl
   have hin:i < n:=hi ▸ HT.out k hlt
   obtain ⟨ad,rfl,f2⟩:=((HA.out.upd U1.out).upd HU.out).en i (by rw [HN.out]; exact hin)
   obtain ⟨x,hx⟩:∃ x,(L.getD i default).en=x:=⟨_,rfl⟩
   rw [hx] at f2
   have HX:=Zh hx
   have HI:=Zh hi
   clear hx hi KO
   by_cases hlb:x < b
   ·go_wp2_with fail
    go_roundw
    case rel => exact ⟨k + 1,by go_num,by omega,by rw [wthK_yes HI.out (by rw [HX.out]; exact hlb)]; go_num,HU⟩
    case measure => simp [intOf]; omega
   ·go_wp2_with fail
    go_roundw
    case rel => exact ⟨k + 1,by go_num,by omega,by rw [wthK_no HI.out (by rw [HX.out]; exact hlb)],HU⟩
    case measure => simp [intOf]; omega
  ·obtain rfl:n=k:=by omega
   go_wp2_with fail
   go_ret
   rw [HW.out]
   exact ⟨rfl,U1.out.trans HU.out⟩
theorem rwithin_ok (A:Option Addr) (n c:Nat) (L:List Att) (b:Int) (w:World) (hA:Atts w A L) (hn:L.length=n) (h60:n≤100) :
 Calls Tryz.prog 65 #[.slice A n c,.int .i64 b] w fun e w' => e=.returned (.int .i64 (wth L b))∧Upd [] w w':=by
 have HN:=Zh hn
 have HA:=Zh hA
 obtain ⟨S,hS⟩:∃ S,srt (ahd L) (List.range n)=S:=⟨_,rfl⟩
 have HW:Hid (wth L b=wthK L S b n):=Zh (by unfold wth; rw [hn,hS])
 have HL:Hid (S.length=n):=Zh (hS ▸ srt_len L n)
 have HT:Hid (∀ k,k < n→S.getD k 0 < n):=Zh (hS ▸ fun k hk => srt_lt L n k hk)
 have HS:=Zh hS
 clear hn hA hS
 go_enter Tryz.func65,Tryz.ntmps65
 go_wp2_with fail
 refine (rsort_ok A n c L _ HA.out HN.out h60).mono ?_; rintro e w1 ⟨v,rfl,o1,u1⟩
 rw [HS.out] at o1
 have O1:=Zh o1
 have U1:=Zh u1
 clear o1 u1
 obtain ⟨A1,c1,rfl,_⟩:=own_slice O1.out
 go_wp2_with fail
 go_loopw [5,7] (fun m i wr => ∃ k:Nat,i=.int .i64 k∧k≤n∧m=.int .i64 (wthK L S b k)∧Hid (Upd [] w1 wr)) (fun _ i _ => n - (intOf i).toNat)
 case atStart => exact ⟨0,rfl,by omega,rfl,Zh (.refl _ _)⟩
 case round =>
  obtain ⟨k,rfl,hk,rfl,HU⟩:=hrel
  by_cases hlt:k < n
  ·have KO:=own_upd0 O1.out HU.out
   obtain ⟨g,c',cur,he,_⟩:=own_form KO (by omega)
   injection he with he _ he2
   subst he he2
   obtain ⟨i,hi⟩:∃ i,S.getD k 0=i:=⟨_,rfl⟩
   have f1:wr.cell? ⟨g,k,none⟩=some (.int .i64 i):=by
    have:=own_cell KO k _ (ints_get S k (by rw [HL.out]; exact hlt))
    rw [this,← hi]; rfl
   have hin:i < n:=hi ▸ HT.out k hlt
   obtain ⟨ad,rfl,f2⟩:=((HA.out.upd U1.out).upd HU.out).en i (by rw [HN.out]; exact hin)
   obtain ⟨x,hx⟩:∃ x,(L.getD i default).en=x:=⟨_,rfl⟩
   rw [hx] at f2
   have HX:=Zh hx
   have HI:=Zh hi
   clear hx hi KO
   by_cases hlb:x < b
   ·go_wp2_with fail
    go_roundw
    case rel => exact ⟨k + 1,by go_num,by omega,by rw [wthK_yes HI.out (by rw [HX.out]; exact hlb)]; go_num,HU⟩
    case measure => simp [intOf]; omega
   ·go_wp2_with fail
    go_roundw
    case rel => exact ⟨k + 1,by go_num,by omega,by rw [wthK_no HI.out (by rw [HX.out]; exact hlb)],HU⟩
    case measure => simp [intOf]; omega
  ·obtain rfl:n=k:=by omega
   go_wp2_with fail
   go_ret
   rw [HW.out]
   exact ⟨rfl,U1.out.trans HU.out⟩
end Go.Proofs.YtmjnmpifibemjaaGreatDoor
namespace Go.Proofs.YtmjnmpifibemjaaGreatDoor
open Go.RowKit
def dupB (L:List Att) (i k:Nat):Bool:=(L.getD i default).wr && (L.getD k default).wr && decide ((L.getD i default).st=(L.getD k default).st)
def confB (L:List Att) (i j:Nat):Bool:=decide (j≠i) && decide ((L.getD j default).en < (L.getD i default).be) && !ahd L j i
def wrongAt (L:List Att) (i:Nat):Int :=
 if (L.getD i default).en < (L.getD i default).be then 2 else if (List.range i).any (dupB L i) then 7 else if (List.range L.length).any (confB L i) then 12 else 0
theorem any_range_no {p:Nat→Bool} {n:Nat} (h:∀ k,k < n→p k=false):(List.range n).any p=false:=by
 rw [List.any_eq_false]
 intro x hx
 rw [h x (by simpa using hx)]
 simp
theorem any_range_yes {p:Nat→Bool} {n k:Nat} (hk:k < n) (h:p k=true):(List.range n).any p=true:=by
 rw [List.any_eq_true]
 exact ⟨k,by simpa using hk,h⟩
theorem wrong_2 {L:List Att} {i:Nat} (h:(L.getD i default).en < (L.getD i default).be):wrongAt L i=2:=by unfold wrongAt; rw [if_pos h]
theorem wrong_7 {L:List Att} {i k:Nat} (h:(L.getD i default).be≤(L.getD i default).en) (hk:k < i) (hd:dupB L i k=true):wrongAt L i=7:=by
 unfold wrongAt; rw [if_neg (Int.not_lt.2 h),if_pos (any_range_yes hk hd)]
theorem wrong_12 {L:List Att} {i j:Nat} (h:(L.getD i default).be≤(L.getD i default).en) (hd:∀ k,k < i→dupB L i k=false) (hj:j < L.length) (hc:confB L i j=true):wrongAt L i=12:=by
 unfold wrongAt; rw [if_neg (Int.not_lt.2 h),any_range_no hd,any_range_yes hj hc]; rfl
theorem wrong_0 {L:List Att} {i:Nat} (h:(L.getD i default).be≤(L.getD i default).en) (hd:∀ k,k < i→dupB L i k=false) (hc:∀ j,j < L.length→confB L i j=false):wrongAt L i=0:=by
 unfold wrongAt; rw [if_neg (Int.not_lt.2 h),any_range_no hd,any_range_no hc]; rfl
theorem below_succ {p:Nat→Prop} {k:Nat} (h:∀ j,j < k→p j) (hk:p k):∀ j,j < k + 1→p j:=by
 intro j hj
 rcases Nat.lt_or_eq_of_le (Nat.le_of_lt_succ hj) with h1 | h1
 ·exact h j h1
 ·exact h1 ▸ hk
theorem Atts.six {w:World} {A:Option Addr} {L:List Att} (h:Atts w A L) (i:Nat) (hi:i < L.length) (v:Att) (hv:L.getD i default=v) :
 ∃ ad,A=some ad∧w.cell? (ad.add (i * 6))=some (.int .i64 v.th)∧w.cell? ⟨(ad.add (i * 6)).block,(ad.add (i * 6)).off + 1,none⟩=some (.int .i64 v.ix)∧w.cell? ⟨(ad.add (i * 6)).block,(ad.add (i * 6)).off + 2,none⟩=some (.int .i64 v.st) ∧
   w.cell? ⟨(ad.add (i * 6)).block,(ad.add (i * 6)).off + 3,none⟩=some (.bool v.wr)∧w.cell? ⟨(ad.add (i * 6)).block,(ad.add (i * 6)).off + 4,none⟩=some (.int .i64 v.be)∧w.cell? ⟨(ad.add (i * 6)).block,(ad.add (i * 6)).off + 5,none⟩=some (.int .i64 v.en):=by
 obtain ⟨ad,rfl,c1,c2,c3,c4,c5,c6,_⟩:=h i _ (List.getElem?_eq_getElem hi)
 rw [List.getD_eq_getElem?_getD,List.getElem?_eq_getElem hi] at hv
 simp only [Option.getD_some] at hv
 rw [hv] at c1 c2 c3 c4 c5 c6
 exact ⟨ad,rfl,c1,c2,c3,c4,c5,c6⟩
theorem wrong_ok (A:Option Addr) (n c:Nat) (L:List Att) (i:Nat) (w:World) (hA:Atts w A L) (hn:L.length=n) (h60:n≤100) (hi:i < n) (hc:n≤c) (hcm:c≤9223372036854775807) :
 Calls Tryz.prog 51 #[.slice A n c,.int .i64 i] w fun e w' => e=.returned (.int .i64 (wrongAt L i))∧Upd [] w w':=by
 obtain ⟨v,hv⟩:∃ v,L.getD i default=v:=⟨_,rfl⟩
 obtain ⟨ad,rfl,x1,x2,x3,x4,x5,x6⟩:=hA.six i (by omega) v hv
 obtain ⟨a1,a2,a3,a4,a5,a6⟩:=v
 dsimp only at x1 x2 x3 x4 x5 x6
 have HN:=Zh hn
 have HA:=Zh hA
 have HV:=Zh hv
 have hi0:(i:Int)≤c:=by omega
 clear hn hA hv
 by_cases h2:a6 < a5
 ·have HR:Hid (wrongAt L i=2):=Zh (wrong_2 (by rw [HV.out]; exact h2))
  go_enter Tryz.func51,Tryz.ntmps51
  go_wp2_with fail
  go_ret
  rw [HR.out]
  exact ⟨rfl,(Upd.refl [] w).alloc _⟩
 ·have HR:Hid ((L.getD i default).be≤(L.getD i default).en):=Zh (by rw [HV.out]; exact Int.not_lt.1 h2)
  go_enter Tryz.func51,Tryz.ntmps51
  go_wp2_with fail
  clear x1 x2 x3 x4 x5 x6
  have b0:=Blk.new w 39 #[.int .i64 a1,.int .i64 a2,.int .i64 a3,.bool a4,.int .i64 a5,.int .i64 a6]
  have u0:=(Upd.refl [] w).alloc (.cells #[.int .i64 a1,.int .i64 a2,.int .i64 a3,.bool a4,.int .i64 a5,.int .i64 a6] 39)
  obtain ⟨p,hp⟩:∃ p,w.heap.size=p:=⟨_,rfl⟩
  rw [hp] at b0 ⊢
  have B0:=Zh b0
  have U0:=Zh u0
  clear b0 u0 hp
  generalize w.alloc (.cells #[.int .i64 a1,.int .i64 a2,.int .i64 a3,.bool a4,.int .i64 a5,.int .i64 a6] 39)=w0 at *
  go_loopw [23] (fun u wr => ∃ k:Nat,u=.int .i64 k∧k≤i∧Hid (Upd [] w0 wr)∧Hid (∀ j,j < k→dupB L i j=false)) (fun u _ => i - (intOf u).toNat)
  case atStart => exact ⟨0,rfl,by omega,Zh (.refl _ _),Zh (by intro j hj; omega)⟩
  case round =>
   obtain ⟨k,rfl,hk,HU,HD⟩:=hrel
   have b1:=B0.out.upd HU.out (by simp)
   have p2:wr.cell? ⟨p,2,none⟩=some (.int .i64 a3):=b1.cell 2
   have p3:wr.cell? ⟨p,3,none⟩=some (.bool a4):=b1.cell 3
   have pl:p < wr.heap.size:=b1.lt
   clear b1
   by_cases hki:k < i
   ·obtain ⟨v,hv⟩:∃ v,L.getD k default=v:=⟨_,rfl⟩
    obtain ⟨ad',he,y1,y2,y3,y4,y5,y6⟩:=(HA.out.upd (U0.out.trans HU.out)).six k (by rw [HN.out]; omega) v hv
    injection he with he
    subst he
    obtain ⟨b1,b2,b3,b4,b5,b6⟩:=v
    dsimp only at y1 y2 y3 y4 y5 y6
    have HK:=Zh hv
    clear hv
    have HDK:Hid (dupB L i k=(a4 && b4 && decide (a3=b3))):=Zh (by unfold dupB; rw [HV.out,HK.out])
    cases a4 with
    | false =>
      go_wp2_with fail
      go_roundw
      case rel => exact ⟨k + 1,by go_num,by omega,Zh (HU.out.alloc _),Zh (below_succ HD.out (by rw [HDK.out]; rfl))⟩
      case measure => simp [intOf]; omega
    | true =>
      cases b4 with
      | false =>
        go_wp2_with fail
        go_roundw
        case rel => exact ⟨k + 1,by go_num,by omega,Zh (HU.out.alloc _),Zh (below_succ HD.out (by rw [HDK.out]; rfl))⟩
        case measure => simp [intOf]; omega
      | true =>
        by_cases h3:a3=b3
        ·subst h3
         have HX:Hid (wrongAt L i=7):=Zh (wrong_7 HR.out hki (by rw [HDK.out]; simp))
         go_wp2_with fail
         go_ret
         rw [HX.out]
         exact ⟨rfl,U0.out.trans (HU.out.alloc _)⟩
        ·have e3:(a3 == b3)=false:=by simpa using h3
         have H3:Hid (dupB L i k=false):=Zh (by rw [HDK.out]; simp [h3])
         clear h3
         go_wp2_with fail
         go_roundw
         case rel => exact ⟨k + 1,by go_num,by omega,Zh (HU.out.alloc _),Zh (below_succ HD.out H3.out)⟩
         case measure => simp [intOf]; omega
   ·obtain rfl:i=k:=by omega
    go_wp2_with fail
    have U1:=Zh (U0.out.trans HU.out)
    have B1:=Zh (B0.out.upd HU.out (by simp))
    clear HU p2 p3 pl
    obtain ⟨w1,rfl⟩:∃ w1:World,w1=wr:=⟨_,rfl⟩
    go_loopw [43] (fun u ws => ∃ j:Nat,u=.int .i64 j∧j≤n∧Hid (Upd [] w1 ws)∧Hid (∀ k,k < j→confB L i k=false)) (fun u _ => n - (intOf u).toNat)
    case atStart => exact ⟨0,rfl,by omega,Zh (.refl _ _),Zh (by intro j hj; omega)⟩
    case round =>
     obtain ⟨j,rfl,hj,JU,JC⟩:=hrel
     have q1:=B1.out.upd JU.out (by simp)
     have p4:wr.cell? ⟨p,4,none⟩=some (.int .i64 a5):=q1.cell 4
     have pl:p < wr.heap.size:=q1.lt
     clear q1
     by_cases hjn:j < n
     ·obtain ⟨v,hv⟩:∃ v,L.getD j default=v:=⟨_,rfl⟩
      obtain ⟨ad',he,y1,y2,y3,y4,y5,y6⟩:=(HA.out.upd (U1.out.trans JU.out)).six j (by rw [HN.out]; omega) v hv
      injection he with he
      subst he
      obtain ⟨b1,b2,b3,b4,b5,b6⟩:=v
      dsimp only at y1 y2 y3 y4 y5 y6
      have HK:=Zh hv
      clear hv
      have HCJ:Hid (confB L i j=(decide (j≠i) && decide (b6 < a5) && !ahd L j i)):=Zh (by unfold confB; rw [HV.out,HK.out])
      by_cases hji:j=i
      ·subst hji
       have H3:Hid (confB L j j=false):=Zh (by rw [HCJ.out]; simp)
       go_wp2_with fail
       go_roundw
       case rel => exact ⟨j + 1,by go_num,by omega,Zh (JU.out.alloc _),Zh (below_succ JC.out H3.out)⟩
       case measure => simp [intOf]; omega
      ·have e1:((j:Int) != (i:Int))=true:=by
        have:¬ (j:Int)=i:=by omega
        simpa using this
       have hne:=Zh hji
       clear hji
       by_cases h5:b6 < a5
       ·go_wp2_with fail
        refine (ahead_at (some ad) n c L _ (HA.out.upd ((U1.out.trans JU.out).alloc _)) HN.out j i hjn hi).mono ?_; rintro e w2 ⟨rfl,u2⟩
        have U2:=Zh ((JU.out.alloc _).trans u2)
        clear u2
        cases hb:ahd L j i with
        | true =>
          have H3:Hid (confB L i j=false):=Zh (by rw [HCJ.out,hb]; simp)
          clear hb
          go_wp2_with fail
          go_roundw
          case rel => exact ⟨j + 1,by go_num,by omega,U2,Zh (below_succ JC.out H3.out)⟩
          case measure => simp [intOf]; omega
        | false =>
          have H3:Hid (wrongAt L i=12):=Zh (wrong_12 HR.out HD.out (by rw [HN.out]; exact hjn) (by rw [HCJ.out,hb]; simp [hne.out,h5]))
          clear hb
          go_wp2_with fail
          go_ret
          rw [H3.out]
          exact ⟨rfl,U1.out.trans U2.out⟩
       ·have H3:Hid (confB L i j=false):=Zh (by rw [HCJ.out]; simp [h5])
        go_wp2_with fail
        go_roundw
        case rel => exact ⟨j + 1,by go_num,by omega,Zh (JU.out.alloc _),Zh (below_succ JC.out H3.out)⟩
        case measure => simp [intOf]; omega
     ·obtain rfl:n=j:=by omega
      have H3:Hid (wrongAt L i=0):=Zh (wrong_0 HR.out HD.out (by rw [HN.out]; exact JC.out))
      go_wp2_with fail
      go_ret
      rw [H3.out]
      exact ⟨rfl,U1.out.trans JU.out⟩
end Go.Proofs.YtmjnmpifibemjaaGreatDoor
namespace Go.Proofs.YtmjnmpifibemjaaGreatDoor
open Go.RowKit
def chkR (L:List Att):Int × Int :=
 match (List.range L.length).find? (fun i => wrongAt L i != 0) with
 | none => (0,0)
 | some i => (wrongAt L i,(i:Int) + 1)
theorem chk_none {L:List Att} (h:∀ k,k < L.length→wrongAt L k=0):chkR L=(0,0):=by
 unfold chkR
 have:(List.range L.length).find? (fun i => wrongAt L i != 0)=none:=by
  rw [List.find?_eq_none]
  intro x hx
  simp [h x (by simpa using hx)]
 rw [this]
theorem chk_some {L:List Att} {i:Nat} (h:∀ k,k < i→wrongAt L k=0) (hi:i < L.length) (hw:wrongAt L i≠0):chkR L=(wrongAt L i,(i:Int) + 1):=by
 unfold chkR
 have:(List.range L.length).find? (fun i => wrongAt L i != 0)=some i:=by
  rw [List.find?_range_eq_some]
  refine ⟨by simpa using hw,by simpa using hi,fun j hj => by simp [h j hj]⟩
 rw [this]
theorem wrong_range (L:List Att) (i:Nat):wrongAt L i≠0→1≤wrongAt L i∧wrongAt L i≤17:=by
 unfold wrongAt
 split
 ·omega
 ·split
  ·omega
  ·split <;> omega
theorem check_ok (A:Option Addr) (n c:Nat) (L:List Att) (w:World) (hA:Atts w A L) (hn:L.length=n) (h60:n≤100) (hc:n≤c) (hcm:c≤9223372036854775807) :
 Calls Tryz.prog 27 #[.slice A n c] w fun e w' => ∃ v,e=.returned v∧ErrV w' v (chkR L).1 (chkR L).2∧Upd [] w w':=by
 have HN:=Zh hn
 have HA:=Zh hA
 clear hn hA
 go_enter Tryz.func27,Tryz.ntmps27
 go_wp2_with fail
 go_loopw [7] (fun u wr => ∃ k:Nat,u=.int .i64 k∧k≤n∧Hid (Upd [] w wr)∧Hid (∀ j,j < k→wrongAt L j=0)) (fun u _ => n - (intOf u).toNat)
 case atStart => exact ⟨0,rfl,by omega,Zh (.refl _ _),Zh (by intro j hj; omega)⟩
 case round =>
  obtain ⟨k,rfl,hk,HU,HD⟩:=hrel
  by_cases hkn:k < n
  ·go_wp2_with fail
   refine (wrong_ok A n c L k _ (HA.out.upd HU.out) HN.out h60 hkn hc hcm).mono ?_; rintro e w1 ⟨rfl,u1⟩
   have U1:=Zh (HU.out.trans u1)
   clear u1
   obtain ⟨x,hx⟩:∃ x,wrongAt L k=x:=⟨_,rfl⟩
   rw [hx]
   have HX:=Zh hx
   clear hx
   by_cases h0:x=0
   ·subst h0
    go_wp2_with fail
    go_roundw
    case rel => exact ⟨k + 1,by go_num,by omega,U1,Zh (below_succ HD.out HX.out)⟩
    case measure => simp [intOf]; omega
   ·have e1:(x != 0)=true:=by simpa using h0
    have HC:Hid (chkR L=(x,(k:Int) + 1)):=Zh (by rw [chk_some HD.out (by rw [HN.out]; exact hkn) (by rw [HX.out]; exact h0),HX.out])
    have HR:Hid (1≤x∧x≤17):=Zh (by have:=wrong_range L k (by rw [HX.out]; exact h0); rwa [HX.out] at this)
    clear h0
    go_wp2_with fail
    go_ret
    refine ⟨_,rfl,?_,U1.out.alloc _⟩
    rw [HC.out]
    exact .fault (Blk.new _ _ _) HR.out.1 HR.out.2
  ·obtain rfl:n=k:=by omega
   have HC:Hid (chkR L=(0,0)):=Zh (chk_none (by rw [HN.out]; exact HD.out))
   go_wp2_with fail
   go_ret
   refine ⟨_,rfl,?_,HU.out⟩
   rw [HC.out]
   exact .nil _
theorem rcheck_ok (A:Option Addr) (n c:Nat) (L:List Att) (w:World) (hA:Atts w A L) (hn:L.length=n) (h60:n≤100) :
 Calls Tryz.prog 62 #[.slice A n c] w fun e w' => e=.returned (.tuple #[.int .i64 (chkR L).1,.int .i64 (chkR L).2])∧Upd [] w w':=by
 have HN:=Zh hn
 have HA:=Zh hA
 clear hn hA
 go_enter Tryz.func62,Tryz.ntmps62
 go_wp2_with fail
 go_loopw [4] (fun u wr => ∃ k:Nat,u=.int .i64 k∧k≤n∧Hid (Upd [] w wr)∧Hid (∀ j,j < k→wrongAt L j=0)) (fun u _ => n - (intOf u).toNat)
 case atStart => exact ⟨0,rfl,by omega,Zh (.refl _ _),Zh (by intro j hj; omega)⟩
 case round =>
  obtain ⟨i,rfl,hi,HU,HD⟩:=hrel
  by_cases hin:i < n
  ·obtain ⟨v,hv⟩:∃ v,L.getD i default=v:=⟨_,rfl⟩
   obtain ⟨ad,rfl,x1,x2,x3,x4,x5,x6⟩:=(HA.out.upd HU.out).six i (by rw [HN.out]; exact hin) v hv
   obtain ⟨a1,a2,a3,a4,a5,a6⟩:=v
   dsimp only at x1 x2 x3 x4 x5 x6
   have HV:=Zh hv
   have i0:(0:Int)≤i:=by omega
   have i1:(i:Int) < n:=by omega
   clear hv x1 x2 x3 x4
   by_cases h2:a6 < a5
   ·have HX:Hid (wrongAt L i=2):=Zh (wrong_2 (by rw [HV.out]; exact h2))
    have HC:Hid (chkR L=(2,(i:Int) + 1)):=Zh (by rw [chk_some HD.out (by rw [HN.out]; exact hin) (by rw [HX.out]; omega),HX.out])
    go_wp2_with fail
    go_quiet (fail)
    go_wp2_with fail
    go_ret2
    rw [HC.out]
    exact ⟨rfl,HU.out.drewN _⟩
   ·have HR:Hid ((L.getD i default).be≤(L.getD i default).en):=Zh (by rw [HV.out]; exact Int.not_lt.1 h2)
    go_wp2_with fail
    go_quiet (fail)
    go_wp2_with fail
    clear x5 x6
    have U1:Hid (Upd [] w (wr.drewN nq)):=Zh (HU.out.drewN _)
    generalize wr.drewN nq=w1 at *
    go_loopw [5] (fun u ws => ∃ k:Nat,u=.int .i64 k∧k≤i∧Hid (Upd [] w ws)∧Hid (∀ j,j < k→dupB L i j=false)) (fun u _ => i - (intOf u).toNat)
    case atStart => exact ⟨0,rfl,by omega,U1,Zh (by intro j hj; omega)⟩
    case round =>
     obtain ⟨k,rfl,hk,KU,KD⟩:=hrel
     by_cases hki:k < i
     ·obtain ⟨v,hv⟩:∃ v,L.getD k default=v:=⟨_,rfl⟩
      obtain ⟨ad',he,y1,y2,y3,y4,y5,y6⟩:=(HA.out.upd KU.out).six k (by rw [HN.out]; omega) v hv
      injection he with he
      subst he
      obtain ⟨ad',he,x1,x2,x3,x4,x5,x6⟩:=(HA.out.upd KU.out).six i (by rw [HN.out]; omega) _ HV.out
      injection he with he
      subst he
      obtain ⟨b1,b2,b3,b4,b5,b6⟩:=v
      dsimp only at y1 y2 y3 y4 y5 y6 x1 x2 x3 x4 x5 x6
      have HK:=Zh hv
      have k0:(0:Int)≤k:=by omega
      have k1:(k:Int) < n:=by omega
      clear hv y1 y2 y5 y6 x1 x2 x5 x6
      have HDK:Hid (dupB L i k=(a4 && b4 && decide (a3=b3))):=Zh (by unfold dupB; rw [HV.out,HK.out])
      cases a4 with
      | false =>
        go_wp2_with fail
        go_quiet (fail)
        go_wp2_with fail
        go_roundw
        case rel => exact ⟨k + 1,by go_num,by omega,Zh (KU.out.drewN _),Zh (below_succ KD.out (by rw [HDK.out]; rfl))⟩
        case measure => simp [intOf]; omega
      | true =>
        cases b4 with
        | false =>
          go_wp2_with fail
          go_quiet (fail)
          go_wp2_with fail
          go_roundw
          case rel => exact ⟨k + 1,by go_num,by omega,Zh (KU.out.drewN _),Zh (below_succ KD.out (by rw [HDK.out]; rfl))⟩
          case measure => simp [intOf]; omega
        | true =>
          by_cases h3:a3=b3
          ·subst h3
           have HX:Hid (wrongAt L i=7):=Zh (wrong_7 HR.out hki (by rw [HDK.out]; simp))
           have HC:Hid (chkR L=(7,(i:Int) + 1)):=Zh (by rw [chk_some HD.out (by rw [HN.out]; exact hin) (by rw [HX.out]; omega),HX.out])
           go_wp2_with fail
           go_quiet (fail)
           go_wp2_with fail
           go_ret2
           rw [HC.out]
           exact ⟨rfl,KU.out.drewN _⟩
          ·have e3:(a3 == b3)=false:=by simpa using h3
           have H3:Hid (dupB L i k=false):=Zh (by rw [HDK.out]; simp [h3])
           clear h3
           go_wp2_with fail
           go_quiet (fail)
           go_wp2_with fail
           go_roundw
           case rel => exact ⟨k + 1,by go_num,by omega,Zh (KU.out.drewN _),Zh (below_succ KD.out H3.out)⟩
           case measure => simp [intOf]; omega
     ·obtain rfl:i=k:=by omega
      clear HU U1
      go_wp2_with fail
      obtain ⟨w2,rfl⟩:∃ w2:World,w2=wr:=⟨_,rfl⟩
      go_loopw [6] (fun u ws => ∃ j:Nat,u=.int .i64 j∧j≤n∧Hid (Upd [] w ws)∧Hid (∀ k,k < j→confB L i k=false)) (fun u _ => n - (intOf u).toNat)
      case atStart => exact ⟨0,rfl,by omega,KU,Zh (by intro j hj; omega)⟩
      case round =>
       obtain ⟨j,rfl,hj,JU,JC⟩:=hrel
       by_cases hjn:j < n
       ·obtain ⟨v,hv⟩:∃ v,L.getD j default=v:=⟨_,rfl⟩
        obtain ⟨ad',he,y1,y2,y3,y4,y5,y6⟩:=(HA.out.upd JU.out).six j (by rw [HN.out]; omega) v hv
        injection he with he
        subst he
        obtain ⟨ad',he,x1,x2,x3,x4,x5,x6⟩:=(HA.out.upd JU.out).six i (by rw [HN.out]; omega) _ HV.out
        injection he with he
        subst he
        obtain ⟨b1,b2,b3,b4,b5,b6⟩:=v
        dsimp only at y1 y2 y3 y4 y5 y6 x1 x2 x3 x4 x5 x6
        have HK:=Zh hv
        have j0:(0:Int)≤j:=by omega
        have j1:(j:Int) < n:=by omega
        clear hv y1 y2 y3 y4 y5 x1 x2 x3 x4 x6
        have HCJ:Hid (confB L i j=(decide (j≠i) && decide (b6 < a5) && !ahd L j i)):=Zh (by unfold confB; rw [HV.out,HK.out])
        by_cases hji:j=i
        ·subst hji
         have H3:Hid (confB L j j=false):=Zh (by rw [HCJ.out]; simp)
         go_wp2_with fail
         go_quiet (fail)
         go_wp2_with fail
         go_roundw
         case rel => exact ⟨j + 1,by go_num,by omega,Zh (JU.out.drewN _),Zh (below_succ JC.out H3.out)⟩
         case measure => simp [intOf]; omega
        ·have e1:((j:Int) != (i:Int))=true:=by
          have:¬ (j:Int)=i:=by omega
          simpa using this
         have hne:=Zh hji
         clear hji
         by_cases h5:b6 < a5
         ·have KP:=Zh (show ∀ W,Upd [] wr W→W.cell? ⟨(ad.add (i * 6)).block,(ad.add (i * 6)).off + 4,none⟩=some (.int .i64 a5)∧W.cell? ⟨(ad.add (j * 6)).block,(ad.add (j * 6)).off + 5,none⟩=some (.int .i64 b6) from fun W hu => by
           obtain ⟨ad1,he,_,_,_,_,z5,_⟩:=(HA.out.upd (JU.out.trans hu)).six i (by rw [HN.out]; omega) _ HV.out
           injection he with he
           subst he
           obtain ⟨ad1,he,_,_,_,_,_,z6⟩:=(HA.out.upd (JU.out.trans hu)).six j (by rw [HN.out]; omega) _ HK.out
           injection he with he
           subst he
           exact ⟨z5,z6⟩)
          have AT:=Zh (HA.out.upd (JU.out.trans (Upd.refl [] wr).drew))
          go_wp2_with fail
          cases hb:ahd L j i with
          | true =>
            have H3:Hid (confB L i j=false):=Zh (by rw [HCJ.out,hb]; simp)
            have HB:=Zh hb
            clear hb
            go_region_held3 (fun W => W.cell? ⟨(ad.add (i * 6)).block,(ad.add (i * 6)).off + 4,none⟩=some (.int .i64 a5)∧W.cell? ⟨(ad.add (j * 6)).block,(ad.add (j * 6)).off + 5,none⟩=some (.int .i64 b6)) (first | exact KP.out _ ((Upd.refl [] wr).drew.trans u3) | exact KP.out _ ((Upd.refl [] wr).drew) | go_keep)
             (first | (go_at_call 89; refine (rahead_at (some ad) n c L _ AT.out HN.out j i hjn hin).mono ?_; rintro e w3 ⟨rfl,u3⟩; rw [HB.out]))
            go_wp2_with fail
            go_roundw
            case rel => exact ⟨j + 1,by go_num,by omega,Zh (JU.out.drew.trans u3),Zh (below_succ JC.out H3.out)⟩
            case measure => simp [intOf]; omega
          | false =>
            have HX:Hid (wrongAt L i=12):=Zh (wrong_12 HR.out KD.out (by rw [HN.out]; exact hjn) (by rw [HCJ.out,hb]; simp [hne.out,h5]))
            have HC:Hid (chkR L=(12,(i:Int) + 1)):=Zh (by rw [chk_some HD.out (by rw [HN.out]; exact hin) (by rw [HX.out]; omega),HX.out])
            have HB:=Zh hb
            clear hb
            go_region_held3 (fun W => W.cell? ⟨(ad.add (i * 6)).block,(ad.add (i * 6)).off + 4,none⟩=some (.int .i64 a5)∧W.cell? ⟨(ad.add (j * 6)).block,(ad.add (j * 6)).off + 5,none⟩=some (.int .i64 b6)) (first | exact KP.out _ ((Upd.refl [] wr).drew.trans u3) | exact KP.out _ ((Upd.refl [] wr).drew) | go_keep)
             (first | (go_at_call 89; refine (rahead_at (some ad) n c L _ AT.out HN.out j i hjn hin).mono ?_; rintro e w3 ⟨rfl,u3⟩; rw [HB.out]))
            go_wp2_with fail
            go_ret2
            rw [HC.out]
            exact ⟨rfl,JU.out.drew.trans u3⟩
         ·have H3:Hid (confB L i j=false):=Zh (by rw [HCJ.out]; simp [h5])
          have e5:decide (b6 < a5)=false:=by simpa using h5
          go_wp2_with fail
          go_quiet (fail)
          go_wp2_with fail
          go_roundw
          case rel => exact ⟨j + 1,by go_num,by omega,Zh (JU.out.drewN _),Zh (below_succ JC.out H3.out)⟩
          case measure => simp [intOf]; omega
       ·obtain rfl:n=j:=by omega
        have H3:Hid (wrongAt L i=0):=Zh (wrong_0 HR.out KD.out (by rw [HN.out]; exact JC.out))
        go_wp2_with fail
        go_roundw
        case rel => exact ⟨i + 1,by go_num,by omega,JU,Zh (below_succ HD.out H3.out)⟩
        case measure => simp [intOf]; omega
  ·obtain rfl:n=i:=by omega
   have HC:Hid (chkR L=(0,0)):=Zh (chk_none (by rw [HN.out]; exact HD.out))
   go_wp2_with fail
   go_ret2
   rw [HC.out]
   exact ⟨rfl,HU.out⟩
end Go.Proofs.YtmjnmpifibemjaaGreatDoor
namespace Go.Proofs.YtmjnmpifibemjaaGreatDoor.Jd
open Ev MP
structure Ed where
 a:Att
 kd:Int
 told:List Int
 er:Int
deriving Inhabited
structure Pn where
 words:Int
 pat:Int
 ks:List Int
 ths:List (List (List Stm))
def txnR (p:Pn) (x:Att):Option (List Stm):=if 0≤x.th∧0≤x.ix then (p.ths[x.th.toNat]?).bind (fun t => t[x.ix.toNat]?) else none
def txnO (p:Pn) (x:Ed):List Stm:=(txnR p x.a).getD []
def isDone (x:Ed):Bool:=x.kd == 1
def doneR (l:List Ed):List Ed:=l.filter isDone
def otherR (l:List Ed):List Ed:=l.filter (fun x => !isDone x)
def attsR (l:List Ed):List Att:=l.map (·.a)
def ordR (d:List Ed):List Nat:=srt (ahd (attsR d)) (List.range (attsR d).length)
def seqR (d:List Ed):List Ed:=(ordR d).map (fun i => d.getD i default)
def s0R (p:Pn):MS:=⟨p.ks,List.replicate p.ks.length []⟩
def okE (p:Pn) (s:MS) (x:Ed):Bool:=endE s (txnO p x) == 1 && toldE s (txnO p x) == x.told
def nextE (p:Pn) (s:MS) (x:Ed):MS:=finE s (txnO p x)
def stN (p:Pn) (q:List Ed) (k:Nat):MS:=(q.take k).foldl (nextE p) (s0R p)
def toldB (p:Pn) (x:Ed) (s:MS):Bool:=endE s (txnO p x) == x.kd && toldE s (txnO p x) == x.told
def seenR (p:Pn) (d:List Ed) (x:Ed):Bool:=(List.range (d.length + 1)).any fun k => decide (wth (attsR d) x.a.be≤k) && toldB p x (stN p (seqR d) k)
def lostR (p:Pn) (d:List Ed) (x:Ed):Bool:=x.er == 0 && x.kd != 0 && !seenR p d x
def judgeR (p:Pn) (l:List Ed):Int × Int :=
 match (List.range l.length).find? (fun i => (txnR p (l.getD i default).a).isNone) with
 | some i => (3,(i:Int) + 1)
 | none =>
   if (chkR (attsR (doneR l))).1≠0 then chkR (attsR (doneR l)) else
   match (List.range (doneR l).length).find? (fun k => !okE p (stN p (seqR (doneR l)) k) ((seqR (doneR l)).getD k default)) with
   | some k => (12,(k:Int) + 1)
   | none =>
     match (List.range (otherR l).length).find? (fun i => lostR p (doneR l) ((otherR l).getD i default)) with
     | some i => (5,(i:Int) + 1)
     | none => (0,0)
theorem getD_mem {α:Type} [Inhabited α] {l:List α} {i:Nat} (h:i < l.length):l.getD i default ∈ l:=by
 rw [List.getD_eq_getElem?_getD,List.getElem?_eq_getElem h]
 exact List.getElem_mem h
theorem mem_getD {α:Type} [Inhabited α] {l:List α} {x:α} (h:x ∈ l):∃ i,i < l.length∧l.getD i default=x:=by
 obtain ⟨i,hi,e⟩:=List.getElem_of_mem h
 exact ⟨i,hi,by rw [List.getD_eq_getElem?_getD,List.getElem?_eq_getElem hi]; exact e⟩
theorem find_none {n:Nat} {f:Nat→Bool}:(List.range n).find? f=none↔∀ i,i < n→f i=false:=by
 rw [List.find?_eq_none]
 constructor
 ·intro h i hi
  have:=h i (by simpa using hi)
  simpa using this
 ·intro h i hi
  rw [h i (by simpa using hi)]
  simp
def Fine0 (p:Pn) (l:List Ed):Prop :=
 (∀ x ∈ l,(txnR p x.a).isNone=false)∧(chkR (attsR (doneR l))).1=0∧(∀ k,k < (doneR l).length→okE p (stN p (seqR (doneR l)) k) ((seqR (doneR l)).getD k default)=true)∧∀ x ∈ otherR l,lostR p (doneR l) x=false
theorem judge_zero (p:Pn) (l:List Ed):(judgeR p l).1=0↔Fine0 p l:=by
 unfold judgeR Fine0
 cases h1:(List.range l.length).find? (fun i => (txnR p (l.getD i default).a).isNone) with
 | some i =>
   simp only
   constructor
   ·intro h; cases h
   ·intro ⟨h,_⟩
    have h2:=List.find?_some h1
    have h3:=List.mem_of_find?_eq_some h1
    have:=h _ (getD_mem (by simpa using h3))
    rw [h2] at this
    cases this
 | none =>
   rw [find_none] at h1
   have h1':∀ x ∈ l,(txnR p x.a).isNone=false:=fun x hx => by
    obtain ⟨i,hi,rfl⟩:=mem_getD hx
    exact h1 i hi
   simp only
   by_cases h2:(chkR (attsR (doneR l))).1=0
   ·rw [if_neg (by simp [h2])]
    cases h3:(List.range (doneR l).length).find? (fun k => !okE p (stN p (seqR (doneR l)) k) ((seqR (doneR l)).getD k default)) with
    | some k =>
      simp only
      constructor
      ·intro h; cases h
      ·intro ⟨_,_,h,_⟩
       have h4:=List.find?_some h3
       have h5:=List.mem_of_find?_eq_some h3
       rw [h k (by simpa using h5)] at h4
       cases h4
    | none =>
      rw [find_none] at h3
      have h3':∀ k,k < (doneR l).length→okE p (stN p (seqR (doneR l)) k) ((seqR (doneR l)).getD k default)=true:=fun k hk => by simpa using h3 k hk
      simp only
      cases h4:(List.range (otherR l).length).find? (fun i => lostR p (doneR l) ((otherR l).getD i default)) with
      | some i =>
        simp only
        constructor
        ·intro h; cases h
        ·intro ⟨_,_,_,h⟩
         have h5:=List.find?_some h4
         have h6:=List.mem_of_find?_eq_some h4
         rw [h _ (getD_mem (by simpa using h6))] at h5
         cases h5
      | none =>
        rw [find_none] at h4
        simp only [true_iff]
        refine ⟨h1',h2,h3',fun x hx => ?_⟩
        obtain ⟨i,hi,rfl⟩:=mem_getD hx
        exact h4 i hi
   ·rw [if_pos h2]
    exact ⟨fun h => absurd h h2,fun h => absurd h.2.1 h2⟩
theorem ord_perm (d:List Ed):(ordR d).Perm (List.range d.length):=by
 have h:=srt_perm (lt:=ahd (attsR d)) (List.range (attsR d).length)
 unfold ordR
 rw [show (attsR d).length=d.length by simp [attsR]] at h ⊢
 exact h
end Go.Proofs.YtmjnmpifibemjaaGreatDoor.Jd

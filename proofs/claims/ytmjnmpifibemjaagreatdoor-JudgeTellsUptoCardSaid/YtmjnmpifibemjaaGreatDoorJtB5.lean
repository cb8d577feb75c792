/-
 container/heap over one kind of thing: up, down, by contracts.
-/
import Derived.Test.YtmjnmpifibemjaaGreatDoorJtB0
import Derived.Test.YtmjnmpifibemjaaGreatDoorProg
import Derived.Test.YtmjnmpifibemjaaGreatDoorJtB4
import Derived.Deep.AppendLies
import Derived.BigRegion
import Derived.Deep.RegionHeld3
import Derived.StillTailTactics
set_option linter.unusedVariables false
set_option linter.unusedSimpArgs false
set_option maxRecDepth 100000
set_option maxHeartbeats 16000000
namespace Go.Proofs.YtmjnmpifibemjaaGreatDoor
open Go.RowKit HeapPlain
theorem half (k:Nat) (h:¬ k=0):(((k - 1) / 2:Nat):Int)=((k:Int) - 1) / 2:=by omega
structure Heaped (α:Type) [Inhabited α] (fLen fLess fSwap:FuncId) (pv:Value) (lt:α→α→Bool) (St:World→List α→Prop) (Fr:World→World→Prop):Prop where
 refl:∀ w,Fr w w
 trans:∀ a b c,Fr a b→Fr b c→Fr a c
 len:∀ w xs,St w xs→Calls Tryz.prog fLen #[pv] w fun e w' => e=.returned (.int .i64 xs.length)∧St w' xs∧Fr w w'
 less:∀ w xs (i j:Nat),St w xs→i < xs.length→j < xs.length→Calls Tryz.prog fLess #[pv,.int .i64 i,.int .i64 j] w fun e w' => e=.returned (.bool (lt (xs.getD i default) (xs.getD j default)))∧St w' xs∧Fr w w'
 swap:∀ w xs (i j:Nat),St w xs→i < xs.length→j < xs.length→Calls Tryz.prog fSwap #[pv,.int .i64 i,.int .i64 j] w fun e w' => e=.returned (.tuple #[])∧St w' (swp xs i j)∧Fr w w'
 small:∀ w xs,St w xs→xs.length≤1000000
section
variable {α:Type} [Inhabited α] {lt:α→α→Bool} {St:World→List α→Prop} {Fr:World→World→Prop} {p:Nat}
theorem heap_up (H:Heaped α 55 172 175 (.pointer (some ⟨p,0,none⟩)) lt St Fr) (o:Ord lt) (n:Nat) (xs:List α) (j:Nat) (w:World) (hs:St w xs) (hn:xs.length=n) (hj:j < n) (hu:Up lt n xs j) :
 Calls Tryz.prog 83 #[.iface 121 (.pointer (some ⟨p,0,none⟩)),.int .i64 j] w fun e w' => e=.returned (.tuple #[])∧∃ ys,St w' ys∧ys.Perm xs∧Hp lt n ys∧Fr w w':=by
 have hsm:n≤1000000:=hn ▸ H.small w xs hs
 have HH:=Zh H
 have HS:=Zh hs
 have HU:=Zh hu
 have HN:=Zh hn
 have HO:=Zh o
 clear hs hu H hn o
 go_enter Tryz.func83,Tryz.ntmps83
 go_wp2_with fail
 go_loopw [1] (fun v wr => ∃ (k:Nat) (ys:List α),v=.int .i64 k∧k < n∧Hid (St wr ys∧ys.Perm xs∧ys.length=n∧Up lt n ys k∧Fr w wr)) (fun v _ => (intOf v).toNat)
 case atStart => exact ⟨j,xs,rfl,hj,Zh ⟨HS.out,.refl _,HN.out,HU.out,HH.out.refl _⟩⟩
 case round =>
  obtain ⟨k,ys,rfl,hk,HY⟩:=hrel
  by_cases h0:k=0
  ·subst h0
   go_wp2_with fail
   go_end0
   obtain ⟨y1,y2,y3,y4,y5⟩:=HY.out
   exact ⟨rfl,ys,y1,y2,y4.stop (.inl rfl),y5⟩
  ·cases hl:lt (ys.getD k default) (ys.getD ((k - 1) / 2) default) with
   | false =>
     have HL:=Zh hl
     clear hl
     go_wp2_with fail
     have hc:=HH.out.less wr ys k ((k - 1) / 2) HY.out.1 (by rw [HY.out.2.2.1]; omega) (by rw [HY.out.2.2.1]; omega)
     rw [half k h0] at hc
     refine hc.mono ?_; clear hc; rintro e w1 ⟨he,s1,f1⟩
     rw [HL.out] at he
     subst he
     have S1:=Zh s1
     have F1:=Zh f1
     clear s1 f1
     go_wp2_with fail
     go_end0
     obtain ⟨y1,y2,y3,y4,y5⟩:=HY.out
     exact ⟨rfl,ys,S1.out,y2,y4.stop (.inr HL.out),HH.out.trans _ _ _ y5 F1.out⟩
   | true =>
     have HL:=Zh hl
     clear hl
     go_wp2_with fail
     have hc:=HH.out.less wr ys k ((k - 1) / 2) HY.out.1 (by rw [HY.out.2.2.1]; omega) (by rw [HY.out.2.2.1]; omega)
     rw [half k h0] at hc
     refine hc.mono ?_; clear hc; rintro e w1 ⟨he,s1,f1⟩
     rw [HL.out] at he
     subst he
     have S1:=Zh s1
     have F1:=Zh f1
     clear s1 f1
     go_wp2_with fail
     have hc:=HH.out.swap w1 ys ((k - 1) / 2) k S1.out (by rw [HY.out.2.2.1]; omega) (by rw [HY.out.2.2.1]; omega)
     rw [half k h0] at hc
     refine hc.mono ?_; clear hc; rintro e w2 ⟨rfl,s2,f2⟩
     have S2:=Zh s2
     have F2:=Zh f2
     clear s2 f2
     go_wp2_with fail
     go_roundw
     case rel =>
      obtain ⟨y1,y2,y3,y4,y5⟩:=HY.out
      exact ⟨(k - 1) / 2,_,by rw [half k h0],by omega,Zh ⟨S2.out,(swp_perm ys _ _ (by omega) (by omega)).trans y2,by rw [swp_length]; exact y3,y4.step HO.out (by omega) (by omega) (by omega) HL.out,HH.out.trans _ _ _ (HH.out.trans _ _ _ y5 F1.out) F2.out⟩⟩
     case measure => simp [intOf]; omega
theorem down_stop {n k i0:Nat} {ys xs:List α} (hd:(k=i0∧ys=xs)∨(i0 < k∧Dn lt n ys k)) (hc:∀ m,0 < m→m < n→(m - 1) / 2=k→lt (ys.getD m default) (ys.getD k default)=false) {b:Bool} (hb:b=decide (i0 < k)) :
 (b=true→Hp lt n ys)∧(b=false→ys=xs∧∀ k,0 < k→k < n→(k - 1) / 2=i0→lt (xs.getD k default) (xs.getD i0 default)=false):=by
 subst hb
 rcases hd with ⟨rfl,rfl⟩ | ⟨h1,h2⟩
 ·exact ⟨fun h => by simp at h,fun _ => ⟨rfl,hc⟩⟩
 ·exact ⟨fun _ => h2.stop hc,fun h => by simp at h; omega⟩
theorem down_kids (o:Ord lt) {n k j:Nat} {ys:List α} (hj:j=2 * k + 1∨j=2 * k + 2) (h1:j=2 * k + 1→2 * k + 2 < n→lt (ys.getD (2 * k + 2) default) (ys.getD (2 * k + 1) default)=false)
 (h2:j=2 * k + 2→lt (ys.getD (2 * k + 2) default) (ys.getD (2 * k + 1) default)=true):∀ m,0 < m→m < n→(m - 1) / 2=k→lt (ys.getD m default) (ys.getD j default)=false:=by
 intro m m0 mn mk
 have irr:∀ a,lt a a=false:=fun a => by
  cases h:lt a a with
  | false => rfl
  | true => exact (o.asym a a h).symm.trans h |>.symm ▸ rfl
 have hm:m=2 * k + 1∨m=2 * k + 2:=by omega
 rcases hm with rfl | rfl <;> rcases hj with rfl | rfl
 ·exact irr _
 ·exact o.asym _ _ (h2 rfl)
 ·exact h1 rfl mn
 ·exact irr _
theorem heap_down (H:Heaped α 55 172 175 (.pointer (some ⟨p,0,none⟩)) lt St Fr) (o:Ord lt) (n l:Nat) (xs:List α) (i0:Nat) (w:World) (hs:St w xs) (hn:xs.length=l) (hnl:n≤l) (hi:i0 < l) (hu:Ex lt n xs i0) :
 Calls Tryz.prog 84 #[.iface 121 (.pointer (some ⟨p,0,none⟩)),.int .i64 i0,.int .i64 n] w fun e w' => ∃ (b:Bool) (ys:List α),e=.returned (.bool b)∧St w' ys∧ys.Perm xs∧(∀ k,n≤k→ys.getD k default=xs.getD k default)∧((b=true→Hp lt n ys)∧(b=false→ys=xs∧∀ k,0 < k→k < n→(k - 1) / 2=i0→lt (xs.getD k default) (xs.getD i0 default)=false))∧Fr w w':=by
 have hsm:l≤1000000:=hn ▸ H.small w xs hs
 have HH:=Zh H
 have HS:=Zh hs
 have HU:=Zh hu
 have HN:=Zh hn
 have HO:=Zh o
 clear hs hu H hn o
 go_enter Tryz.func84,Tryz.ntmps84
 go_wp2_with fail
 go_loopw [7] (fun v wr => ∃ (k:Nat) (ys:List α),v=.int .i64 k∧k < l∧Hid (St wr ys∧ys.Perm xs∧ys.length=l∧(∀ m,n≤m→ys.getD m default=xs.getD m default)∧Ex lt n ys k∧((k=i0∧ys=xs)∨(i0 < k∧Dn lt n ys k))∧Fr w wr)) (fun v _ => l - (intOf v).toNat)
 case atStart => exact ⟨i0,xs,rfl,hi,Zh ⟨HS.out,.refl _,HN.out,fun _ _ => rfl,HU.out,.inl ⟨rfl,rfl⟩,HH.out.refl _⟩⟩
 case round =>
  obtain ⟨k,ys,rfl,hk,HY⟩:=hrel
  have hq1:((2 * k + 1:Nat):Int)=2 * (k:Int) + 1:=by omega
  have hq2:((2 * k + 2:Nat):Int)=2 * (k:Int) + 1 + 1:=by omega
  have HQ1:=Zh hq1
  have HQ2:=Zh hq2
  clear hq1 hq2
  by_cases h1:n≤2 * k + 1
  ·have h1':(2 * (k:Int) + 1) ≥ n:=by omega
   go_wp2_with fail
   go_ret
   obtain ⟨y1,y2,y3,y4,y5,y6,y7⟩:=HY.out
   exact ⟨_,ys,rfl,y1,y2,y4,down_stop y6 (fun m m0 mn mk => by omega) rfl,y7⟩
  ·have h1':¬ (2 * (k:Int) + 1) ≥ n:=by omega
   have h1'':¬ (2 * (k:Int) + 1) < 0:=by omega
   by_cases h2:2 * k + 2 < n
   ·have h2':(2 * (k:Int) + 1 + 1) < n:=by omega
    cases hb:lt (ys.getD (2 * k + 2) default) (ys.getD (2 * k + 1) default) with
    | true =>
      have HB:=Zh hb
      clear hb
      cases hl:lt (ys.getD (2 * k + 2) default) (ys.getD k default) with
      | false =>
        have HL:=Zh hl
        clear hl
        go_wp2_with fail
        have hc:=HH.out.less wr ys (2 * k + 2) (2 * k + 1) HY.out.1 (by rw [HY.out.2.2.1]; omega) (by rw [HY.out.2.2.1]; omega)
        rw [HQ2.out,HQ1.out] at hc
        refine hc.mono ?_; clear hc; rintro e w1 ⟨he,s1,f1⟩
        rw [HB.out] at he
        subst he
        have S1:=Zh s1
        have F1:=Zh f1
        clear s1 f1
        go_wp2_with fail
        have hc:=HH.out.less w1 ys (2 * k + 2) (k) S1.out (by rw [HY.out.2.2.1]; omega) (by rw [HY.out.2.2.1]; omega)
        rw [HQ2.out] at hc
        refine hc.mono ?_; clear hc; rintro e w2 ⟨he,s2,f2⟩
        rw [HL.out] at he
        subst he
        have S2:=Zh s2
        have F2:=Zh f2
        clear s2 f2
        go_wp2_with fail
        go_ret
        obtain ⟨y1,y2,y3,y4,y5,y6,y7⟩:=HY.out
        have kd:=down_kids HO.out (n:=n) (k:=k) (ys:=ys) (.inr rfl) (fun h => by omega) (fun _ => HB.out)
        exact ⟨_,ys,rfl,S2.out,y2,y4,down_stop y6 (fun m m0 mn mk => HO.out.tran _ _ _ HL.out (kd m m0 mn mk)) rfl,(HH.out.trans _ _ _ (HH.out.trans _ _ _ y7 F1.out) F2.out)⟩
      | true =>
        have HL:=Zh hl
        clear hl
        go_wp2_with fail
        have hc:=HH.out.less wr ys (2 * k + 2) (2 * k + 1) HY.out.1 (by rw [HY.out.2.2.1]; omega) (by rw [HY.out.2.2.1]; omega)
        rw [HQ2.out,HQ1.out] at hc
        refine hc.mono ?_; clear hc; rintro e w1 ⟨he,s1,f1⟩
        rw [HB.out] at he
        subst he
        have S1:=Zh s1
        have F1:=Zh f1
        clear s1 f1
        go_wp2_with fail
        have hc:=HH.out.less w1 ys (2 * k + 2) (k) S1.out (by rw [HY.out.2.2.1]; omega) (by rw [HY.out.2.2.1]; omega)
        rw [HQ2.out] at hc
        refine hc.mono ?_; clear hc; rintro e w2 ⟨he,s2,f2⟩
        rw [HL.out] at he
        subst he
        have S2:=Zh s2
        have F2:=Zh f2
        clear s2 f2
        go_wp2_with fail
        have hc:=HH.out.swap w2 ys k (2 * k + 2) S2.out (by rw [HY.out.2.2.1]; omega) (by rw [HY.out.2.2.1]; omega)
        rw [HQ2.out] at hc
        refine hc.mono ?_; clear hc; rintro e w3 ⟨rfl,s3,f3⟩
        have S3:=Zh s3
        have F3:=Zh f3
        clear s3 f3
        go_wp2_with fail
        go_roundw
        case rel =>
         obtain ⟨y1,y2,y3,y4,y5,y6,y7⟩:=HY.out
         have kd:=down_kids HO.out (n:=n) (k:=k) (ys:=ys) (.inr rfl) (fun h => by omega) (fun _ => HB.out)
         have dn:=y5.step HO.out (by omega) (by omega) (by omega) (by omega) HL.out kd
         refine ⟨2 * k + 2,_,by rw [HQ2.out],by omega,Zh ⟨S3.out,(swp_perm ys _ _ (by omega) (by omega)).trans y2,by rw [swp_length]; exact y3,fun m hm => ?_,dn.ex,.inr ⟨by rcases y6 with h | h <;> omega,dn⟩,HH.out.trans _ _ _ (HH.out.trans _ _ _ (HH.out.trans _ _ _ y7 F1.out) F2.out) F3.out⟩⟩
         rw [swp_getD _ _ _ _ (by omega) (by omega),if_neg (by omega),if_neg (by omega)]
         exact y4 m hm
        case measure => simp [intOf]; omega
    | false =>
      have HB:=Zh hb
      clear hb
      cases hl:lt (ys.getD (2 * k + 1) default) (ys.getD k default) with
      | false =>
        have HL:=Zh hl
        clear hl
        go_wp2_with fail
        have hc:=HH.out.less wr ys (2 * k + 2) (2 * k + 1) HY.out.1 (by rw [HY.out.2.2.1]; omega) (by rw [HY.out.2.2.1]; omega)
        rw [HQ2.out,HQ1.out] at hc
        refine hc.mono ?_; clear hc; rintro e w1 ⟨he,s1,f1⟩
        rw [HB.out] at he
        subst he
        have S1:=Zh s1
        have F1:=Zh f1
        clear s1 f1
        go_wp2_with fail
        have hc:=HH.out.less w1 ys (2 * k + 1) (k) S1.out (by rw [HY.out.2.2.1]; omega) (by rw [HY.out.2.2.1]; omega)
        rw [HQ1.out] at hc
        refine hc.mono ?_; clear hc; rintro e w2 ⟨he,s2,f2⟩
        rw [HL.out] at he
        subst he
        have S2:=Zh s2
        have F2:=Zh f2
        clear s2 f2
        go_wp2_with fail
        go_ret
        obtain ⟨y1,y2,y3,y4,y5,y6,y7⟩:=HY.out
        have kd:=down_kids HO.out (n:=n) (k:=k) (ys:=ys) (.inl rfl) (fun _ _ => HB.out) (fun h => by omega)
        exact ⟨_,ys,rfl,S2.out,y2,y4,down_stop y6 (fun m m0 mn mk => HO.out.tran _ _ _ HL.out (kd m m0 mn mk)) rfl,(HH.out.trans _ _ _ (HH.out.trans _ _ _ y7 F1.out) F2.out)⟩
      | true =>
        have HL:=Zh hl
        clear hl
        go_wp2_with fail
        have hc:=HH.out.less wr ys (2 * k + 2) (2 * k + 1) HY.out.1 (by rw [HY.out.2.2.1]; omega) (by rw [HY.out.2.2.1]; omega)
        rw [HQ2.out,HQ1.out] at hc
        refine hc.mono ?_; clear hc; rintro e w1 ⟨he,s1,f1⟩
        rw [HB.out] at he
        subst he
        have S1:=Zh s1
        have F1:=Zh f1
        clear s1 f1
        go_wp2_with fail
        have hc:=HH.out.less w1 ys (2 * k + 1) (k) S1.out (by rw [HY.out.2.2.1]; omega) (by rw [HY.out.2.2.1]; omega)
        rw [HQ1.out] at hc
        refine hc.mono ?_; clear hc; rintro e w2 ⟨he,s2,f2⟩
        rw [HL.out] at he
        subst he
        have S2:=Zh s2
        have F2:=Zh f2
        clear s2 f2
        go_wp2_with fail
        have hc:=HH.out.swap w2 ys k (2 * k + 1) S2.out (by rw [HY.out.2.2.1]; omega) (by rw [HY.out.2.2.1]; omega)
        rw [HQ1.out] at hc
        refine hc.mono ?_; clear hc; rintro e w3 ⟨rfl,s3,f3⟩
        have S3:=Zh s3
        have F3:=Zh f3
        clear s3 f3
        go_wp2_with fail
        go_roundw
        case rel =>
         obtain ⟨y1,y2,y3,y4,y5,y6,y7⟩:=HY.out
         have kd:=down_kids HO.out (n:=n) (k:=k) (ys:=ys) (.inl rfl) (fun _ _ => HB.out) (fun h => by omega)
         have dn:=y5.step HO.out (by omega) (by omega) (by omega) (by omega) HL.out kd
         refine ⟨2 * k + 1,_,by rw [HQ1.out],by omega,Zh ⟨S3.out,(swp_perm ys _ _ (by omega) (by omega)).trans y2,by rw [swp_length]; exact y3,fun m hm => ?_,dn.ex,.inr ⟨by rcases y6 with h | h <;> omega,dn⟩,HH.out.trans _ _ _ (HH.out.trans _ _ _ (HH.out.trans _ _ _ y7 F1.out) F2.out) F3.out⟩⟩
         rw [swp_getD _ _ _ _ (by omega) (by omega),if_neg (by omega),if_neg (by omega)]
         exact y4 m hm
        case measure => simp [intOf]; omega
   ·have h2':¬ (2 * (k:Int) + 1 + 1) < n:=by omega
    cases hl:lt (ys.getD (2 * k + 1) default) (ys.getD k default) with
    | false =>
      have HL:=Zh hl
      clear hl
      go_wp2_with fail
      have hc:=HH.out.less wr ys (2 * k + 1) (k) HY.out.1 (by rw [HY.out.2.2.1]; omega) (by rw [HY.out.2.2.1]; omega)
      rw [HQ1.out] at hc
      refine hc.mono ?_; clear hc; rintro e w2 ⟨he,s2,f2⟩
      rw [HL.out] at he
      subst he
      have S2:=Zh s2
      have F2:=Zh f2
      clear s2 f2
      go_wp2_with fail
      go_ret
      obtain ⟨y1,y2,y3,y4,y5,y6,y7⟩:=HY.out
      have kd:=down_kids HO.out (n:=n) (k:=k) (ys:=ys) (.inl rfl) (fun _ h => absurd h h2) (fun h => by omega)
      exact ⟨_,ys,rfl,S2.out,y2,y4,down_stop y6 (fun m m0 mn mk => HO.out.tran _ _ _ HL.out (kd m m0 mn mk)) rfl,(HH.out.trans _ _ _ y7 F2.out)⟩
    | true =>
      have HL:=Zh hl
      clear hl
      go_wp2_with fail
      have hc:=HH.out.less wr ys (2 * k + 1) (k) HY.out.1 (by rw [HY.out.2.2.1]; omega) (by rw [HY.out.2.2.1]; omega)
      rw [HQ1.out] at hc
      refine hc.mono ?_; clear hc; rintro e w2 ⟨he,s2,f2⟩
      rw [HL.out] at he
      subst he
      have S2:=Zh s2
      have F2:=Zh f2
      clear s2 f2
      go_wp2_with fail
      have hc:=HH.out.swap w2 ys k (2 * k + 1) S2.out (by rw [HY.out.2.2.1]; omega) (by rw [HY.out.2.2.1]; omega)
      rw [HQ1.out] at hc
      refine hc.mono ?_; clear hc; rintro e w3 ⟨rfl,s3,f3⟩
      have S3:=Zh s3
      have F3:=Zh f3
      clear s3 f3
      go_wp2_with fail
      go_roundw
      case rel =>
       obtain ⟨y1,y2,y3,y4,y5,y6,y7⟩:=HY.out
       have kd:=down_kids HO.out (n:=n) (k:=k) (ys:=ys) (.inl rfl) (fun _ h => absurd h h2) (fun h => by omega)
       have dn:=y5.step HO.out (by omega) (by omega) (by omega) (by omega) HL.out kd
       refine ⟨2 * k + 1,_,by rw [HQ1.out],by omega,Zh ⟨S3.out,(swp_perm ys _ _ (by omega) (by omega)).trans y2,by rw [swp_length]; exact y3,fun m hm => ?_,dn.ex,.inr ⟨by rcases y6 with h | h <;> omega,dn⟩,HH.out.trans _ _ _ (HH.out.trans _ _ _ y7 F2.out) F3.out⟩⟩
       rw [swp_getD _ _ _ _ (by omega) (by omega),if_neg (by omega),if_neg (by omega)]
       exact y4 m hm
      case measure => simp [intOf]; omega
end
end Go.Proofs.YtmjnmpifibemjaaGreatDoor
namespace Go.Proofs.YtmjnmpifibemjaaGreatDoor
open Go.RowKit HeapPlain
section
variable {α:Type} [Inhabited α] {lt:α→α→Bool} {St:World→List α→Prop} {Fr:World→World→Prop} {p:Nat}
theorem heap_push (H:Heaped α 55 172 175 (.pointer (some ⟨p,0,none⟩)) lt St Fr) (o:Ord lt) (n:Nat) (xs:List α) (x:α) (ty:TypeId) (v:Value) (w:World) (_hs:St w xs) (hn:xs.length=n) (hu:Hp lt n xs)
 (hp:Calls Tryz.prog 174 #[.pointer (some ⟨p,0,none⟩),.iface ty v] w fun e w' => e=.returned (.tuple #[])∧St w' (xs ++ [x])∧Fr w w') :
 Calls Tryz.prog 54 #[.iface 121 (.pointer (some ⟨p,0,none⟩)),.iface ty v] w fun e w' => e=.returned (.tuple #[])∧∃ ys,St w' ys∧ys.Perm (x :: xs)∧Hp lt (n + 1) ys∧Fr w w':=by
 have HH:=Zh H
 have HO:=Zh o
 have HP:=Zh hp
 subst hn
 have HU:=Zh (hu.up x)
 obtain ⟨n,hn⟩:∃ n,xs.length=n:=⟨_,rfl⟩
 have hl:(xs ++ [x]).length=n + 1:=by simp [hn]
 rw [hn] at HU ⊢
 have HL:=Zh hl
 clear _hs hu H o hp hn hl
 go_enter Tryz.func54,Tryz.ntmps54
 go_wp2_with fail
 refine HP.out.mono ?_; rintro e w1 ⟨rfl,s1,f1⟩
 have S1:=Zh s1
 have F1:=Zh f1
 clear s1 f1
 go_wp2_with fail
 have hc:=HH.out.len w1 _ S1.out
 have hsm:=HH.out.small w1 _ S1.out
 rw [HL.out] at hc hsm
 refine hc.mono ?_; clear hc; rintro e w2 ⟨rfl,s2,f2⟩
 have S2:=Zh s2
 have F2:=Zh f2
 clear s2 f2
 have hq:((n + 1:Nat):Int)=(n:Int) + 1:=by omega
 rw [hq]
 clear hq
 go_wp2_with fail
 refine (heap_up HH.out HO.out (n + 1) (xs ++ [x]) n w2 S2.out HL.out (by omega) HU.out).mono ?_; rintro e w3 ⟨rfl,ys,s3,p3,h3,f3⟩
 have S3:=Zh s3
 have F3:=Zh f3
 have H3:=Zh h3
 clear s3 f3 h3
 go_wp2_with fail
 go_end0
 exact ⟨rfl,ys,S3.out,p3.trans (List.perm_append_comm (l₁:=xs) (l₂:=[x])),H3.out,HH.out.trans _ _ _ (HH.out.trans _ _ _ F1.out F2.out) F3.out⟩
theorem pop_hp {n:Nat} {xs zs:List α} {b:Bool} (hu:Hp lt (n + 1) xs) (hl:xs.length=n + 1) (hb:b=true→Hp lt n zs)
 (hf:b=false→zs=swp xs 0 n∧∀ k,0 < k→k < n→(k - 1) / 2=0→lt ((swp xs 0 n).getD k default) ((swp xs 0 n).getD 0 default)=false):Hp lt n zs:=by
 cases b with
 | true => exact hb rfl
 | false =>
   obtain ⟨rfl,h⟩:=hf rfl
   exact (hu.dn hl).stop h
theorem pop_perm {n:Nat} {xs zs:List α} (hl:xs.length=n + 1) (hp:zs.Perm (swp xs 0 n)) (hz:zs.getD n default=(swp xs 0 n).getD n default):(xs.getD 0 default :: zs.take n).Perm xs:=by
 have h1:(swp xs 0 n).getD n default=xs.getD 0 default:=by rw [swp_getD _ _ _ _ (by omega) (by omega),if_pos rfl]
 have hzl:zs.length=n + 1:=by rw [hp.length_eq,swp_length,hl]
 have h2:zs=zs.take n ++ [xs.getD 0 default]:=by
  have hg:zs.getD n default=zs[n]'(by omega):=by simp [List.getD_eq_getElem?_getD,List.getElem?_eq_getElem (show n < zs.length by omega)]
  rw [← h1,← hz,hg]
  have:=List.take_append_drop n zs
  rw [List.drop_eq_getElem_cons (by omega),List.drop_eq_nil_of_le (by omega)] at this
  exact this.symm
 have h3:(xs.getD 0 default :: zs.take n).Perm zs:=by
  conv => rhs; rw [h2]
  exact (List.perm_append_comm (l₁:=zs.take n) (l₂:=[xs.getD 0 default])).symm
 exact (h3.trans hp).trans (swp_perm xs 0 n (by omega) (by omega))
theorem heap_pop (H:Heaped α 55 172 175 (.pointer (some ⟨p,0,none⟩)) lt St Fr) (o:Ord lt) (n:Nat) (xs:List α) (V:α→Value) (w:World) (hs:St w xs) (hn:xs.length=n + 1) (hu:Hp lt (n + 1) xs)
 (hp:∀ w ys,St w ys→ys.length=n + 1→Calls Tryz.prog 173 #[.pointer (some ⟨p,0,none⟩)] w fun e w' => e=.returned (V (ys.getD n default))∧St w' (ys.take n)∧Fr w w') :
 Calls Tryz.prog 56 #[.iface 121 (.pointer (some ⟨p,0,none⟩))] w fun e w' => e=.returned (V (xs.getD 0 default))∧∃ ys,St w' ys∧(xs.getD 0 default :: ys).Perm xs∧Hp lt n ys∧Fr w w':=by
 have HH:=Zh H
 have HO:=Zh o
 have HP:=Zh hp
 have HL:=Zh hn
 have HU:=Zh hu
 have HS:=Zh hs
 clear hs hu H o hp hn
 go_enter Tryz.func56,Tryz.ntmps56
 go_wp2_with fail
 have hc:=HH.out.len w _ HS.out
 have hsm:=HH.out.small w _ HS.out
 rw [HL.out] at hc hsm
 refine hc.mono ?_; clear hc; rintro e w1 ⟨rfl,s1,f1⟩
 have S1:=Zh s1
 have F1:=Zh f1
 clear s1 f1
 have hq:((n + 1:Nat):Int)=(n:Int) + 1:=by omega
 rw [hq]
 clear hq
 go_wp2_with fail
 refine (HH.out.swap w1 xs 0 n S1.out (by rw [HL.out]; omega) (by rw [HL.out]; omega)).mono ?_; rintro e w2 ⟨rfl,s2,f2⟩
 have S2:=Zh s2
 have F2:=Zh f2
 clear s2 f2
 go_wp2_with fail
 refine (heap_down HH.out HO.out n (n + 1) (swp xs 0 n) 0 w2 S2.out (by rw [swp_length,HL.out]) (by omega) (by omega) (HU.out.dn HL.out).ex).mono ?_; rintro e w3 ⟨b,zs,rfl,s3,p3,k3,⟨h3,h3'⟩,f3⟩
 have S3:=Zh s3
 have F3:=Zh f3
 have P3:=Zh (pop_perm HL.out p3 (k3 n (Nat.le_refl _)))
 have Z3:=Zh (show zs.length=n + 1 by rw [p3.length_eq,swp_length,HL.out])
 have X3:=Zh (show zs.getD n default=xs.getD 0 default by rw [k3 n (Nat.le_refl _),swp_getD _ _ _ _ (by rw [HL.out]; omega) (by rw [HL.out]; omega),if_pos rfl])
 have H3:=Zh (pop_hp HU.out HL.out h3 h3')
 clear s3 f3 h3 h3' p3 k3
 go_wp2_with fail
 refine (HP.out w3 zs S3.out Z3.out).mono ?_; rintro e w4 ⟨rfl,s4,f4⟩
 rw [X3.out]
 have S4:=Zh s4
 have F4:=Zh f4
 clear s4 f4
 go_wp2_with fail
 go_ret
 exact ⟨rfl,zs.take n,S4.out,P3.out,H3.out.take,HH.out.trans _ _ _ (HH.out.trans _ _ _ (HH.out.trans _ _ _ F1.out F2.out) F3.out) F4.out⟩
end
end Go.Proofs.YtmjnmpifibemjaaGreatDoor
namespace Go.Proofs.YtmjnmpifibemjaaGreatDoor
open Go.RowKit HeapPlain
def lessF (g:Nat):Value:=.func (.func 52) #[] #[.pointer (some ⟨g,0,none⟩)]
def ints (xs:List Nat):List Value:=xs.map fun (x:Nat) => Value.int .i64 x
theorem less_clo (A:Option Addr) (n c:Nat) (L:List Att) (w:World) (g:Nat) (hg:w.cell? ⟨g,0,none⟩=some (.slice A n c)) (h:Atts w A L) (hn:L.length=n) (i j:Nat) (hi:i < n) (hj:j < n) :
 Calls Tryz.prog 52 #[.int .i64 i,.int .i64 j,.pointer (some ⟨g,0,none⟩)] w fun e w' => e=.returned (.bool (ahd L i j))∧Upd [] w w':=by
 have HA:=Zh h
 have HN:=Zh hn
 have HI:=Zh hi
 have HJ:=Zh hj
 clear h hn hi hj
 go_enter Tryz.func52,Tryz.ntmps52
 go_wp2_with fail
 refine (ahead_at A n c L _ HA.out HN.out i j HI.out HJ.out).mono ?_; rintro e w1 ⟨rfl,u1⟩
 have U1:=Zh u1
 clear u1
 go_wp2_with fail
 go_ret
 exact ⟨rfl,U1.out⟩
theorem pile_less (p g:Nat) (a:Nat) (c n nn cc:Nat) (A:Option Addr) (L:List Att) (w:World) (i j x y:Nat) (hi:(i:Int) < n) (hj:(j:Int) < n) (h:Blk w p 125 #[.slice (some ⟨a,0,none⟩) n c,lessF g]) (hx:w.cell? ⟨a,i,none⟩=some (.int .i64 x)) (hy:w.cell? ⟨a,j,none⟩=some (.int .i64 y))
 (hg:w.cell? ⟨g,0,none⟩=some (.slice A nn cc)) (hgl:g < w.heap.size) (hal:a < w.heap.size) (hA:Atts w A L) (hn:L.length=nn) (hxn:x < nn) (hyn:y < nn) :
 Calls Tryz.prog 172 #[.pointer (some ⟨p,0,none⟩),.int .i64 i,.int .i64 j] w fun e w' => e=.returned (.bool (ahd L x y))∧Upd [] w w':=by
 have f0:w.cell? ⟨p,0,none⟩=some (.slice (some ⟨a,0,none⟩) n c):=by rw [h.cell]; rfl
 have f1:w.cell? ⟨p,1,none⟩=some (.func (.func 52) #[] #[.pointer (some ⟨g,0,none⟩)]):=by rw [h.cell]; rfl
 have HW:=Zh (show ∀ W,Upd [] w W→W.cell? ⟨g,0,none⟩=some (.slice A nn cc)∧Atts W A L from fun W hu => ⟨(upd_cell hu (p:=⟨g,0,none⟩) hgl).trans hg,hA.upd hu⟩)
 have HN:=Zh hn
 have HX:=Zh hxn
 have HY:=Zh hyn
 have V0:=Zh ((Upd.refl [] w).drew)
 have KP:=Zh (show ∀ W,Upd [] w W→W.cell? ⟨p,0,none⟩=some (.slice (some ⟨a,0,none⟩) n c)∧W.cell? ⟨p,1,none⟩=some (.func (.func 52) #[] #[.pointer (some ⟨g,0,none⟩)])∧W.cell? ⟨a,i,none⟩=some (.int .i64 x)∧W.cell? ⟨a,j,none⟩=some (.int .i64 y) from fun W hu =>
  ⟨(upd_cell hu (p:=⟨p,0,none⟩) h.lt).trans f0,(upd_cell hu (p:=⟨p,1,none⟩) h.lt).trans f1,(upd_cell hu (p:=⟨a,i,none⟩) hal).trans hx,(upd_cell hu (p:=⟨a,j,none⟩) hal).trans hy⟩)
 have hi0:(0:Int)≤i:=by omega
 have hj0:(0:Int)≤j:=by omega
 clear h hA hn hg hxn hyn hgl hal
 go_enter Tryz.func172,Tryz.ntmps172
 go_wp2_with fail
 go_region_held3 (fun W => W.cell? ⟨p,0,none⟩=some (.slice (some ⟨a,0,none⟩) n c)∧W.cell? ⟨p,1,none⟩=some (.func (.func 52) #[] #[.pointer (some ⟨g,0,none⟩)])∧W.cell? ⟨a,i,none⟩=some (.int .i64 x)∧W.cell? ⟨a,j,none⟩=some (.int .i64 y)) (first | exact KP.out _ (V0.out.trans u1) | go_keep) (first | (go_at_call 52; refine (less_clo A nn cc L _ g (HW.out _ V0.out).1 (HW.out _ V0.out).2 HN.out x y HX.out HY.out).mono ?_; rintro e w1 ⟨rfl,u1⟩))
 go_wp2_with fail
 go_ret
 exact ⟨rfl,V0.out.trans u1⟩
theorem pile_swap (p g:Nat) (a:Nat) (c n:Nat) (w:World) (i j:Nat) (x y:Int) (hi:(i:Int) < n) (hj:(j:Int) < n) (hap:a≠p) (h:Blk w p 125 #[.slice (some ⟨a,0,none⟩) n c,lessF g]) (hx:w.cell? ⟨a,i,none⟩=some (.int .i64 x)) (hy:w.cell? ⟨a,j,none⟩=some (.int .i64 y)) (hfi:w.frozen? ⟨a,i,none⟩=false) (hfj:w.frozen? ⟨a,j,none⟩=false) :
 Calls Tryz.prog 175 #[.pointer (some ⟨p,0,none⟩),.int .i64 i,.int .i64 j] w fun e w' => e=.returned (.tuple #[])∧∃ W,w'=W.drew∧W=(w.setCell ⟨a,i,none⟩ (.int .i64 y)).setCell ⟨a,j,none⟩ (.int .i64 x):=by
 have f1:w.cell? ⟨p,0,none⟩=some (.slice (some ⟨a,0,none⟩) n c):=by rw [h.cell]; rfl
 clear h
 have hy2:(w.setCell ⟨a,i,none⟩ (.int .i64 y)).cell? ⟨a,j,none⟩=some (.int .i64 y):=by
  by_cases e:i=j
  ·subst e; exact World.cell?_setCell_same' _ _ _ (by rw [hx]; rfl)
  ·exact (World.cell?_setCell_other _ _ _ _ (by simp)).trans hy
 go_enter Tryz.func175,Tryz.ntmps175
 go_wp2_with fail
 go_region
 all_goals go_wp2_with fail
 all_goals (go_end0; exact ⟨rfl,_,rfl,rfl⟩)
end Go.Proofs.YtmjnmpifibemjaaGreatDoor
namespace Go.Proofs.YtmjnmpifibemjaaGreatDoor
open Go.RowKit HeapPlain
structure PileV (w0:World) (p g:Nat) (A:Option Addr) (n c:Nat) (L:List Att) (v:Value) (w:World) (xs:List Nat):Prop where
 pb:Blk w p 125 #[v,lessF g]
 own:w.ownsRow w0.heap.size 3 1 v xs.length (ints xs)
 gb:Blk w g 84 #[.slice A n c]
 bel:Below w0.heap.size w0 w
 pn:w0.heap.size≤p
 gn:w0.heap.size≤g
 small:xs.length≤1000
 all:∀ x ∈ xs,x < L.length
 atts:Atts w0 A L
 len:L.length=n
 base:w0.heap.size≤w.heap.size
section
variable {w0 w w':World} {p g:Nat} {A:Option Addr} {n c:Nat} {L:List Att} {v:Value} {xs:List Nat}
theorem ints_get (xs:List Nat) (j:Nat) (h:j < xs.length):(ints xs)[j]?=some (.int .i64 (xs.getD j default:Nat)):=by
 simp [ints,List.getElem?_eq_getElem h]
theorem ints_set (xs:List Nat) (j x:Nat):(ints xs).set j (.int .i64 (x:Nat))=ints (xs.set j x):=by
 simp [ints,List.map_set]
theorem PileV.upd (h:PileV w0 p g A n c L v w xs) {S:List Nat} (hu:Upd S w w') (hS:∀ x ∈ S,w0.heap.size≤x∧x≠p∧x≠g∧v.ownBlock≠some x):PileV w0 p g A n c L v w' xs :=
 { pb:=h.pb.upd hu fun hm => (hS _ hm).2.1 rfl
   own:=own_upd h.own hu fun b hb hm => (hS _ hm).2.2.2 hb
   gb:=h.gb.upd hu fun hm => (hS _ hm).2.2.1 rfl
   bel:=h.bel.trans (hu.below h.base (fun x hx => (hS x hx).1))
   pn:=h.pn,gn:=h.gn,small:=h.small,all:=h.all,atts:=h.atts,len:=h.len
   base:=Nat.le_trans h.base hu.size }
theorem PileV.upd0 (h:PileV w0 p g A n c L v w xs) (hu:Upd [] w w'):PileV w0 p g A n c L v w' xs:=h.upd hu (by simp)
theorem PileV.at_w (h:PileV w0 p g A n c L v w xs):Atts w A L:=by
 intro k x hk
 obtain ⟨ad,e,c1,c2,c3,c4,c5,c6,hl⟩:=h.atts k x hk
 exact ⟨ad,e,(h.bel.cell hl).trans c1,(h.bel.cell (p:=⟨_,_,none⟩) hl).trans c2,(h.bel.cell (p:=⟨_,_,none⟩) hl).trans c3,(h.bel.cell (p:=⟨_,_,none⟩) hl).trans c4,
  (h.bel.cell (p:=⟨_,_,none⟩) hl).trans c5,(h.bel.cell (p:=⟨_,_,none⟩) hl).trans c6,Nat.lt_of_lt_of_le hl h.base⟩
theorem PileV.pg (h:PileV w0 p g A n c L v w xs):p≠g:=h.pb.ne_ h.gb (by decide)
theorem PileV.own_p (h:PileV w0 p g A n c L v w xs):v.ownBlock≠some p:=own_type h.own h.pb (by decide)
theorem PileV.own_g (h:PileV w0 p g A n c L v w xs):v.ownBlock≠some g:=own_type h.own h.gb (by decide)
theorem PileV.len_ok (h:PileV w0 p g A n c L v w xs):Calls Tryz.prog 55 #[.pointer (some ⟨p,0,none⟩)] w fun e w' => e=.returned (.int .i64 xs.length)∧PileV w0 p g A n c L v w' xs∧Upd [] w w':=by
 have hv:∃ a c',v=.slice a xs.length c':=by
  rcases h.own.2 with ⟨h2,h3⟩ | ⟨g',cap',cur,h1,_⟩
  ·exact ⟨none,0,by rw [h2,h3]⟩
  ·exact ⟨_,_,h1⟩
 have H:=Zh h
 obtain ⟨a,c',rfl⟩:=hv
 have f0:w.cell? ⟨p,0,none⟩=some (.slice a xs.length c'):=by rw [h.pb.cell]; rfl
 clear h
 obtain ⟨m,hm⟩:∃ m,m=xs.length:=⟨_,rfl⟩
 rw [← hm] at f0 ⊢
 have HM:=Zh hm
 clear hm
 go_enter Tryz.func55,Tryz.ntmps55
 go_wp2_with fail
 go_ret
 refine ⟨rfl,?_,.refl _ _⟩
 rw [HM.out]
 exact H.out
theorem PileV.less_ok (h:PileV w0 p g A n c L v w xs) (i j:Nat) (hi:i < xs.length) (hj:j < xs.length) :
 Calls Tryz.prog 172 #[.pointer (some ⟨p,0,none⟩),.int .i64 i,.int .i64 j] w fun e w' => e=.returned (.bool (ahd L (xs.getD i default) (xs.getD j default)))∧PileV w0 p g A n c L v w' xs∧Upd [] w w':=by
 obtain ⟨a,cap,cur,rfl,ha,hb,_⟩:=own_form h.own (by omega)
 have hx:xs.getD i default ∈ xs:=by simp [List.getElem?_eq_getElem hi]
 have hy:xs.getD j default ∈ xs:=by simp [List.getElem?_eq_getElem hj]
 refine (pile_less p g a cap xs.length n c A L w i j (xs.getD i default) (xs.getD j default) (by omega) (by omega) h.pb (own_cell h.own i _ (ints_get xs i hi)) (own_cell h.own j _ (ints_get xs j hj))
  (by rw [h.gb.cell]; rfl) h.gb.lt hb.lt h.at_w h.len (h.len ▸ h.all _ hx) (h.len ▸ h.all _ hy)).mono ?_
 rintro e w1 ⟨rfl,u1⟩
 exact ⟨rfl,h.upd0 u1,u1⟩
theorem PileV.swap_ok (h:PileV w0 p g A n c L v w xs) (i j:Nat) (hi:i < xs.length) (hj:j < xs.length) :
 Calls Tryz.prog 175 #[.pointer (some ⟨p,0,none⟩),.int .i64 i,.int .i64 j] w fun e w' => e=.returned (.tuple #[])∧PileV w0 p g A n c L v w' (swp xs i j)∧Upd v.ownBlock.toList w w':=by
 have hp:=h.own_p
 have hg:=h.own_g
 obtain ⟨a,cap,cur,rfl,ha,hb,_⟩:=own_form h.own (by omega)
 have hap:a≠p:=fun e => hp (by rw [e]; rfl)
 have hag:a≠g:=fun e => hg (by rw [e]; rfl)
 refine (pile_swap p g a cap xs.length w i j (xs.getD i default) (xs.getD j default) (by omega) (by omega) hap h.pb (own_cell h.own i _ (ints_get xs i hi)) (own_cell h.own j _ (ints_get xs j hj)) (own_frozen h.own _) (own_frozen h.own _)).mono ?_
 rintro e w1 ⟨rfl,W,rfl,rfl⟩
 have u:Upd [a] w ((w.setCell ⟨a,i,none⟩ (.int .i64 (xs.getD j default:Nat))).setCell ⟨a,j,none⟩ (.int .i64 (xs.getD i default:Nat))).drew:=(((Upd.refl _ w).setCell (.inl (by simp)) _).setCell (.inl (by simp)) _).drew
 refine ⟨rfl,?_,by simpa [Value.ownBlock] using u⟩
 have o:=own_set (own_set h.own i (.int .i64 (xs.getD j default:Nat))) j (.int .i64 (xs.getD i default:Nat))
 rw [ints_set,ints_set] at o
 exact { pb:=h.pb.upd u (by simp; exact fun e => hap e.symm)
         own:=by rw [swp_length]; exact o
         gb:=h.gb.upd u (by simp; exact fun e => hag e.symm)
         bel:=h.bel.trans (u.below h.base (by simpa using ha))
         pn:=h.pn,gn:=h.gn,small:=by rw [swp_length]; exact h.small
         all:=fun x hx => h.all x ((swp_perm xs i j hi hj).mem_iff.1 hx)
         atts:=h.atts,len:=h.len,base:=Nat.le_trans h.base u.size }
end
end Go.Proofs.YtmjnmpifibemjaaGreatDoor
namespace Go.Proofs.YtmjnmpifibemjaaGreatDoor
open Go.RowKit HeapPlain
theorem int_info:(Tryz.prog.info? 3).map (fun i => (i.zero,i.size,i.bytes))=some (some (.int .i64 0),1,8):=by kernel_rfl
theorem push_walk (p:Nat) (v:Value) (c n:Nat) (A:Option Addr) (f:Value) (x:Int) (vs:List Value) (B:Nat) (w:World) (hB:B≤w.heap.size) (h:Blk w p 125 #[v,f]) (ho:w.ownsRow B 3 1 v n vs) (hn:n≤1000) :
 Calls Tryz.prog 174 #[.pointer (some ⟨p,0,none⟩),.iface 3 (.int .i64 x)] w fun e w' => e=.returned (.tuple #[])∧∃ g cap,Blk w' p 125 #[.slice (some ⟨g,0,none⟩) (n + 1) cap,f]∧w'.ownsRow B 3 1 (.slice (some ⟨g,0,none⟩) (n + 1) cap) (n + 1) (vs ++ [.int .i64 x])∧Upd (p :: v.ownBlock.toList) w w':=by
 have f0:w.cell? ⟨p,0,none⟩=some v:=by rw [h.cell]; rfl
 have f1:w.frozen? ⟨p,0,none⟩=false:=h.frozen _
 have hl:p < w.heap.size:=h.lt
 obtain ⟨i0,hi0,hz0,hz1,hz2⟩:=info_parts int_info
 have HB:=Zh h
 have HO:=Zh (own_upd0 ho ((Upd.refl [] w).alloc (.cells #[.int .i64 x] 3)))
 have HT:=Zh (own_type ho h (by decide))
 have hp:p≤w.heap.size:=by omega
 have hp1:p≤w.heap.size + 1:=by omega
 have ta:∀ w,(Instr.typeAssert (.iface 3 (.int .i64 x)) 20 3 true).run Tryz.prog w=.ok (.tuple #[.int .i64 x,.bool true]) w:=fun _ => by kernel_rfl
 clear h ho
 go_enter Tryz.func174,Tryz.ntmps174
 go_wp2_with (first
  | (at_builtin; refine wpList_append_lies _ rfl (.tmp 16) (.tmp 18) _ rfl B 3 i0 _ 1 8 Tryz.underlying22 hi0 hz0 hz1 hz2 rfl (by omega) v n vs rfl HO.out ⟨w.heap.size,0,none⟩ 1 1 [.int .i64 x] rfl (by simp) (news_of_blk (Blk.new w 3 #[.int .i64 x])) (by intro u hu; simp at hu; subst hu; rfl) (by omega) (by simp only [maxLen]; omega) (by omega) (by simp; omega) (w.heap.size + 1) (by simp) ?_
     intro g cap w1 hown1 hg1 hat1 hlt1
     have b1:=Zh ((HB.out.alloc (.cells #[.int .i64 x] 3)).grown hg1 (fun e => HT.out e.symm))
     have u1:=Zh (((Upd.refl (p :: v.ownBlock.toList) w).alloc (.cells #[.int .i64 x] 3)).grown hg1 (fun k hk => .inl (by rw [hk]; simp)))
     have f2:w1.frozen? ⟨p,0,none⟩=false:=b1.out.frozen _
     have f3:w1.cell? ⟨p,0,none⟩=some v:=b1.out.cell _
     have f4:g≠p:=by
      intro e
      rcases hat1 with h | h
      ·exact HT.out (e ▸ h)
      ·omega
     have O1:=Zh hown1
     clear hown1 hg1 hat1))
 go_end0
 exact ⟨rfl,g,cap,b1.out.set_eq rfl,own_upd O1.out ((Upd.refl [p] w1).setCell (.inl (by simp)) _) (by intro b hb; simp only [Value.ownBlock,Option.some.injEq] at hb; subst hb; simpa using f4),u1.out.setCell (.inl (by simp)) _⟩
theorem pop_walk (p a c n:Nat) (f:Value) (x:Int) (w:World) (h:Blk w p 125 #[.slice (some ⟨a,0,none⟩) (n + 1) c,f]) (hc:w.cell? ⟨a,n,none⟩=some (.int .i64 x)) (hn:n≤1000) (hcap:n + 1≤c) (hcm:c≤maxLen) :
 Calls Tryz.prog 173 #[.pointer (some ⟨p,0,none⟩)] w fun e w' => e=.returned (.iface 3 (.int .i64 x))∧Blk w' p 125 #[.slice (some ⟨a,0,none⟩) n c,f]∧Upd [p] w w':=by
 have f0:w.cell? ⟨p,0,none⟩=some (.slice (some ⟨a,0,none⟩) (n + 1) c):=by rw [h.cell]; rfl
 have f1:w.frozen? ⟨p,0,none⟩=false:=h.frozen _
 have hl:p < w.heap.size:=h.lt
 unfold maxLen at hcm
 have HB:=Zh h
 have hx:(n:Int)≤c:=by omega
 clear h
 go_enter Tryz.func173,Tryz.ntmps173
 go_wp2_with fail
 go_ret
 exact ⟨rfl,HB.out.set_eq rfl,(Upd.refl _ w).setCell (.inl (by simp)) _⟩
section
variable {w0 w w':World} {p g:Nat} {A:Option Addr} {n c:Nat} {L:List Att} {v:Value} {xs:List Nat}
theorem ints_snoc (xs:List Nat) (x:Nat):ints (xs ++ [x])=ints xs ++ [.int .i64 x]:=by simp [ints]
theorem ints_take (xs:List Nat) (k:Nat):ints (xs.take k)=(ints xs).take k:=by simp [ints]
theorem PileV.push_ok (h:PileV w0 p g A n c L v w xs) (x:Nat) (hx:x < L.length) (hs:xs.length < 1000) :
 Calls Tryz.prog 174 #[.pointer (some ⟨p,0,none⟩),.iface 3 (.int .i64 x)] w fun e w' => e=.returned (.tuple #[])∧∃ v',PileV w0 p g A n c L v' w' (xs ++ [x]):=by
 refine (push_walk p v c xs.length A (lessF g) x (ints xs) w0.heap.size w h.base h.pb h.own (by omega)).mono ?_
 rintro e w1 ⟨rfl,a,cap,b1,o1,u1⟩
 refine ⟨rfl,.slice (some ⟨a,0,none⟩) (xs.length + 1) cap,?_⟩
 rw [← ints_snoc] at o1
 have hl:(xs ++ [x]).length=xs.length + 1:=by simp
 exact { pb:=b1
         own:=by rw [hl]; exact o1
         gb:=h.gb.upd u1 (by
          simp only [List.mem_cons,Option.mem_toList]
          rintro (e | e)
          ·exact h.pg e.symm
          ·exact h.own_g e)
         bel:=h.bel.trans (u1.below h.base (by
          simp only [List.mem_cons,Option.mem_toList]
          rintro b (rfl | e)
          ·exact h.pn
          ·exact (own_lt h.own e).1))
         pn:=h.pn,gn:=h.gn,small:=by omega
         all:=by
          intro y hy
          rcases List.mem_append.1 hy with hy | hy
          ·exact h.all y hy
          ·simp only [List.mem_singleton] at hy; subst hy; exact hx
         atts:=h.atts,len:=h.len,base:=Nat.le_trans h.base u1.size }
theorem PileV.pop_ok (h:PileV w0 p g A n c L v w xs) (m:Nat) (hm:xs.length=m + 1) :
 Calls Tryz.prog 173 #[.pointer (some ⟨p,0,none⟩)] w fun e w' => e=.returned (.iface 3 (.int .i64 (xs.getD m default:Nat)))∧∃ v',v'.ownBlock=v.ownBlock∧PileV w0 p g A n c L v' w' (xs.take m)∧Upd [p] w w':=by
 have hp:=h.own_p
 obtain ⟨a,cap,cur,rfl,ha,hb,hc1,hc2,_⟩:=own_form h.own (by omega)
 have ho:=h.own
 have hpb:=h.pb
 have hsm:=h.small
 rw [hm] at ho hpb hc1 hsm
 refine (pop_walk p a cap m (lessF g) (xs.getD m default:Nat) w hpb (own_cell ho m _ (ints_get xs m (by omega))) (by omega) hc1 hc2).mono ?_
 rintro e w1 ⟨rfl,b1,u1⟩
 refine ⟨rfl,.slice (some ⟨a,0,none⟩) m cap,rfl,?_,u1⟩
 have o1:=own_take ho m (by omega)
 rw [Nat.mul_one,← ints_take] at o1
 have hl:(xs.take m).length=m:=by rw [List.length_take]; omega
 exact { pb:=b1
         own:=by
          rw [hl]
          exact own_upd o1 u1 fun b hb hm => hp (by simp only [List.mem_singleton] at hm; subst hm; exact hb)
         gb:=h.gb.upd u1 (by simp; exact fun e => h.pg e.symm)
         bel:=h.bel.trans (u1.below h.base (by simpa using h.pn))
         pn:=h.pn,gn:=h.gn,small:=by rw [hl]; have:=h.small; omega
         all:=fun y hy => h.all y (List.mem_of_mem_take hy)
         atts:=h.atts,len:=h.len,base:=Nat.le_trans h.base u1.size }
end
end Go.Proofs.YtmjnmpifibemjaaGreatDoor
namespace Go.Proofs.YtmjnmpifibemjaaGreatDoor
section
variable {α:Type}
structure Tot (lt:α→α→Bool):Prop where
 irr:∀ a,lt a a=false
 trans:∀ a b c,lt a b=true→lt b c=true→lt a c=true
 tri:∀ a b,a≠b→lt a b=true∨lt b a=true
variable {lt:α→α→Bool}
theorem Tot.asym (T:Tot lt) (a b:α) (h:lt a b=true):lt b a=false:=by
 cases hb:lt b a with
 | false => rfl
 | true => have:=T.trans a b a h hb; rw [T.irr] at this; cases this
theorem Tot.ord (T:Tot lt):HeapPlain.Ord lt where
 asym:=T.asym
 tran:=by
  intro a b c h1 h2
  cases h:lt c a with
  | false => rfl
  | true =>
    exfalso
    by_cases e:a=b
    ·subst e; rw [h] at h2; cases h2
    ·rcases T.tri a b e with h3 | h3
     ·have:=T.trans c a b h h3; rw [h2] at this; cases this
     ·rw [h1] at h3; cases h3
def insO (lt:α→α→Bool) (l:List α) (x:α):List α:=l.takeWhile (fun y => lt y x) ++ x :: l.dropWhile (fun y => lt y x)
theorem insO_perm (l:List α) (x:α):(insO lt l x).Perm (x :: l):=by
 unfold insO
 have:=List.takeWhile_append_dropWhile (p:=fun y => lt y x) (l:=l)
 conv => rhs; rw [← this]
 exact List.perm_middle
theorem takeWhile_all (p:α→Bool):∀ (l:List α) (a:α),a ∈ l.takeWhile p→p a=true
 | [],a,h => by simp at h
 | b :: l,a,h => by
   rw [List.takeWhile_cons] at h
   split at h
   ·rcases List.mem_cons.1 h with rfl | h
    ·assumption
    ·exact takeWhile_all p l a h
   ·simp at h
theorem dropWhile_head (p:α→Bool):∀ (l:List α) (b:α) (r:List α),l.dropWhile p=b :: r→p b=false
 | [],_,_,h => by simp at h
 | a :: l,b,r,h => by
   rw [List.dropWhile_cons] at h
   split at h
   ·exact dropWhile_head p l b r h
   ·rename_i hp
    injection h with h1 h2
    subst h1
    simpa using hp
theorem insO_pairwise (T:Tot lt) {l:List α} {x:α} (h:l.Pairwise (fun a b => lt a b=true)) (hx:x ∉ l):(insO lt l x).Pairwise (fun a b => lt a b=true):=by
 unfold insO
 have hs:l.takeWhile (fun y => lt y x) ++ l.dropWhile (fun y => lt y x)=l:=List.takeWhile_append_dropWhile
 rw [← hs,List.pairwise_append] at h
 obtain ⟨h1,h2,h3⟩:=h
 have hd:∀ b ∈ l.dropWhile (fun y => lt y x),lt x b=true:=by
  intro b hb
  cases hdw:l.dropWhile (fun y => lt y x) with
  | nil => rw [hdw] at hb; simp at hb
  | cons c r =>
    have hc:lt c x=false:=dropWhile_head (fun y => lt y x) l c r hdw
    have hxc:lt x c=true:=by
     rcases T.tri x c (fun e => hx (by rw [← hs,hdw,e]; simp)) with h | h
     ·exact h
     ·rw [hc] at h; cases h
    rw [hdw] at hb h2
    rcases List.mem_cons.1 hb with rfl | hb
    ·exact hxc
    ·exact T.trans _ _ _ hxc ((List.pairwise_cons.1 h2).1 b hb)
 rw [List.pairwise_append]
 refine ⟨h1,List.pairwise_cons.2 ⟨hd,h2⟩,fun a ha b hb => ?_⟩
 have hax:=takeWhile_all _ _ _ ha
 rcases List.mem_cons.1 hb with rfl | hb
 ·exact hax
 ·exact h3 a ha b hb
theorem take_while (p:α→Bool):∀ (l:List α) (k:Nat),k≤l.length→(∀ j (hj:j < l.length),j < k→p l[j]=true)→(l.length=k∨∃ h:k < l.length,p l[k]=false)→l.takeWhile p=l.take k∧l.dropWhile p=l.drop k
 | [],k,_,_,_ => by simp
 | a :: l,0,_,_,h => by
   rcases h with h | ⟨_,h⟩
   ·simp at h
   ·have h':p a=false:=h
    simp [h']
 | a :: l,k + 1,hk,ha,h => by
   have h0:p a=true:=ha 0 (by simp) (by omega)
   have:=take_while p l k (by simpa using hk) (fun j hj hjk => ha (j + 1) (by simpa using hj) (by omega)) (by
    rcases h with h | ⟨h1,h⟩
    ·left; simpa using h
    ·exact .inr ⟨by simpa using h1,h⟩)
   simp [h0,this]
theorem insO_at [Inhabited α] (l:List α) (x:α) (k:Nat) (hk:k≤l.length) (ha:∀ j,j < k→lt (l.getD j default) x=true) (hb:l.length=k∨lt (l.getD k default) x=false):insO lt l x=l.take k ++ x :: l.drop k:=by
 have:=take_while (fun y => lt y x) l k hk (fun j hj hjk => by have:=ha j hjk; rwa [List.getD_eq_getElem?_getD,List.getElem?_eq_getElem hj] at this) (by
  rcases hb with h | h
  ·exact .inl h
  ·rcases Nat.lt_or_ge k l.length with h1 | h1
   ·exact .inr ⟨h1,by rwa [List.getD_eq_getElem?_getD,List.getElem?_eq_getElem h1] at h⟩
   ·exact .inl (by omega))
 rw [insO,this.1,this.2]
def srt (lt:α→α→Bool) (l:List α):List α:=l.foldl (insO lt) []
theorem srt_snoc (l:List α) (x:α):srt lt (l ++ [x])=insO lt (srt lt l) x:=by simp [srt]
theorem srt_perm (l:List α):(srt lt l).Perm l:=by
 suffices ∀ (l acc:List α),(l.foldl (insO lt) acc).Perm (acc ++ l) by simpa [srt] using this l []
 intro l
 induction l with
 | nil => simp
 | cons x l ih =>
   intro acc
   rw [List.foldl_cons]
   refine (ih _).trans ?_
   refine (List.Perm.append_right l (insO_perm acc x)).trans ?_
   exact List.perm_middle.symm
theorem srt_pairwise (T:Tot lt) (l:List α) (hn:l.Nodup):(srt lt l).Pairwise (fun a b => lt a b=true):=by
 suffices ∀ (l acc:List α),(acc ++ l).Nodup→acc.Pairwise (fun a b => lt a b=true)→(l.foldl (insO lt) acc).Pairwise (fun a b => lt a b=true) from this l [] (by simpa using hn) .nil
 intro l
 induction l with
 | nil => intro acc _ h; simpa using h
 | cons x l ih =>
   intro acc hn h
   rw [List.foldl_cons]
   have hp:(insO lt acc x ++ l).Perm (acc ++ x :: l):=(List.Perm.append_right l (insO_perm acc x)).trans List.perm_middle.symm
   refine ih _ (hp.nodup_iff.2 hn) (insO_pairwise T h ?_)
   intro hx
   rw [List.nodup_append] at hn
   exact hn.2.2 x hx x (by simp) rfl
theorem sorted_uniq (T:Tot lt) {a b:List α} (hp:a.Perm b) (ha:a.Pairwise (fun a b => lt a b=true)) (hb:b.Pairwise (fun a b => lt a b=true)):a=b :=
 List.Perm.eq_of_pairwise (fun x y _ _ h1 h2 => by have:=T.asym x y h1; rw [h2] at this; cases this) ha hb hp
theorem sorted_nodup (T:Tot lt) {a:List α} (ha:a.Pairwise (fun a b => lt a b=true)):a.Nodup :=
 ha.imp fun h e => by subst e; rw [T.irr] at h; cases h
theorem srt_eq (T:Tot lt) {os l:List α} (hp:os.Perm l) (ho:os.Pairwise (fun a b => lt a b=true)):os=srt lt l :=
 sorted_uniq T (hp.trans (srt_perm l).symm) ho (srt_pairwise T l (hp.nodup_iff.1 (sorted_nodup T ho)))
theorem sort_step (T:Tot lt) {os ys zs R:List α} {y:α} (hp:(os ++ ys).Perm R) (hn:R.Nodup) (hy:(y :: zs).Perm ys) (hle:∀ x ∈ ys,lt x y=false) (ho:os.Pairwise (fun a b => lt a b=true)) (hA:∀ a ∈ os,∀ b ∈ ys,lt a b=true) :
 ((os ++ [y]) ++ zs).Perm R∧(os ++ [y]).Pairwise (fun a b => lt a b=true)∧∀ a ∈ os ++ [y],∀ b ∈ zs,lt a b=true:=by
 have hyy:y ∈ ys:=hy.mem_iff.1 (by simp)
 have hzy:∀ b ∈ zs,b ∈ ys:=fun b hb => hy.mem_iff.1 (List.mem_cons_of_mem _ hb)
 have hnd:(y :: zs).Nodup:=hy.nodup_iff.2 ((List.nodup_append.1 (hp.nodup_iff.2 hn)).2.1)
 refine ⟨?_,?_,?_⟩
 ·rw [List.append_assoc]
  exact (List.Perm.append_left os hy).trans hp
 ·rw [List.pairwise_append]
  refine ⟨ho,by simp,fun a ha b hb => ?_⟩
  simp only [List.mem_singleton] at hb
  subst hb
  exact hA a ha b hyy
 ·intro a ha b hb
  rcases List.mem_append.1 ha with ha | ha
  ·exact hA a ha b (hzy b hb)
  ·simp only [List.mem_singleton] at ha
   subst ha
   have hne:a≠b:=fun e => (List.nodup_cons.1 hnd).1 (e ▸ hb)
   rcases T.tri a b hne with h | h
   ·exact h
   ·rw [hle b (hzy b hb)] at h; cases h
end
end Go.Proofs.YtmjnmpifibemjaaGreatDoor
namespace Go.Proofs.YtmjnmpifibemjaaGreatDoor
open Go.RowKit HeapPlain
theorem orL_cmp (a b:Int) (l:List Int):orL (cmpI a b :: l) < 0↔a < b∨a=b∧orL l < 0:=by
 show (if cmpI a b=0 then orL l else cmpI a b) < 0↔_
 unfold cmpI
 by_cases h:a < b
 ·simp [h]
 ·by_cases h2:b < a
  ·simp [h,h2]; omega
  ·simp [h,h2]; omega
theorem ahd_iff (L:List Att) (i j:Nat):ahd L i j=true↔(L.getD i default).st < (L.getD j default).st∨(L.getD i default).st=(L.getD j default).st∧(rk (L.getD i default).wr < rk (L.getD j default).wr∨rk (L.getD i default).wr=rk (L.getD j default).wr ∧
 ((L.getD i default).en < (L.getD j default).en∨(L.getD i default).en=(L.getD j default).en∧i < j)):=by
 unfold ahd
 simp only [decide_eq_true_eq,orL_cmp]
 simp only [orL]
 omega
theorem ahd_tot (L:List Att):Tot (ahd L) where
 irr a:=by
  cases h:ahd L a a with
  | false => rfl
  | true => rw [ahd_iff] at h; omega
 trans a b c h1 h2:=by rw [ahd_iff] at *; omega
 tri a b h:=by rw [ahd_iff,ahd_iff]; omega
section
variable {w0:World} {p g:Nat} {A:Option Addr} {n c:Nat} {L:List Att}
theorem heaped_push:Heaped Nat 55 172 175 (.pointer (some ⟨p,0,none⟩)) (ahd L) (fun w xs => ∃ v,PileV w0 p g A n c L v w xs) (fun _ _ => True) where
 refl _:=trivial
 trans _ _ _ _ _:=trivial
 len w xs h:=by
  obtain ⟨v,h⟩:=h
  exact h.len_ok.mono fun e w' ⟨a,b,_⟩ => ⟨a,⟨v,b⟩,trivial⟩
 less w xs i j h hi hj:=by
  obtain ⟨v,h⟩:=h
  exact (h.less_ok i j hi hj).mono fun e w' ⟨a,b,_⟩ => ⟨a,⟨v,b⟩,trivial⟩
 swap w xs i j h hi hj:=by
  obtain ⟨v,h⟩:=h
  exact (h.swap_ok i j hi hj).mono fun e w' ⟨a,b,_⟩ => ⟨a,⟨v,b⟩,trivial⟩
 small w xs h:=by
  obtain ⟨v,h⟩:=h
  have:=h.small
  omega
theorem heaped_pop (ob:Option Nat):Heaped Nat 55 172 175 (.pointer (some ⟨p,0,none⟩)) (ahd L) (fun w xs => ∃ v,v.ownBlock=ob∧PileV w0 p g A n c L v w xs) (fun w w' => Upd (p :: ob.toList) w w') where
 refl _:=.refl _ _
 trans _ _ _ a b:=a.trans b
 len w xs h:=by
  obtain ⟨v,hv,h⟩:=h
  exact h.len_ok.mono fun e w' ⟨a,b,u⟩ => ⟨a,⟨v,hv,b⟩,u.mono (by simp)⟩
 less w xs i j h hi hj:=by
  obtain ⟨v,hv,h⟩:=h
  exact (h.less_ok i j hi hj).mono fun e w' ⟨a,b,u⟩ => ⟨a,⟨v,hv,b⟩,u.mono (by simp)⟩
 swap w xs i j h hi hj:=by
  obtain ⟨v,hv,h⟩:=h
  exact (h.swap_ok i j hi hj).mono fun e w' ⟨a,b,u⟩ => ⟨a,⟨v,hv,b⟩,u.mono (by rw [hv]; intro x hx; exact .inl (List.mem_cons_of_mem _ hx))⟩
 small w xs h:=by
  obtain ⟨v,hv,h⟩:=h
  have:=h.small
  omega
end
def sliceLen:Value→Nat
 | .slice _ n _ => n
 | _ => 0
theorem sort_ok (A:Option Addr) (n c:Nat) (L:List Att) (w:World) (hA:Atts w A L) (hn:L.length=n) (h60:n≤100) :
 Calls Tryz.prog 29 #[.slice A n c] w fun e w' => ∃ v,e=.returned v∧w'.ownsRow w.heap.size 3 1 v n (ints (srt (ahd L) (List.range n)))∧Upd [] w w':=by
 obtain ⟨i0,hi0,hz0,hz1,hz2⟩:=info_parts int_info
 have start:PileV w (w.heap.size + 1) w.heap.size A n c L (.slice none 0 0) ((w.alloc (.cells #[.slice A n c] 84)).alloc (.cells #[.slice none 0 0,lessF w.heap.size] 125)) [] :=
  { pb:=by have:=Blk.new (w.alloc (.cells #[.slice A n c] 84)) 125 #[.slice none 0 0,lessF w.heap.size]; simpa using this
    own:=own_nil _ _ _ _
    gb:=(Blk.new w _ _).alloc _
    bel:=((Upd.refl [] w).alloc _ |>.alloc _).below (Nat.le_refl _) (by simp)
    pn:=by omega,gn:=by omega,small:=by simp,all:=by simp,atts:=hA,len:=hn,base:=by simp; omega }
 have ST:=Zh start
 have HN:=Zh hn
 clear start hA hn
 go_enter Tryz.func29,Tryz.ntmps29
 go_wp2_with fail
 go_loopw [11] (fun u wr => ∃ (k:Nat) (ys:List Nat),u=.int .i64 k∧k≤n∧Hid (∃ v,PileV w (w.heap.size + 1) w.heap.size A n c L v wr ys)∧Hid (ys.Perm (List.range k))∧Hid (Hp (ahd L) k ys)) (fun u _ => n - (intOf u).toNat)
 case atStart => exact ⟨0,[],rfl,by omega,Zh ⟨_,ST.out⟩,Zh (by simp),Zh (by intro k hk hk2; omega)⟩
 case round =>
  obtain ⟨k,ys,rfl,hk,HY,HP,HH⟩:=hrel
  by_cases hlt:k < n
  ·go_wp2_with fail
   have HL:Hid (ys.length=k):=Zh (by have:=HP.out.length_eq; simpa using this)
   refine (heap_push heaped_push (ahd_tot L).ord k ys k 3 (.int .i64 k) wr HY.out HL.out HH.out ?_).mono ?_
   ·obtain ⟨v,h⟩:=HY.out
    exact (h.push_ok k (by rw [HN.out]; exact hlt) (by rw [HL.out]; omega)).mono fun e w' ⟨a,v',b⟩ => ⟨a,⟨v',b⟩,trivial⟩
   rintro e w1 ⟨rfl,zs,s1,p1,h1,-⟩
   have S1:=Zh s1
   have H1:=Zh h1
   have P1:Hid (zs.Perm (List.range (k + 1))):=Zh (by
    rw [List.range_succ]
    exact (p1.trans (List.Perm.cons k HP.out)).trans (List.perm_append_comm (l₁:=[k]) (l₂:=List.range k)))
   clear s1 p1 h1
   go_wp2_with fail
   go_roundw
   case rel => exact ⟨k + 1,zs,by go_num,by omega,S1,P1,H1⟩
   case measure => simp [intOf]; omega
  ·obtain rfl:n=k:=by omega
   obtain ⟨v0,pv⟩:=HY.out
   have PV:=Zh pv
   clear pv
   obtain ⟨ob,hob⟩:∃ ob,v0.ownBlock=ob:=⟨_,rfl⟩
   have OB:=Zh hob
   clear hlt hk HY hob
   go_wp2_with fail
   go_loopw [5] (fun u ws => ∃ (k:Nat) (ys os:List Nat),k≤n∧Hid (sliceLen u=k)∧Hid (∃ v,v.ownBlock=ob∧PileV w (w.heap.size + 1) w.heap.size A n c L v ws ys)∧Hid (Hp (ahd L) (n - k) ys)∧Hid (ys.length=n - k)∧Hid ((os ++ ys).Perm (List.range n)) ∧
    Hid (os.Pairwise (fun a b => ahd L a b=true))∧Hid (∀ a ∈ os,∀ b ∈ ys,ahd L a b=true)∧Hid (ws.ownsRow w.heap.size 3 1 u k (ints os))∧Hid (∀ b,u.ownBlock=some b→b≠w.heap.size + 1∧ob≠some b)) (fun u _ => n - sliceLen u)
   case atStart => exact ⟨0,ys,[],by omega,Zh rfl,Zh ⟨v0,OB.out,PV.out⟩,HH,Zh (by have:=HP.out.length_eq; simpa using this),HP,Zh .nil,Zh (by simp),Zh (own_nil _ _ _ _),Zh (by simp [Value.ownBlock])⟩
   case round =>
    obtain ⟨k,ys,os,hk,KS,KY,KH,KL,KP,KO,KA,KU,KB⟩:=hrel
    by_cases hlt:k < n
    ·obtain ⟨m,hm⟩:∃ m,n - k=m + 1:=⟨n - k - 1,by omega⟩
     obtain ⟨v,hv,P0⟩:=KY.out
     have LY:Hid (ys.length=m + 1):=Zh (KL.out.trans hm)
     have KH1:Hid (Hp (ahd L) (m + 1) ys):=Zh (hm ▸ KH.out)
     have HV:=Zh hv
     have Q0:=Zh P0
     have hmn:m≤100:=by omega
     clear hv P0 KY KH KL
     go_wp2_with fail
     have hc:=Q0.out.len_ok
     rw [LY.out] at hc
     have hq:((m + 1:Nat):Int)=(m:Int) + 1:=by omega
     rw [hq] at hc
     clear hq
     refine hc.mono ?_; clear hc; rintro e w1 ⟨rfl,p1,u1⟩
     have hown:=p1.own
     rw [LY.out] at hown
     obtain ⟨a,cap,cur,rfl,ha,hb,hc1,hc2,_⟩:=own_form hown (by omega)
     have f0:w1.cell? ⟨w.heap.size + 1,0,none⟩=some (.slice (some ⟨a,0,none⟩) (m + 1) cap):=by rw [p1.pb.cell]; rfl
     have f1:w1.cell? ⟨a,0,none⟩=some (.int .i64 (ys.getD 0 default:Nat)):=own_cell hown 0 _ (ints_get ys 0 (by rw [LY.out]; omega))
     have O1:=Zh (own_upd0 KU.out u1)
     have OA:=Zh (own_upd0 O1.out ((Upd.refl [] w1).alloc (.cells #[.int .i64 (ys.getD 0 default:Nat)] 3)))
     have P1:=Zh p1
     have hz:w.heap.size + 2≤w1.heap.size:=by have:=p1.pb.lt; omega
     clear p1 u1 hown hb ha hc1 hc2 KU Q0
     go_wp2_with (first
      | (at_builtin; refine wpList_append_lies _ rfl (.tmp 23) (.tmp 30) _ rfl w.heap.size 3 i0 _ 1 8 Tryz.underlying22 hi0 hz0 hz1 hz2 rfl (by omega) u5 k (ints os) rfl OA.out ⟨w1.heap.size,0,none⟩ 1 1 [.int .i64 (ys.getD 0 default:Nat)] rfl (by simp) (news_of_blk (Blk.new w1 3 #[.int .i64 (ys.getD 0 default:Nat)])) (by intro u hu; simp only [List.mem_singleton] at hu; subst hu; rfl) (by omega) (by simp only [maxLen]; omega) (by omega) (by simp; omega) (w1.heap.size + 1) (by simp) ?_
         intro g2 cap2 w2 hown2 hg2 hat2 hlt2
         have O2:=Zh hown2
         have U2:=Zh (((Upd.refl u5.ownBlock.toList w1).alloc (.cells #[.int .i64 (ys.getD 0 default:Nat)] 3)).grown hg2 (fun k hk => .inl (by rw [hk]; simp)))
         have T2:=Zh hat2
         clear hown2 hg2 hat2 hlt2))
     have B2:Hid (∀ x,u5.ownBlock=some x→w.heap.size≤x∧x≠w.heap.size + 1∧x≠w.heap.size∧ob≠some x):=Zh fun x hx =>
      ⟨(own_lt O1.out hx).1,(KB.out x hx).1,fun e => own_type O1.out P1.out.gb (by decide) (e ▸ hx),(KB.out x hx).2⟩
     have P2:PileV w (w.heap.size + 1) w.heap.size A n c L (.slice (some ⟨a,0,none⟩) (m + 1) cap) w2 ys:=P1.out.upd U2.out (by
      intro x hx
      rw [HV.out]
      exact B2.out x (by simpa using hx))
     have G2:Hid (g2≠w.heap.size + 1∧ob≠some g2):=Zh (by
      rcases T2.out with h | h
      ·exact ⟨(B2.out _ h).2.1,(B2.out _ h).2.2.2⟩
      ·refine ⟨by omega,fun e => ?_⟩
       have:=(own_lt P1.out.own (HV.out.trans e)).2
       omega)
     refine (heap_pop (heaped_pop ob) (ahd_tot L).ord m ys (fun (x:Nat) => .iface 3 (.int .i64 x)) w2 ⟨_,HV.out,P2⟩ LY.out KH1.out ?_).mono ?_
     ·intro w3 zs ⟨v3,h3,p3⟩ hl3
      refine (p3.pop_ok m hl3).mono ?_
      rintro e w4 ⟨rfl,v4,h4,p4,u4⟩
      exact ⟨rfl,⟨v4,h4.trans h3,p4⟩,u4.mono (by simp)⟩
     rintro e w3 ⟨rfl,zs,s3,q3,h3,u3⟩
     have S3:=Zh s3
     have Q3:=Zh q3
     have H3:=Zh h3
     have U3:=Zh u3
     clear s3 q3 h3 u3 P2
     go_wp2_with fail
     go_roundw
     case rel =>
      have hmk:n - (k + 1)=m:=by omega
      have hst:=sort_step (ahd_tot L) KP.out List.nodup_range Q3.out (fun x hx => by
       obtain ⟨j,hj,rfl⟩:=List.getElem_of_mem hx
       have:=KH1.out.least (ahd_tot L).ord (ahd_tot L).irr j (by rw [← LY.out]; exact hj)
       simpa [List.getElem?_eq_getElem hj] using this) KO.out KA.out
      refine ⟨k + 1,zs,os ++ [ys.getD 0 default],by omega,Zh rfl,S3,Zh (hmk ▸ H3.out),Zh ?_,Zh hst.1,Zh hst.2.1,Zh hst.2.2,Zh ?_,Zh ?_⟩
      ·have:=Q3.out.length_eq
       rw [LY.out] at this
       simp at this
       omega
      ·rw [ints_snoc]
       refine own_upd O2.out U3.out ?_
       intro b hb
       simp only [Value.ownBlock,Option.some.injEq] at hb
       subst hb
       simp only [List.mem_cons,Option.mem_toList,not_or]
       exact ⟨G2.out.1,G2.out.2⟩
      ·intro b hb
       simp only [Value.ownBlock,Option.some.injEq] at hb
       subst hb
       exact G2.out
     case measure =>
      show n - (k + 1) < n - sliceLen u5
      rw [KS.out]; omega
    ·obtain rfl:n=k:=by omega
     have LY:Hid (ys.length=0):=Zh (by have:=KL.out; omega)
     obtain ⟨v,hv,P0⟩:=KY.out
     have Q0:=Zh P0
     clear hv P0 KY hlt
     go_wp2_with fail
     have hc:=Q0.out.len_ok
     rw [LY.out] at hc
     refine hc.mono ?_; clear hc; rintro e w1 ⟨rfl,p1,u1⟩
     have P1:=Zh p1
     have U1:=Zh u1
     clear p1 u1
     go_wp2_with fail
     go_ret
     refine ⟨_,rfl,?_,?_⟩
     ·have hy:ys=[]:=List.length_eq_zero_iff.1 LY.out
      have hp:=KP.out
      rw [hy,List.append_nil] at hp
      rw [← srt_eq (ahd_tot L) hp KO.out]
      exact own_upd0 KU.out U1.out
     ·exact Upd.of_below P1.out.bel (Nat.le_refl _)
end Go.Proofs.YtmjnmpifibemjaaGreatDoor
set_option linter.unusedSimpArgs false
namespace Go.Proofs.YtmjnmpifibemjaaGreatDoor
open Go.RowKit
def rAh (a3 b3:Int) (a4 b4:Bool) (a6 b6 i j:Int):Bool:=if a3=b3 then (if a4=b4 then (if a6=b6 then decide (i < j) else decide (a6 < b6)) else a4) else decide (a3 < b3)
theorem rAh_ahd (L:List Att) (i j:Nat):rAh (L.getD i default).st (L.getD j default).st (L.getD i default).wr (L.getD j default).wr (L.getD i default).en (L.getD j default).en i j=ahd L i j:=by
 rw [Bool.eq_iff_iff,ahd_iff]
 unfold rAh rk
 generalize L.getD i default=x
 generalize L.getD j default=y
 obtain ⟨_,_,s1,d1,_,e1⟩:=x
 obtain ⟨_,_,s2,d2,_,e2⟩:=y
 dsimp only
 by_cases h1:s1=s2
 ·rw [if_pos h1]
  cases d1 <;> cases d2 <;> simp [h1]
  all_goals
   by_cases h3:e1=e2
   ·rw [if_pos h3]; simp [h3]
   ·rw [if_neg h3]; simp; omega
 ·rw [if_neg h1]; simp; omega
theorem ret_bool {a b:Bool} (h:a=b):Ending.returned (.bool a)=.returned (.bool b):=by rw [h]
theorem rahead_walk (ad:Addr) (n c i j:Nat) (hi:i < n) (hj:j < n) (a1 a2 a3:Int) (a4:Bool) (a5 a6 b1 b2 b3:Int) (b4:Bool) (b5 b6:Int) (w:World)
 (x1:w.cell? (ad.add (i * 6))=some (.int .i64 a1)) (x2:w.cell? ⟨(ad.add (i * 6)).block,(ad.add (i * 6)).off + 1,none⟩=some (.int .i64 a2)) (x3:w.cell? ⟨(ad.add (i * 6)).block,(ad.add (i * 6)).off + 2,none⟩=some (.int .i64 a3)) (x4:w.cell? ⟨(ad.add (i * 6)).block,(ad.add (i * 6)).off + 3,none⟩=some (.bool a4)) (x5:w.cell? ⟨(ad.add (i * 6)).block,(ad.add (i * 6)).off + 4,none⟩=some (.int .i64 a5)) (x6:w.cell? ⟨(ad.add (i * 6)).block,(ad.add (i * 6)).off + 5,none⟩=some (.int .i64 a6)) (y1:w.cell? (ad.add (j * 6))=some (.int .i64 b1)) (y2:w.cell? ⟨(ad.add (j * 6)).block,(ad.add (j * 6)).off + 1,none⟩=some (.int .i64 b2)) (y3:w.cell? ⟨(ad.add (j * 6)).block,(ad.add (j * 6)).off + 2,none⟩=some (.int .i64 b3)) (y4:w.cell? ⟨(ad.add (j * 6)).block,(ad.add (j * 6)).off + 3,none⟩=some (.bool b4)) (y5:w.cell? ⟨(ad.add (j * 6)).block,(ad.add (j * 6)).off + 4,none⟩=some (.int .i64 b5)) (y6:w.cell? ⟨(ad.add (j * 6)).block,(ad.add (j * 6)).off + 5,none⟩=some (.int .i64 b6)) :
 Calls Tryz.prog 89 #[.slice (some ad) n c,.int .i64 i,.int .i64 j] w fun e w' => e=.returned (.bool (rAh a3 b3 a4 b4 a6 b6 i j))∧Upd [] w w':=by
 by_cases h3:a3=b3
 ·subst h3
  by_cases h4:a4=b4
  ·subst h4
   by_cases h6:a6=b6
   ·subst h6
    have n0:=World.new_ne w _ x1
    have n1:=World.new_ne w _ x2
    have n2:=World.new_ne w _ x3
    have n3:=World.new_ne w _ x4
    have n4:=World.new_ne w _ x5
    have n5:=World.new_ne w _ x6
    have n6:=World.new_ne w _ y1
    have n7:=World.new_ne w _ y2
    have n8:=World.new_ne w _ y3
    have n9:=World.new_ne w _ y4
    have n10:=World.new_ne w _ y5
    have n11:=World.new_ne w _ y6
    go_enter Tryz.func89,Tryz.ntmps89
    go_wp2_with fail
    go_region_held3 (fun W => W.cell? (ad.add (i * 6))=some (.int .i64 a1)∧W.cell? ⟨(ad.add (i * 6)).block,(ad.add (i * 6)).off + 1,none⟩=some (.int .i64 a2)∧W.cell? ⟨(ad.add (i * 6)).block,(ad.add (i * 6)).off + 2,none⟩=some (.int .i64 a3)∧W.cell? ⟨(ad.add (i * 6)).block,(ad.add (i * 6)).off + 3,none⟩=some (.bool a4)∧W.cell? ⟨(ad.add (i * 6)).block,(ad.add (i * 6)).off + 4,none⟩=some (.int .i64 a5)∧W.cell? ⟨(ad.add (i * 6)).block,(ad.add (i * 6)).off + 5,none⟩=some (.int .i64 a6)∧W.cell? (ad.add (j * 6))=some (.int .i64 b1)∧W.cell? ⟨(ad.add (j * 6)).block,(ad.add (j * 6)).off + 1,none⟩=some (.int .i64 b2)∧W.cell? ⟨(ad.add (j * 6)).block,(ad.add (j * 6)).off + 2,none⟩=some (.int .i64 a3)∧W.cell? ⟨(ad.add (j * 6)).block,(ad.add (j * 6)).off + 3,none⟩=some (.bool a4)∧W.cell? ⟨(ad.add (j * 6)).block,(ad.add (j * 6)).off + 4,none⟩=some (.int .i64 b5)∧W.cell? ⟨(ad.add (j * 6)).block,(ad.add (j * 6)).off + 5,none⟩=some (.int .i64 a6)) (go_keep) (fail)
    all_goals go_wp2_with fail
    all_goals
     go_ret
     exact ⟨ret_bool (by simp [rAh]),(((Upd.refl [] w).alloc _).alloc _).drew⟩
   ·have e6:(a6 != b6)=true:=by simpa using h6
    have H6:=Zh h6
    clear h6
    have n0:=World.new_ne w _ x1
    have n1:=World.new_ne w _ x2
    have n2:=World.new_ne w _ x3
    have n3:=World.new_ne w _ x4
    have n4:=World.new_ne w _ x5
    have n5:=World.new_ne w _ x6
    have n6:=World.new_ne w _ y1
    have n7:=World.new_ne w _ y2
    have n8:=World.new_ne w _ y3
    have n9:=World.new_ne w _ y4
    have n10:=World.new_ne w _ y5
    have n11:=World.new_ne w _ y6
    go_enter Tryz.func89,Tryz.ntmps89
    go_wp2_with fail
    go_region_held3 (fun W => W.cell? (ad.add (i * 6))=some (.int .i64 a1)∧W.cell? ⟨(ad.add (i * 6)).block,(ad.add (i * 6)).off + 1,none⟩=some (.int .i64 a2)∧W.cell? ⟨(ad.add (i * 6)).block,(ad.add (i * 6)).off + 2,none⟩=some (.int .i64 a3)∧W.cell? ⟨(ad.add (i * 6)).block,(ad.add (i * 6)).off + 3,none⟩=some (.bool a4)∧W.cell? ⟨(ad.add (i * 6)).block,(ad.add (i * 6)).off + 4,none⟩=some (.int .i64 a5)∧W.cell? ⟨(ad.add (i * 6)).block,(ad.add (i * 6)).off + 5,none⟩=some (.int .i64 a6)∧W.cell? (ad.add (j * 6))=some (.int .i64 b1)∧W.cell? ⟨(ad.add (j * 6)).block,(ad.add (j * 6)).off + 1,none⟩=some (.int .i64 b2)∧W.cell? ⟨(ad.add (j * 6)).block,(ad.add (j * 6)).off + 2,none⟩=some (.int .i64 a3)∧W.cell? ⟨(ad.add (j * 6)).block,(ad.add (j * 6)).off + 3,none⟩=some (.bool a4)∧W.cell? ⟨(ad.add (j * 6)).block,(ad.add (j * 6)).off + 4,none⟩=some (.int .i64 b5)∧W.cell? ⟨(ad.add (j * 6)).block,(ad.add (j * 6)).off + 5,none⟩=some (.int .i64 b6)) (go_keep) (fail)
    all_goals go_wp2_with fail
    all_goals
     go_ret
     exact ⟨ret_bool (by simp [rAh,H6.out]),(((Upd.refl [] w).alloc _).alloc _).drew⟩
  ·obtain ⟨rfl,rfl⟩ | ⟨rfl,rfl⟩:(a4=true∧b4=false)∨(a4=false∧b4=true):=by cases a4 <;> cases b4 <;> simp_all
   ·clear h4
    have n0:=World.new_ne w _ x1
    have n1:=World.new_ne w _ x2
    have n2:=World.new_ne w _ x3
    have n3:=World.new_ne w _ x4
    have n4:=World.new_ne w _ x5
    have n5:=World.new_ne w _ x6
    have n6:=World.new_ne w _ y1
    have n7:=World.new_ne w _ y2
    have n8:=World.new_ne w _ y3
    have n9:=World.new_ne w _ y4
    have n10:=World.new_ne w _ y5
    have n11:=World.new_ne w _ y6
    go_enter Tryz.func89,Tryz.ntmps89
    go_wp2_with fail
    go_region_held3 (fun W => W.cell? (ad.add (i * 6))=some (.int .i64 a1)∧W.cell? ⟨(ad.add (i * 6)).block,(ad.add (i * 6)).off + 1,none⟩=some (.int .i64 a2)∧W.cell? ⟨(ad.add (i * 6)).block,(ad.add (i * 6)).off + 2,none⟩=some (.int .i64 a3)∧W.cell? ⟨(ad.add (i * 6)).block,(ad.add (i * 6)).off + 3,none⟩=some (.bool true)∧W.cell? ⟨(ad.add (i * 6)).block,(ad.add (i * 6)).off + 4,none⟩=some (.int .i64 a5)∧W.cell? ⟨(ad.add (i * 6)).block,(ad.add (i * 6)).off + 5,none⟩=some (.int .i64 a6)∧W.cell? (ad.add (j * 6))=some (.int .i64 b1)∧W.cell? ⟨(ad.add (j * 6)).block,(ad.add (j * 6)).off + 1,none⟩=some (.int .i64 b2)∧W.cell? ⟨(ad.add (j * 6)).block,(ad.add (j * 6)).off + 2,none⟩=some (.int .i64 a3)∧W.cell? ⟨(ad.add (j * 6)).block,(ad.add (j * 6)).off + 3,none⟩=some (.bool false)∧W.cell? ⟨(ad.add (j * 6)).block,(ad.add (j * 6)).off + 4,none⟩=some (.int .i64 b5)∧W.cell? ⟨(ad.add (j * 6)).block,(ad.add (j * 6)).off + 5,none⟩=some (.int .i64 b6)) (go_keep) (fail)
    all_goals go_wp2_with fail
    all_goals
     go_ret
     exact ⟨ret_bool (by simp [rAh]),(((Upd.refl [] w).alloc _).alloc _).drew⟩
   ·clear h4
    have n0:=World.new_ne w _ x1
    have n1:=World.new_ne w _ x2
    have n2:=World.new_ne w _ x3
    have n3:=World.new_ne w _ x4
    have n4:=World.new_ne w _ x5
    have n5:=World.new_ne w _ x6
    have n6:=World.new_ne w _ y1
    have n7:=World.new_ne w _ y2
    have n8:=World.new_ne w _ y3
    have n9:=World.new_ne w _ y4
    have n10:=World.new_ne w _ y5
    have n11:=World.new_ne w _ y6
    go_enter Tryz.func89,Tryz.ntmps89
    go_wp2_with fail
    go_region_held3 (fun W => W.cell? (ad.add (i * 6))=some (.int .i64 a1)∧W.cell? ⟨(ad.add (i * 6)).block,(ad.add (i * 6)).off + 1,none⟩=some (.int .i64 a2)∧W.cell? ⟨(ad.add (i * 6)).block,(ad.add (i * 6)).off + 2,none⟩=some (.int .i64 a3)∧W.cell? ⟨(ad.add (i * 6)).block,(ad.add (i * 6)).off + 3,none⟩=some (.bool false)∧W.cell? ⟨(ad.add (i * 6)).block,(ad.add (i * 6)).off + 4,none⟩=some (.int .i64 a5)∧W.cell? ⟨(ad.add (i * 6)).block,(ad.add (i * 6)).off + 5,none⟩=some (.int .i64 a6)∧W.cell? (ad.add (j * 6))=some (.int .i64 b1)∧W.cell? ⟨(ad.add (j * 6)).block,(ad.add (j * 6)).off + 1,none⟩=some (.int .i64 b2)∧W.cell? ⟨(ad.add (j * 6)).block,(ad.add (j * 6)).off + 2,none⟩=some (.int .i64 a3)∧W.cell? ⟨(ad.add (j * 6)).block,(ad.add (j * 6)).off + 3,none⟩=some (.bool true)∧W.cell? ⟨(ad.add (j * 6)).block,(ad.add (j * 6)).off + 4,none⟩=some (.int .i64 b5)∧W.cell? ⟨(ad.add (j * 6)).block,(ad.add (j * 6)).off + 5,none⟩=some (.int .i64 b6)) (go_keep) (fail)
    all_goals go_wp2_with fail
    all_goals
     go_ret
     exact ⟨ret_bool (by simp [rAh]),(((Upd.refl [] w).alloc _).alloc _).drew⟩
 ·have e3:(a3 != b3)=true:=by simpa using h3
  have H3:=Zh h3
  clear h3
  have n0:=World.new_ne w _ x1
  have n1:=World.new_ne w _ x2
  have n2:=World.new_ne w _ x3
  have n3:=World.new_ne w _ x4
  have n4:=World.new_ne w _ x5
  have n5:=World.new_ne w _ x6
  have n6:=World.new_ne w _ y1
  have n7:=World.new_ne w _ y2
  have n8:=World.new_ne w _ y3
  have n9:=World.new_ne w _ y4
  have n10:=World.new_ne w _ y5
  have n11:=World.new_ne w _ y6
  go_enter Tryz.func89,Tryz.ntmps89
  go_wp2_with fail
  go_region_held3 (fun W => W.cell? (ad.add (i * 6))=some (.int .i64 a1)∧W.cell? ⟨(ad.add (i * 6)).block,(ad.add (i * 6)).off + 1,none⟩=some (.int .i64 a2)∧W.cell? ⟨(ad.add (i * 6)).block,(ad.add (i * 6)).off + 2,none⟩=some (.int .i64 a3)∧W.cell? ⟨(ad.add (i * 6)).block,(ad.add (i * 6)).off + 3,none⟩=some (.bool a4)∧W.cell? ⟨(ad.add (i * 6)).block,(ad.add (i * 6)).off + 4,none⟩=some (.int .i64 a5)∧W.cell? ⟨(ad.add (i * 6)).block,(ad.add (i * 6)).off + 5,none⟩=some (.int .i64 a6)∧W.cell? (ad.add (j * 6))=some (.int .i64 b1)∧W.cell? ⟨(ad.add (j * 6)).block,(ad.add (j * 6)).off + 1,none⟩=some (.int .i64 b2)∧W.cell? ⟨(ad.add (j * 6)).block,(ad.add (j * 6)).off + 2,none⟩=some (.int .i64 b3)∧W.cell? ⟨(ad.add (j * 6)).block,(ad.add (j * 6)).off + 3,none⟩=some (.bool b4)∧W.cell? ⟨(ad.add (j * 6)).block,(ad.add (j * 6)).off + 4,none⟩=some (.int .i64 b5)∧W.cell? ⟨(ad.add (j * 6)).block,(ad.add (j * 6)).off + 5,none⟩=some (.int .i64 b6)) (go_keep) (fail)
  all_goals go_wp2_with fail
  all_goals
   go_ret
   exact ⟨ret_bool (by simp [rAh,H3.out]),(((Upd.refl [] w).alloc _).alloc _).drew⟩
theorem rahead_at (A:Option Addr) (n c:Nat) (L:List Att) (w:World) (h:Atts w A L) (hn:L.length=n) (i j:Nat) (hi:i < n) (hj:j < n) :
 Calls Tryz.prog 89 #[.slice A n c,.int .i64 i,.int .i64 j] w fun e w' => e=.returned (.bool (ahd L i j))∧Upd [] w w':=by
 obtain ⟨ad,rfl,c1,c2,c3,c4,c5,c6,_⟩:=h i _ (List.getElem?_eq_getElem (by omega))
 obtain ⟨ad',e,d1,d2,d3,d4,d5,d6,_⟩:=h j _ (List.getElem?_eq_getElem (by omega))
 obtain rfl:=Option.some.inj e
 rw [← rAh_ahd]
 rw [List.getD_eq_getElem?_getD,List.getD_eq_getElem?_getD,List.getElem?_eq_getElem (show i < L.length by omega),List.getElem?_eq_getElem (show j < L.length by omega)]
 exact rahead_walk ad n c i j hi hj _ _ _ _ _ _ _ _ _ _ _ _ w c1 c2 c3 c4 c5 c6 d1 d2 d3 d4 d5 d6
end Go.Proofs.YtmjnmpifibemjaaGreatDoor

/-
  SnapMerges, the walk.
-/
import Derived.Test.YthdjbflbhgbckaaLawSMs
import Derived.Deep.LoopGhost
set_option linter.unusedVariables false
namespace Go.Proofs.Ythdjbflbhgbckaa
open Go.RowKit Stab Snap Mrg
attribute [local go_sem] litStep_value

set_option maxRecDepth 100000 in
set_option maxHeartbeats 8000000 in
theorem law_smerges (A : Option Addr) (n c : Nat) (vs : List Value) (L : List PL) (w : World) (h : Src w 1 (.slice A n c) n vs) (hn : L.length = n) (hv : ∀ i, i < n → Rd encPr w (vs.getD i undef) (L.getD i [])) :
    Calls Try.prog 3 #[.slice A n c] w fun e w' => e = .returned (.bool true) ∧ Upd [] w w' := by
  have H := Lib.hid h
  have HN := Lib.hid hn
  have HV := Lib.hid hv
  clear h hn hv
  go_enter Try.func3, Try.ntmps3
  by_cases h6 : 6 < n
  · have d6 : decide ((6 : Int) < (n : Int)) = true := by simp; omega
    have U0 : Hid (Upd [] w w) := Lib.hid (.refl _ _)
    go_wp2_with fail
    refine (alive27 w).mono ?_; rintro e w9 ⟨rfl, u9⟩
    have U9 := Lib.hid (U0.out.trans u9)
    clear u9
    go_wp2_with fail
    go_ret
    exact ⟨rfl, U9.out⟩
  have d6 : decide ((6 : Int) < (n : Int)) = false := by simp; omega
  go_wp2_with fail
  go_loopg [20, 3, 4] n (fun g v v3 v4 wr => ∃ (k : Nat) (os : List (Option Nat)) (us : List Value) (rs : List PL) (A3 : Option Addr) (c3 : Nat) (A4 : Option Addr) (c4 : Nat), v = .int .i64 k ∧ g = n - k ∧ k ≤ n ∧ v3 = .slice A3 k c3 ∧ v4 = .slice A4 k c4 ∧ Hid (os.length = k ∧ us.length = k ∧ rs.length = k ∧ (∀ r ∈ rs, r.length ≤ 40)) ∧ Hid (SMs w wr (.slice A3 k c3) (.slice A4 k c4) os us rs))
  case atStart => exact ⟨0, [], [], [], none, 0, none, 0, rfl, rfl, Nat.zero_le _, rfl, rfl, Lib.hid (by simp), Lib.hid ⟨.refl _ _, Ow.nil _ _ _ _, own_nil _ _ _ _, fun i hi => by simp at hi, fun i hi => by simp at hi⟩⟩
  case round =>
    obtain ⟨k, os, us, rs, A3, c3, A4, c4, rfl, rfl, hk, rfl, rfl, HL, D⟩ := hrel
    by_cases hlt : k < n
    · obtain ⟨l, hl⟩ : ∃ l, L[k]? = some l := ⟨_, List.getElem?_eq_getElem (by rw [HN.out]; exact hlt)⟩
      have q1 : (k : Int) < (n : Int) := by omega
      have q0 : (0 : Int) ≤ (k : Int) := by omega
      have hvi := HV.out k hlt
      have hrd : L.getD k [] = l := by rw [List.getD_eq_getElem?_getD, hl]; rfl
      rw [hrd] at hvi
      obtain ⟨u, hu⟩ : ∃ u, vs[k]? = some u := ⟨_, List.getElem?_eq_getElem (by have := H.out.1; omega)⟩
      have hud : vs.getD k undef = u := by rw [List.getD_eq_getElem?_getD, hu]; rfl
      rw [hud] at hvi
      obtain ⟨Ai, ci, hAi⟩ := hvi.form
      obtain ⟨m, hm⟩ : ∃ m, l.length = m := ⟨_, rfl⟩
      rw [hm] at hAi
      subst hAi
      obtain ⟨_, A2, c2, e2, h2⟩ := H.out
      injection e2 with e2 _ e2'
      subst e2 e2'
      obtain ⟨ad, rfl, hadb, hcell⟩ := h2 k _ hu
      have CI : Hid (∀ W, Upd [] w W → W.cell? (ad.add k) = some (.slice Ai m ci)) := Lib.hid (fun W hW => by
        obtain ⟨_, A2, c2, e2, h2⟩ := Src.upd0 H.out hW
        injection e2 with e2 _ e2'
        subst e2 e2'
        obtain ⟨ad', e, _, h⟩ := h2 k _ hu
        cases e
        exact h)
      have HVI := Lib.hid hvi
      have HM := Lib.hid hm
      have c0 := CI.out wr D.out.u
      clear hvi hrd hu hud hm hl h2 hadb hcell
      by_cases h40 : 40 < m
      · have d4 : decide ((40 : Int) < (m : Int)) = true := by simp; omega
        have U0 := Lib.hid D.out.u
        go_wp2_with fail
        refine (alive27 wr).mono ?_; rintro e w9 ⟨rfl, u9⟩
        have U9 := Lib.hid (U0.out.trans u9)
        clear u9
        go_wp2_with fail
        go_ret
        exact ⟨rfl, U9.out⟩
      have d4 : decide ((40 : Int) < (m : Int)) = false := by simp; omega
      go_wp2_with fail
      refine (s_of Ai m ci l wr (HVI.out.upd0 D.out.u) HM.out (by omega)).mono ?_
      intro e w1 h1
      obtain ⟨u1, h1 | h1⟩ := of_cases (r := []) (f := 0) (a := 0) h1
      · obtain ⟨g, kk, rfl, he, ho⟩ := h1
        have E1 := Lib.hid he
        have U1 := Lib.hid (D.out.u.trans u1)
        have c1 := CI.out w1 U1.out
        clear he u1 c0
        go_wp2_with fail
        refine (r_of Ai m ci l w1 (HVI.out.upd0 U1.out) HM.out (by omega)).mono ?_
        rintro e w2 ⟨v, r, f, a, rfl, hr, _, _, u2⟩
        obtain ⟨rfl, rfl, rfl⟩ := of_both hr ho
        have E2 := Lib.hid (E1.out.upd u2)
        have U2 := Lib.hid (U1.out.trans u2)
        clear u2 hr ho c1
        go_wp2_with fail
        refine (no_err E2.out).mono ?_; rintro e w' ⟨rfl, rfl⟩
        go_wp2_with fail
        refine (alive27 w2).mono ?_; rintro e w9 ⟨rfl, u9⟩
        have U9 := Lib.hid (U2.out.trans u9)
        clear u9
        go_wp2_with fail
        go_ret
        exact ⟨rfl, U9.out⟩
      · obtain ⟨sb, r, rfl, hs, ho⟩ := h1
        have S1 := Lib.hid (hs.base D.out.u.size)
        have D1 := Lib.hid (D.out.upd0 u1)
        have HO := Lib.hid ho
        have c1 := CI.out w1 D1.out.u
        clear hs u1 ho c0 D
        go_wp2_with fail
        refine (r_of Ai m ci l w1 (HVI.out.upd0 D1.out.u) HM.out (by omega)).mono ?_
        rintro e w2 ⟨v, r2, f, a, rfl, hr, hlen, o2, u2⟩
        obtain ⟨rfl, rfl, rfl⟩ := of_both hr HO.out
        have S2 := Lib.hid (S1.out.upd0 u2)
        have O2 : Hid (Ow encPr 42 w2 w.heap.size v r2) := Lib.hid (own_base o2 D1.out.u.size)
        have D2 := Lib.hid ((D1.out.upd0 u2).more r2 (by have := HL.out; omega) (by have := HL.out; omega))
        have LR : Hid (r2.length ≤ 40) := Lib.hid (by have := HM.out; omega)
        have GS : Hid ((rs ++ [r2]).getD os.length [] = r2) := Lib.hid (by have := HL.out; rw [List.getD_eq_getElem?_getD, List.getElem?_append_right (by omega)]; simp [show os.length - rs.length = 0 by omega])
        have GL : Hid ((rs ++ [r2]).getD us.length [] = r2) := Lib.hid (by have := HL.out; rw [List.getD_eq_getElem?_getD, List.getElem?_append_right (by omega)]; simp [show us.length - rs.length = 0 by omega])
        obtain ⟨Ar, cr, rfl, _, _⟩ := own_slice o2
        clear o2 u2 hr hlen S1 D1 c1
        go_wp2_with fail
        refine (no_nil _).mono ?_; rintro e w' ⟨rfl, rfl⟩
        have DA := Lib.hid (D2.out.upd0 ((Upd.refl [] w2).alloc (.cells #[.pointer (some ⟨sb, 0, none⟩)] 26)))
        have SA := Lib.hid (S2.out.upd0 ((Upd.refl [] w2).alloc (.cells #[.pointer (some ⟨sb, 0, none⟩)] 26)))
        have OA := Lib.hid (O2.out.upd0 ((Upd.refl [] w2).alloc (.cells #[.pointer (some ⟨sb, 0, none⟩)] 26)))
        have OS : Hid ((w2.alloc (.cells #[.pointer (some ⟨sb, 0, none⟩)] 26)).ownsRow w.heap.size 26 1 (.slice A3 k c3) k (flat encSp os)) := Lib.hid (by have := DA.out.so; unfold Ow at this; rw [HL.out.1] at this; exact this)
        go_wp2_with (at_builtin; refine stopped ?_)
        refine Lib.hid ?_
        refine wpList_app _ (by rfl) (.tmp 55) (.tmp 57) _ (by rfl) elem_sp (.slice A3 k c3) _ (by rfl) (by rfl) OS.out (.of_blk (Blk.new _ _ _) (m := 1) 1 rfl) (by intro u hu; simp at hu; subst hu; rfl) (by simp only [maxLen]; omega) (by omega) DA.out.u.size ?_
        intro v7 w7 o7 u7 b7
        have O7 : Hid (Ow encSp 26 w7 w.heap.size v7 (os ++ [some sb])) := Lib.hid (by unfold Ow; rw [List.length_append, HL.out.1, flat_append, flat_one_]; exact o7)
        have D7 := Lib.hid (DA.out.pushS O7.out u7 (by rw [GS.out]; exact SA.out))
        have R7 : Hid (Ow encPr 42 w7 w.heap.size (.slice Ar r2.length cr) r2) := Lib.hid (own_off OA.out u7 (fun x hx => (own_blk OS.out hx).2) (by decide))
        obtain ⟨A7, c7, rfl, _, _⟩ := own_slice o7
        clear o7 u7 b7 DA SA OA OS O7 D2 S2 O2
        obtain ⟨rl, hrl⟩ : ∃ rl, r2.length = rl := ⟨_, rfl⟩
        rw [hrl] at R7
        try rw [hrl]
        have DB := Lib.hid (D7.out.upd0 ((Upd.refl [] w7).alloc (.cells #[.slice Ar rl cr] 25)))
        have RB := Lib.hid (R7.out.upd0 ((Upd.refl [] w7).alloc (.cells #[.slice Ar rl cr] 25)))
        have OL : Hid ((w7.alloc (.cells #[.slice Ar rl cr] 25)).ownsRow w.heap.size 25 1 (.slice A4 k c4) k us) := Lib.hid (by have := DB.out.lo; rw [HL.out.2.1] at this; exact this)
        have US1 : Hid (∀ u ∈ [Value.slice Ar rl cr], u.oneCell' = true) := Lib.hid (by intro u hu; simp at hu; subst hu; rfl)
        clear hrl
        go_wp2_with (at_builtin; refine stopped ?_)
        refine Lib.hid ?_
        refine wpList_app _ (by rfl) (.tmp 59) (.tmp 61) _ (by rfl) elem_prs (.slice A4 k c4) _ (by rfl) (by rfl) OL.out (.of_blk (Blk.new _ _ _) (m := 1) 1 rfl) US1.out (by simp only [maxLen]; omega) (by omega) DB.out.u.size ?_
        intro v8 w8 o8 u8 b8
        have D8 := Lib.hid (DB.out.pushL (u := .slice Ar rl cr) (by rw [HL.out.2.1]; exact o8) u8 (by rw [GL.out]; exact RB.out))
        obtain ⟨A8, c8, rfl, _, _⟩ := own_slice o8
        clear o8 u8 b8 DB RB OL D7 R7
        go_wp2_with fail
        go_roundg (n - (k + 1))
        case measure => omega
        case rel => exact ⟨k + 1, _, _, _, A7, c7, A8, c8, by go_num, rfl, by omega, rfl, rfl, Lib.hid ⟨by simp [HL.out.1], by simp [HL.out.2.1], by simp [HL.out.2.2.1], fun r hr => by
          rcases List.mem_append.1 hr with hr | hr
          · exact HL.out.2.2.2 r hr
          · simp at hr; subst hr; exact LR.out⟩, D8⟩
    · have hkn : k = n := by omega
      subst hkn
      have FL : Hid (rs.flatten.length ≤ 240) := Lib.hid (by
        have h1 : ∀ X : List PL, (∀ r ∈ X, r.length ≤ 40) → X.flatten.length ≤ 40 * X.length := fun X => by
          induction X with
          | nil => intro _; simp
          | cons a X ih =>
            intro hX
            have h2 := ih (fun r hr => hX r (List.mem_cons_of_mem _ hr))
            have h3 := hX a (List.mem_cons_self ..)
            simp only [List.flatten_cons, List.length_append, List.length_cons]
            omega
        have := h1 rs HL.out.2.2.2
        have := HL.out.2.2.1
        omega)
      have RS : Hid (Rd encSp wr (.slice A3 k c3) os) := Lib.hid D.out.so.rd
      go_wp2_with fail
      refine (s_merge A3 k c3 os rs wr RS.out HL.out.1 HL.out.2.2.1 (by omega) (fun i hi => D.out.snapV (by rw [HL.out.1]; exact hi)) (by have := FL.out; omega)).mono ?_
      rintro e w1 ⟨M, sm, rfl, um, sm1, u1⟩
      have D1 := Lib.hid (D.out.upd0 u1)
      have UM := Lib.hid um
      have S1 := Lib.hid sm1
      have BW : Hid (w.heap.size ≤ wr.heap.size) := Lib.hid D.out.u.size
      have ML : Hid (M.length ≤ 240) := Lib.hid (Nat.le_trans um.len FL.out)
      clear um sm1 u1 D RS
      go_wp2_with fail
      refine (s_all _ sm M w1 S1.out).mono ?_
      rintro e w2 ⟨va, rfl, oa, u2⟩
      have OA := Lib.hid oa
      have S2 := Lib.hid (S1.out.upd0 u2)
      have D2 := Lib.hid (D1.out.upd0 u2)
      clear oa u2 S1 D1
      go_wp2_with fail
      refine (r_merge A4 k c4 us rs w2 (by have := D2.out.lo; rw [HL.out.2.1] at this; exact Src.of_own this) HL.out.2.2.1 (by omega) (fun i hi => (D2.out.lists i (by rw [HL.out.2.1]; exact hi)).rd) (by have := FL.out; omega)).mono ?_
      rintro e w3 ⟨vb, M', rfl, um', ob, u3⟩
      obtain rfl := um'.eq UM.out
      have OB := Lib.hid ob
      have OA3 := Lib.hid (OA.out.upd0 u3)
      have S3 := Lib.hid (S2.out.upd0 u3)
      have D3 := Lib.hid (D2.out.upd0 u3)
      obtain ⟨Aa, ca, rfl, _, _⟩ := own_slice OA.out
      obtain ⟨Ab, cb, rfl, _, _⟩ := own_slice ob
      clear ob u3 um' OA S2 D2
      go_wp2_with fail
      refine (pairs_rd Aa Ab M'.length ca M'.length cb M' M' w3 OA3.out.rd OB.out.rd rfl rfl (by have := ML.out; omega) (by have := ML.out; omega)).mono ?_
      rintro e w4 ⟨rfl, u4⟩
      rw [decide_eq_true rfl]
      have S4 := Lib.hid (S3.out.upd0 u4)
      have D4 := Lib.hid (D3.out.upd0 u4)
      clear u4 S3 D3 OA3 OB
      have A5 : Hid (Upd [] w4 (w4.alloc (.cells #[.pointer (some ⟨sm, 0, none⟩), .pointer (some ⟨sm, 0, none⟩)] 26))) := Lib.hid ((Upd.refl [] w4).alloc _)
      have R5 : Hid (Rd encSp (w4.alloc (.cells #[.pointer (some ⟨sm, 0, none⟩), .pointer (some ⟨sm, 0, none⟩)] 26)) (.slice (some ⟨w4.heap.size, 0, none⟩) 2 2) [some sm, some sm]) := Lib.hid (.of_blk (Blk.new w4 _ _) (m := 2) 2 rfl)
      go_wp2_with fail
      generalize (w4.alloc (.cells #[.pointer (some ⟨sm, 0, none⟩), .pointer (some ⟨sm, 0, none⟩)] 26)) = w5 at *
      have S5 := Lib.hid (S4.out.upd0 A5.out)
      have D5 := Lib.hid (D4.out.upd0 A5.out)
      have ML2 : Hid ([M', M'].flatten.length ≤ 480) := Lib.hid (by have := ML.out; simp; omega)
      refine (s_merge _ 2 2 [some sm, some sm] [M', M'] w5 R5.out rfl rfl (by omega) (fun i hi => ?_) (by have := ML2.out; omega)).mono ?_
      · match i, hi with
        | 0, _ => exact SnapV.of S5.out
        | 1, _ => exact SnapV.of S5.out
      rintro e w6 ⟨M2, sn, rfl, um2, sn6, u6⟩
      obtain rfl := um2.eq (Uni.twice UM.out.1)
      have N6 := Lib.hid sn6
      have S6 := Lib.hid (S5.out.upd0 u6)
      have D6 := Lib.hid (D5.out.upd0 u6)
      clear um2 sn6 u6 S5 D5 R5 A5 S4 D4
      go_wp2_with fail
      refine (s_all _ sn M2 w6 N6.out).mono ?_
      rintro e w7 ⟨vc, rfl, oc, u7⟩
      have OC := Lib.hid oc
      have S7 := Lib.hid (S6.out.upd0 u7)
      have D7 := Lib.hid (D6.out.upd0 u7)
      obtain ⟨Ac, cc, rfl, _, _⟩ := own_slice oc
      clear oc u7 S6 D6 N6
      go_wp2_with fail
      refine (s_all _ sm M2 w7 S7.out).mono ?_
      rintro e w8 ⟨vd, rfl, od, u8⟩
      have OD := Lib.hid od
      have OC8 := Lib.hid (OC.out.upd0 u8)
      have S8 := Lib.hid (S7.out.upd0 u8)
      have D8 := Lib.hid (D7.out.upd0 u8)
      obtain ⟨Ad, cd, rfl, _, _⟩ := own_slice od
      clear od u8 S7 D7 OC
      go_wp2_with fail
      refine (pairs_rd Ac Ad M2.length cc M2.length cd M2 M2 w8 OC8.out.rd OD.out.rd rfl rfl (by have := ML.out; omega) (by have := ML.out; omega)).mono ?_
      rintro e w9 ⟨rfl, u9⟩
      rw [decide_eq_true rfl]
      have S9 := Lib.hid (S8.out.upd0 u9)
      have D9 := Lib.hid (D8.out.upd0 u9)
      clear u9 S8 D8 OC8 OD
      go_wp2_with fail
      go_loopg [85] k (fun g v wr' => ∃ j : Nat, v = .int .i64 j ∧ g = k - j ∧ j ≤ k ∧ Hid (SnapIs wr.heap.size sm wr' M2) ∧ Hid (SMs w wr' (.slice A3 k c3) (.slice A4 k c4) os us rs))
      case atStart => exact ⟨0, rfl, rfl, Nat.zero_le _, S9, D9⟩
      case round =>
        obtain ⟨j, rfl, rfl, hj, S, D⟩ := hrel
        rename World => wx
        clear S9 D9
        by_cases hjk : j < k
        · have q1 : (j : Int) < (k : Int) := by omega
          have q0 : (0 : Int) ≤ (j : Int) := by omega
          obtain ⟨_, c3', e3, hc3, hcm⟩ := own_slice D.out.so
          injection e3 with e3a e3b e3c
          subst e3c
          rw [HL.out.1] at hc3
          unfold maxLen at hcm
          have q2 : (j : Int) ≤ (c3 : Int) := by omega
          have q3 : (k : Int) ≤ (c3 : Int) := by omega
          have q4 : (j : Int) ≤ (k : Int) := by omega
          clear e3a e3b
          have hkc : k ≤ c3 := by omega
          have F1 : Hid (∀ W, Upd [] wx.drew W → Rd encSp W (.slice A3 j c3) (os.take j)) := Lib.hid (fun W hW => (D.out.so.upd0 ((Upd.refl [] wx).drew.trans hW)).rd.take j (by rw [HL.out.1]; exact hj) c3)
          have F2 : Hid (∀ W, Upd [] wx.drew W → Rd encSp W (.slice (Option.map (fun x => x.add j) A3) (k - j) (c3 - j)) (os.drop j)) := Lib.hid (fun W hW => by
            have := (D.out.so.upd0 ((Upd.refl [] wx).drew.trans hW)).rd.drop j (by rw [HL.out.1]; exact hj) hkc (c3 - j)
            rw [if_neg (by omega), show j * encSp.s = j from Nat.mul_one j] at this
            exact this)
          have V1 : Hid (∀ W, Upd [] wx.drew W → ∀ i, i < j → SnapV W (spV ((os.take j).getD i none)) ((rs.take j).getD i [])) := Lib.hid (fun W hW i hi => by
            have := (D.out.upd0 ((Upd.refl [] wx).drew.trans hW)).snapV (i := i) (by rw [HL.out.1]; omega)
            rw [List.getD_eq_getElem?_getD, List.getD_eq_getElem?_getD, List.getElem?_take_of_lt hi, List.getElem?_take_of_lt hi, ← List.getD_eq_getElem?_getD, ← List.getD_eq_getElem?_getD]
            exact this)
          have V2 : Hid (∀ W, Upd [] wx.drew W → ∀ i, i < k - j → SnapV W (spV ((os.drop j).getD i none)) ((rs.drop j).getD i [])) := Lib.hid (fun W hW i hi => by
            have := (D.out.upd0 ((Upd.refl [] wx).drew.trans hW)).snapV (i := j + i) (by rw [HL.out.1]; omega)
            rw [List.getD_eq_getElem?_getD, List.getD_eq_getElem?_getD, List.getElem?_drop, List.getElem?_drop, ← List.getD_eq_getElem?_getD, ← List.getD_eq_getElem?_getD]
            exact this)
          have FS : Hid (rs.take j ++ rs.drop j = rs ∧ (rs.take j).flatten.length + (rs.drop j).flatten.length ≤ 240) := Lib.hid ⟨List.take_append_drop j rs, by
            have h1 := FL.out
            rw [← List.take_append_drop j rs, List.flatten_append, List.length_append] at h1
            exact h1⟩
          go_wp2_with fail
          refine wp_invNT0 11 [(3, snapSpec wx.heap.size (rs.take j)), (7, snapSpec wx.heap.size (rs.drop j)), (8, litSnap wx.heap.size (rs.take j) (rs.drop j)), (9, snapSpec wx.heap.size rs)] (by kernel_rfl) (by simp) (by kernel_rfl) (by kernel_rfl) ⟨lasts_snapSpec _ _ _, lasts_snapSpec _ _ _, lasts_litSnap _ _ _ _, lasts_snapSpec _ _ _, trivial⟩ ?_
          simp only [List.take_succ_cons, List.take_zero, List.drop_succ_cons, List.drop_zero]
          with_reducible apply wpV_light
          · simp only [lightOp]
          · intro W hU hF
            clear hU hF
            go_simp
            exact rfl
          simp only [Act.put, List.setIfInBounds_toArray, List.set_cons_zero, List.set_cons_succ]
          with_reducible apply wpV_light
          · simp only [lightOp]
          · intro W hU hF
            clear hU hF
            go_simp
            exact rfl
          simp only [Act.put, List.setIfInBounds_toArray, List.set_cons_zero, List.set_cons_succ]
          with_reducible apply wpV_light
          · simp only [lightOp]
          · intro W hU hF
            clear hU hF
            go_simp
            exact rfl
          simp only [Act.put, List.setIfInBounds_toArray, List.set_cons_zero, List.set_cons_succ]
          refine wpV_heavy (by simp only [lightOp]) (by rfl) (fun W hU hk hF K hK => ?_) ?_
          · go_wp2_with fail
            refine (s_merge A3 j c3 (os.take j) (rs.take j) W (F1.out W hU) (by rw [List.length_take, HL.out.1, Nat.min_eq_left hj]) (by rw [List.length_take, HL.out.2.2.1, Nat.min_eq_left hj]) (by omega) (V1.out W hU) (by have := FS.out.2; omega)).mono ?_
            rintro e w2 ⟨M, sb, rfl, h1, h2, u2⟩
            go_wp2_with fail
            exact hK.out _ _ (outV_new rfl ⟨sb, M, rfl, h1, h2.base hU.size⟩ (by intro b hb; cases hb) u2)
          rintro _ ⟨sa, rfl⟩
          simp only [Act.put, List.setIfInBounds_toArray, List.set_cons_zero, List.set_cons_succ]
          with_reducible apply wpV_light
          · simp only [lightOp]
          · intro W hU hF
            clear hU hF
            go_simp
            exact rfl
          simp only [Act.put, List.setIfInBounds_toArray, List.set_cons_zero, List.set_cons_succ]
          with_reducible apply wpV_light
          · simp only [lightOp]
          · intro W hU hF
            clear hU hF
            go_simp
            exact rfl
          simp only [Act.put, List.setIfInBounds_toArray, List.set_cons_zero, List.set_cons_succ]
          with_reducible apply wpV_light
          · simp only [lightOp]
          · intro W hU hF
            clear hU hF
            go_simp
            exact rfl
          simp only [Act.put, List.setIfInBounds_toArray, List.set_cons_zero, List.set_cons_succ]
          simp only [if_neg (show ¬ c3 = j by omega)]
          refine wpV_heavy (by simp only [lightOp]) (by rfl) (fun W hU hk hF K hK => ?_) ?_
          · go_wp2_with fail
            refine (s_merge (Option.map (fun x => x.add j) A3) (k - j) (c3 - j) (os.drop j) (rs.drop j) W (F2.out W hU) (by rw [List.length_drop, HL.out.1]) (by rw [List.length_drop, HL.out.2.2.1]) (by omega) (V2.out W hU) (by have := FS.out.2; omega)).mono ?_
            rintro e w2 ⟨M, sb, rfl, h1, h2, u2⟩
            go_wp2_with fail
            exact hK.out _ _ (outV_new rfl ⟨sb, M, rfl, h1, h2.base hU.size⟩ (by intro b hb; cases hb) u2)
          rintro _ ⟨sb, rfl⟩
          simp only [Act.put, List.setIfInBounds_toArray, List.set_cons_zero, List.set_cons_succ]
          refine wpV_heavy (by simp only [lightOp]) (by rfl) (fun W hU hk hF K hK => ?_) ?_
          · have h3 := hF.out.1 (by kernel_rfl)
            have h7 := hF.out.2.1 (by kernel_rfl)
            go_wp2_with fail
            obtain ⟨a, M1, e1, m1, n1⟩ := h3
            obtain ⟨b, M2', e2, m2, n2⟩ := h7
            injection e1 with e1
            injection e1 with e1
            injection e1 with e1
            injection e2 with e2
            injection e2 with e2
            injection e2 with e2
            subst e1 e2
            exact hK.out _ _ (outV_new rfl ⟨_, _, _, M1, M2', rfl, Blk.new _ _ _, m1, n1.upd0 ((Upd.refl [] _).alloc _), m2, n2.upd0 ((Upd.refl [] _).alloc _)⟩ (by intro b hb; cases hb) ((Upd.refl [] _).alloc _))
          rintro _ ⟨gl, rfl⟩
          simp only [Act.put, List.setIfInBounds_toArray, List.set_cons_zero, List.set_cons_succ]
          refine wpV_heavy (by simp only [lightOp]) (by rfl) (fun W hU hk hF K hK => ?_) ?_
          · obtain ⟨g', a, b, M1, M2', e1, hb, m1, n1, m2, n2⟩ := hF.out.2.2.1 (by kernel_rfl)
            injection e1 with e1 _ _
            injection e1 with e1
            injection e1 with e1
            subst e1
            go_wp2_with fail
            refine (s_merge _ 2 2 [some a, some b] [M1, M2'] W (.of_blk hb (m := 2) 2 rfl) rfl rfl (by omega) (fun i hi => ?_) (by have h1 := m1.len; have h2 := m2.len; have := FS.out.2; simp; omega)).mono ?_
            · match i, hi with
              | 0, _ => exact SnapV.of n1
              | 1, _ => exact SnapV.of n2
            rintro e w2 ⟨M, sc, rfl, h1, h2, u2⟩
            go_wp2_with fail
            exact hK.out _ _ (outV_new rfl ⟨sc, M, rfl, by rw [← FS.out.1]; exact m1.parts m2 h1, h2.base hU.size⟩ (by intro b hb; cases hb) u2)
          rintro _ ⟨sc, rfl⟩
          simp only [Act.put, List.setIfInBounds_toArray, List.set_cons_zero, List.set_cons_succ]
          with_reducible apply wpV_light
          · simp only [lightOp]
          · intro W hU hF
            clear hU hF
            go_simp
            exact rfl
          simp only [Act.put, List.setIfInBounds_toArray, List.set_cons_zero, List.set_cons_succ]
          refine wpV_end (fun W hU _ hF => ?_)
          obtain ⟨sc', M3, e1, m3, n3⟩ := hF.out.2.2.2.1 (by kernel_rfl)
          injection e1 with e1
          injection e1 with e1
          injection e1 with e1
          subst e1
          obtain rfl := m3.eq UM.out
          have UX : Hid (Upd [] wx W) := Lib.hid ((Upd.refl [] wx).drew.trans hU)
          have X3 := Lib.hid n3
          clear hU hF n3 m3
          refine wpT_end ?_
          have SX := Lib.hid (S.out.upd0 UX.out)
          have DX := Lib.hid (D.out.upd0 UX.out)
          clear S D F1 F2 V1 V2 UX
          go_wp2_with fail
          refine (s_all _ sc _ W X3.out).mono ?_
          rintro e w2 ⟨va, rfl, oa, u2⟩
          have OA := Lib.hid oa
          have S2 := Lib.hid (SX.out.upd0 u2)
          have D2 := Lib.hid (DX.out.upd0 u2)
          obtain ⟨Ax, cx, rfl, _, _⟩ := own_slice oa
          clear oa u2 SX DX X3
          go_wp2_with fail
          refine (s_all _ sm _ w2 S2.out).mono ?_
          rintro e w3 ⟨vb, rfl, ob, u3⟩
          have OB := Lib.hid ob
          have OA3 := Lib.hid (OA.out.upd0 u3)
          have S3 := Lib.hid (S2.out.upd0 u3)
          have D3 := Lib.hid (D2.out.upd0 u3)
          obtain ⟨Ay, cy, rfl, _, _⟩ := own_slice ob
          clear ob u3 S2 D2 OA
          go_wp2_with fail
          refine (pairs_rd Ax Ay _ cx _ cy _ _ w3 OA3.out.rd OB.out.rd rfl rfl (by have := ML.out; omega) (by have := ML.out; omega)).mono ?_
          rintro e w4 ⟨rfl, u4⟩
          rw [decide_eq_true rfl]
          have S4 := Lib.hid (S3.out.upd0 u4)
          have D4 := Lib.hid (D3.out.upd0 u4)
          clear u4 S3 D3 OA3 OB
          go_wp2_with fail
          go_roundg (k - (j + 1))
          case measure => omega
          case rel => exact ⟨j + 1, by go_num, rfl, by omega, S4, D4⟩
        · have U0 := Lib.hid D.out.u
          go_wp2_with fail
          refine (alive27 wx).mono ?_; rintro e w9 ⟨rfl, u9⟩
          have U9 := Lib.hid (U0.out.trans u9)
          clear u9
          go_wp2_with fail
          go_ret
          exact ⟨rfl, U9.out⟩
end Go.Proofs.Ythdjbflbhgbckaa

/-
  Package snap: Common.
-/
import Derived.Test.YthdjbflbhgbckaaParts
import Derived.Deep.Cut
import Derived.Deep.CutRange
set_option linter.unusedVariables false
namespace Go.Proofs.Ythdjbflbhgbckaa
open Go.RowKit Stab Snap Mrg
attribute [local go_sem] litStep_value

theorem all_any (v : Value) (r : PL) (w : World) (h : SnapV w v r) : Calls Try.prog 15 #[v] w fun e w' => ClonePPost r w e w' := by
  rcases h with ⟨rfl, rfl⟩ | ⟨B, sb, rfl, h⟩
  · exact s_all_nil w
  · exact s_all B sb r w h
theorem get_any (v : Value) (r : PL) (key : Int) (w : World) (h : SnapV w v r) : Calls Try.prog 30 #[v, .int .i64 key] w fun e w' => GetSPost r key w e w' := by
  rcases h with ⟨rfl, rfl⟩ | ⟨B, sb, rfl, h⟩
  · refine (s_get_nil key w).mono ?_
    rintro e w1 ⟨rfl, rfl⟩
    exact ⟨by rw [Assoc.get_nil]; rfl, .refl _ _⟩
  · exact s_get B sb r key w h
/-- In the midst of Common: w1 is the world behind All. -/
structure ComS (w1 wr : World) (ob : Nat) (vo : Value) (acc : PL) : Prop where
  u : Upd [ob] w1 wr
  o : Blk wr ob 68 #[vo, .bool true]
  ow : Ow encPr 42 wr w1.heap.size vo acc
theorem ComS.upd0 {w1 wr wx : World} {ob : Nat} {vo : Value} {acc : PL} (h : ComS w1 wr ob vo acc) (hu : Upd [] wr wx) : ComS w1 wx ob vo acc := ⟨h.u.trans (hu.mono (by simp)), h.o.upd hu (by simp), h.ow.upd0 hu⟩
theorem ComS.push {w1 wr wx : World} {ob : Nat} {vo v' : Value} {acc : PL} {p : Int × Int} (h : ComS w1 wr ob vo acc) (ho : Ow encPr 42 wx w1.heap.size v' (acc ++ [p])) (hu : Upd vo.ownBlock.toList wr wx) : ComS w1 (wx.setCell ⟨ob, 0, none⟩ v') ob v' (acc ++ [p]) := by
  have hb : Blk wx ob 68 #[vo, .bool true] := h.o.upd hu (fun hm => own_type h.ow h.o (by decide) (by simpa using hm))
  refine ⟨(h.u.trans' hu (fun x hx => .inr (own_blk h.ow hx).1)).setCell (.inl (by simp)) _, hb.set_eq rfl, ho.upd ((Upd.refl [ob] wx).setCell (.inl (by simp)) _) (fun x hx hm => own_type ho hb (by decide) (by rw [hx]; simpa using hm))⟩
theorem allHave_snoc {T : List PL} {p : Int × Int} {j : Nat} {l : PL} (h : T[j]? = some l) : allHave (T.take (j + 1)) p = (allHave (T.take j) p && decide (Assoc.get l p.1 = some p.2)) := by
  unfold allHave
  rw [List.take_add_one, h, List.all_append]
  simp
theorem allHave_fail {T : List PL} {p : Int × Int} {j : Nat} (h : allHave (T.take j) p = false) : allHave T p = false := by
  cases hT : allHave T p with
  | false => rfl
  | true =>
    unfold allHave at h hT
    rw [List.all_eq_true] at hT
    have : (T.take j).all (fun l => decide (Assoc.get l p.1 = some p.2)) = true := List.all_eq_true.2 (fun l hl => hT l (List.mem_of_mem_take hl))
    rw [this] at h
    cases h
def ComPost (L : List PL) (w : World) (e : Ending) (w' : World) : Prop := ∃ sb, e = .returned (.pointer (some ⟨sb, 0, none⟩)) ∧ SnapIs w.heap.size sb w' (comF L) ∧ Upd [] w w'
set_option maxRecDepth 100000 in
set_option maxHeartbeats 4000000 in
theorem s_common (A : Option Addr) (n c : Nat) (os : List (Option Nat)) (L : List PL) (w : World) (h : Rd encSp w (.slice A n c) os) (hn : os.length = n) (hl : L.length = n) (hN : n ≤ 900) (hnc : n ≤ c) (hc : c ≤ maxLen) (hs : ∀ i, i < n → SnapV w (spV (os.getD i none)) (L.getD i [])) :
    Calls Try.prog 25 #[.slice A n c] w fun e w' => ComPost L w e w' := by
  have H := Lib.hid h
  have HO := Lib.hid hn
  have HL := Lib.hid hl
  have HS := Lib.hid hs
  clear h hn hl hs
  obtain ⟨ob, hob⟩ : ∃ ob, w.heap.size = ob := ⟨_, rfl⟩
  have HOB := Lib.hid hob
  have A0 : Hid (Upd [] w (w.alloc (.cells #[.slice none 0 0, .bool true] 68))) := Lib.hid ((Upd.refl [] w).alloc _)
  have B0 : Hid (Blk (w.alloc (.cells #[.slice none 0 0, .bool true] 68)) ob 68 #[.slice none 0 0, .bool true]) := Lib.hid (by rw [← hob]; exact Blk.new w _ _)
  by_cases h0 : n = 0
  · subst h0
    have CN : Hid (comF L = []) := Lib.hid (by rw [List.length_eq_zero_iff.1 HL.out]; rfl)
    go_enter Try.func25, Try.ntmps25
    go_wp2_with fail
    go_ret
    refine ⟨ob, rfl, ?_, A0.out⟩
    rw [CN.out]
    exact ⟨Assoc.Srt.nil, by simp, Nat.le_of_eq HOB.out, none, 0, B0.out, Ow.nil _ _ _ _⟩
  · have d0 : ((n : Int) == 0) = false := by simpa using h0
    have q0 : (0 : Int) < (n : Int) := by omega
    obtain ⟨o, ho⟩ : ∃ o, os[0]? = some o := ⟨_, List.getElem?_eq_getElem (by rw [HO.out]; omega)⟩
    obtain ⟨ad, rfl, hadb, hcl⟩ := (H.out.upd0 A0.out).at_ ho
    have c0 : (w.alloc (.cells #[.slice none 0 0, .bool true] 68)).cell? ad = some (spV o) := by have := hcl 0 _ rfl; rwa [show ad.add (0 * encSp.s + 0) = ad by cases ad; rfl] at this
    have S0 : Hid (SnapV (w.alloc (.cells #[.slice none 0 0, .bool true] 68)) (spV o) (L.getD 0 [])) := Lib.hid (by have := HS.out 0 (by omega); rw [List.getD_eq_getElem?_getD (l := os), ho] at this; exact this.upd0 A0.out)
    clear hcl ho
    go_enter Try.func25, Try.ntmps25
    go_wp2_with fail
    refine (all_any (spV o) (L.getD 0 []) _ S0.out).mono ?_
    rintro e w1 ⟨va, rfl, oa, u1⟩
    obtain ⟨x, hx⟩ : ∃ x, L.getD 0 [] = x := ⟨_, rfl⟩
    have HX := Lib.hid hx
    rw [hx] at oa
    obtain ⟨m, hm⟩ : ∃ m, x.length = m := ⟨_, rfl⟩
    have HM := Lib.hid hm
    have hm1 : m ≤ 1000 := by have := S0.out.srt.2; rw [hx, hm] at this; exact this
    have XS : Hid (Assoc.Srt x) := Lib.hid (by have := S0.out.srt.1; rw [hx] at this; exact this)
    obtain ⟨Aa, ca, rfl, _, _⟩ := own_slice oa
    rw [hm] at oa ⊢
    have OA := Lib.hid oa
    have C1 : Hid (ComS w1 w1 ob (.slice none 0 0) []) := Lib.hid ⟨.refl _ _, B0.out.upd u1 (by simp), Ow.nil _ _ _ _⟩
    have BO := Lib.hid (B0.out.upd u1 (by simp))
    have U1 := Lib.hid (A0.out.trans u1)
    clear oa u1 hx hm c0 S0 hadb hob
    go_wp2_with fail
    go_loopw [22] (fun v wr => ∃ (k : Nat) (vo : Value), v = .int .i64 k ∧ k ≤ m ∧ Hid (ComS w1 wr ob vo ((x.take k).filter (allHave L.tail)))) (fun v _ => m - (intOf v).toNat)
    case atStart => exact ⟨0, _, rfl, Nat.zero_le _, C1⟩
    case round =>
      obtain ⟨k, vo, rfl, hk, C⟩ := hrel
      rename World => wr
      clear C1
      have UR : Hid (Upd [] w wr) := Lib.hid (U1.out.trans' C.out.u (fun x hx => .inr (by have := HOB.out; simp at hx; omega)))
      by_cases hkm : k < m
      · obtain ⟨p, hp⟩ : ∃ p, x[k]? = some p := ⟨_, List.getElem?_eq_getElem (by rw [HM.out]; exact hkm)⟩
        have OAR : Hid (Ow encPr 42 wr (w.alloc (.cells #[.slice none 0 0, .bool true] 68)).heap.size (.slice Aa m ca) x) := Lib.hid (OA.out.upd C.out.u (fun y hy hm => own_type OA.out BO.out (by decide) (by rw [hy]; simpa using hm)))
        obtain ⟨g, cg, cur, e1, -⟩ := own_form OAR.out (by rw [HM.out]; omega)
        injection e1 with e1 en e1'
        subst e1 e1'
        have k0 : wr.cell? ⟨g, k * 2, none⟩ = some (.int .i64 p.1) := OAR.out.at_ hp 0 _ rfl
        have k1 : wr.cell? ⟨g, k * 2 + 1, none⟩ = some (.int .i64 p.2) := OAR.out.at_ hp 1 _ rfl
        have q1 : (0 : Int) ≤ (k : Int) := by omega
        have q2 : (k : Int) < (m : Int) := by omega
        have q3 : (1 : Int) ≤ (n : Int) := by omega
        have q4 : (1 : Int) ≤ (c : Int) := by omega
        have q5 : (n : Int) ≤ (c : Int) := by omega
        have HP := Lib.hid hp
        have TK : Hid ((x.take (k + 1)).filter (allHave L.tail) = (x.take k).filter (allHave L.tail) ++ if allHave L.tail p then [p] else []) := Lib.hid (by
          rw [List.take_add_one, hp, List.filter_append]
          cases hh : allHave L.tail p <;> simp [hh])
        have TL : Hid (L.tail.length = n - 1) := Lib.hid (by rw [List.length_tail, HL.out])
        have HT : Hid (∀ j, L.tail.getD j [] = L.getD (j + 1) []) := Lib.hid (fun j => by rw [List.getD_eq_getElem?_getD, List.getD_eq_getElem?_getD, List.getElem?_tail])
        obtain ⟨pb, hpb⟩ : ∃ pb, wr.heap.size = pb := ⟨_, rfl⟩
        have PB : Hid (Blk (wr.alloc (.cells #[.int .i64 p.1, .int .i64 p.2] 42)) pb 42 #[.int .i64 p.1, .int .i64 p.2]) := Lib.hid (by rw [← hpb]; exact Blk.new wr _ _)
        have CA := Lib.hid (C.out.upd0 ((Upd.refl [] wr).alloc (.cells #[.int .i64 p.1, .int .i64 p.2] 42)))
        have UA := Lib.hid (UR.out.trans ((Upd.refl [] wr).alloc (.cells #[.int .i64 p.1, .int .i64 p.2] 42)))
        clear hp en C UR
        by_cases hc1 : c = 1
        · subst hc1
          have hn1 : n - 1 = 0 := by omega
          have hn1i : ((n - 1 : Nat) : Int) = 0 := by omega
          go_wp2_with fail
          clear k0 k1 hpb
          generalize (wr.alloc (.cells #[.int .i64 p.1, .int .i64 p.2] 42)) = w2 at *
          go_loopw [29, 6] (fun v vb wx => v = .int .i64 0 ∧ vb = .bool true ∧ Hid (Upd [] w2 wx)) (fun v _ _ => 0)
          case atStart => exact ⟨rfl, rfl, Lib.hid (.refl _ _)⟩
          case round =>
            obtain ⟨rfl, rfl, UX⟩ := hrel
            rename World => wx
            obtain ⟨b, hbb⟩ : ∃ b : Bool, true = b := ⟨_, rfl⟩
            have hb : Hid (b = allHave L.tail p) := Lib.hid (by rw [← hbb, show L.tail = [] from List.length_eq_zero_iff.1 (TL.out.trans hn1)]; rfl)
            have HB := hb
            cases hbb
            have CX := Lib.hid (CA.out.upd0 UX.out)
            have PX := Lib.hid (PB.out.upd UX.out (by simp))
            have UX2 := Lib.hid (UA.out.trans UX.out)
            clear CA PB UA UX HB
            have TK2 : Hid ((x.take (k + 1)).filter (allHave L.tail) = (x.take k).filter (allHave L.tail) ++ [p]) := Lib.hid (by rw [TK.out, ← hb.out]; simp)
            obtain ⟨Ax, cx, rfl, _, _⟩ := own_slice CX.out.ow
            obtain ⟨na, hna⟩ : ∃ na, ((x.take k).filter (allHave L.tail)).length = na := ⟨_, rfl⟩
            have NA := Lib.hid hna
            have hna1 : na ≤ 1000 := by
              rw [← hna]
              have h1 := (List.filter_sublist (l := x.take k) (p := allHave L.tail)).length_le
              have h2 := (List.take_sublist k x).length_le
              have := HM.out
              omega
            have OWH : Hid (wx.ownsRow w1.heap.size 42 2 (.slice Ax na cx) na (flat encPr ((x.take k).filter (allHave L.tail)))) := Lib.hid (by have := CX.out.ow; unfold Ow at this; rw [hna] at this; exact this)
            have OBH : Hid (Blk wx ob 68 #[.slice Ax na cx, .bool true]) := Lib.hid (by have := CX.out.o; rw [hna] at this; exact this)
            have CS : Hid (∀ W, Upd [] wx.drew W → W.cell? ⟨pb, 0, none⟩ = some (.int .i64 p.1) ∧ W.cell? ⟨pb, 1, none⟩ = some (.int .i64 p.2) ∧ W.cell? ⟨ob, 0, none⟩ = some (.slice Ax na cx)) := Lib.hid (fun W hW => by
              have hu : Upd [] wx W := (Upd.refl [] wx).drew.trans hW
              exact ⟨(PX.out.upd hu (by simp)).cell 0, (PX.out.upd hu (by simp)).cell 1, (OBH.out.upd hu (by simp)).cell 0⟩)
            rw [hna] at CX
            clear hna
            go_wp2_with fail
            refine wp_invNT 7 [(6, .lit 42 #[.int .i64 p.1, .int .i64 p.2] 1)] [] (by kernel_rfl) (by simp) (by kernel_rfl) (by kernel_rfl) ⟨lasts_lit _ _ _, trivial⟩ ?_
            simp only [List.take_succ_cons, List.take_zero, List.drop_succ_cons, List.drop_zero]
            with_reducible apply wpV_light
            · simp only [lightOp]
            · intro W hU hF
              have f0 := CS.out W hU
              clear hU hF
              go_simp
              exact rfl
            simp only [Act.put, List.setIfInBounds_toArray, List.set_cons_zero, List.set_cons_succ]
            with_reducible apply wpV_light
            · simp only [lightOp]
            · intro W hU hF
              have f0 := CS.out W hU
              clear hU hF
              go_simp
              exact rfl
            simp only [Act.put, List.setIfInBounds_toArray, List.set_cons_zero, List.set_cons_succ]
            with_reducible apply wpV_light
            · simp only [lightOp]
            · intro W hU hF
              have f0 := CS.out W hU
              clear hU hF
              go_simp
              exact rfl
            simp only [Act.put, List.setIfInBounds_toArray, List.set_cons_zero, List.set_cons_succ]
            with_reducible apply wpV_light
            · simp only [lightOp]
            · intro W hU hF
              have f0 := CS.out W hU
              clear hU hF
              go_simp
              exact rfl
            simp only [Act.put, List.setIfInBounds_toArray, List.set_cons_zero, List.set_cons_succ]
            with_reducible apply wpV_light
            · simp only [lightOp]
            · intro W hU hF
              have f0 := CS.out W hU
              clear hU hF
              go_simp
              exact rfl
            simp only [Act.put, List.setIfInBounds_toArray, List.set_cons_zero, List.set_cons_succ]
            with_reducible apply wpV_light
            · simp only [lightOp]
            · intro W hU hF
              have f0 := CS.out W hU
              clear hU hF
              go_simp
              exact rfl
            simp only [Act.put, List.setIfInBounds_toArray, List.set_cons_zero, List.set_cons_succ]
            refine wpV_heavy (by simp only [lightOp]) (by rfl) (fun W hU hk hF K hK => ?_) ?_
            · go_wp2_with fail
              exact wpV_lit hK rfl rfl rfl
            rintro _ ⟨g', rfl⟩
            simp only [Act.put, List.setIfInBounds_toArray, List.set_cons_zero, List.set_cons_succ]
            refine wpV_end (fun W hU _ hF => ?_)
            have U6 : Hid (Upd [] wx W) := Lib.hid ((Upd.refl [] wx).drew.trans hU)
            have LT : Hid (Blk W g' 42 #[.int .i64 p.1, .int .i64 p.2]) := Lib.hid (by
              obtain ⟨g2, he, hb⟩ := hF.out.1 (by kernel_rfl)
              injection he with he _ _
              injection he with he
              injection he with he
              subst he
              exact hb)
            clear hU hF
            refine wpT_op (by rfl) (fun K hK => ?_)
            have U1W : Hid (w1.heap.size ≤ W.heap.size) := Lib.hid (Nat.le_trans CX.out.u.size U6.out.size)
            refine wp_app W (.tmp 56) (.tmp 58) _ (by rfl) elem_pair (.slice Ax na cx) _ (by rfl) (by rfl) (own_upd0 OWH.out U6.out) (.of_blk LT.out (m := 1) 1 rfl) (by intro u hu; simp at hu; rcases hu with rfl | rfl <;> rfl) (by simp only [maxLen]; omega) (by omega) U1W.out ?_
            intro v7 w7 o7 u7 b7
            have O7 : Hid (Ow encPr 42 w7 w1.heap.size v7 ((x.take k).filter (allHave L.tail) ++ [p])) := Lib.hid (by unfold Ow; rw [List.length_append, NA.out, flat_append, flat_one_]; exact o7)
            have C7 := Lib.hid ((CX.out.upd0 U6.out).push O7.out u7)
            have OB7 : Hid (Blk w7 ob 68 #[.slice Ax na cx, .bool true]) := Lib.hid ((OBH.out.upd U6.out (by simp)).upd u7 (fun hm => own_type (own_upd0 OWH.out U6.out) (OBH.out.upd U6.out (by simp)) (by decide) (by simpa using hm)))
            obtain ⟨A7, c7, rfl, _, _⟩ := own_slice o7
            refine hK.out _ _ ?_
            clear hK K o7 u7 b7 O7
            simp only [Act.put, List.setIfInBounds_toArray, List.set_cons_zero, List.set_cons_succ]
            have f0 : w7.cell? ⟨ob, 0, none⟩ = some (.slice Ax na cx) := OB7.out.cell 0
            have f1 : w7.frozen? ⟨ob, 0, none⟩ = false := OB7.out.frozen 0
            have f2 : ob < w7.heap.size := OB7.out.lt
            refine wpT_op (by rfl) (fun K hK => ?_)
            go_wp2_with fail
            refine hK.out _ _ ?_
            clear hK K
            try simp only [Act.put, List.setIfInBounds_toArray, List.set_cons_zero, List.set_cons_succ]
            refine wpT_op (by rfl) (fun K hK => ?_)
            go_wp2_with fail
            refine hK.out _ _ ?_
            clear hK K
            try simp only [Act.put, List.setIfInBounds_toArray, List.set_cons_zero, List.set_cons_succ]
            refine wpT_op (by rfl) (fun K hK => ?_)
            go_wp2_with fail
            refine hK.out _ _ ?_
            clear hK K
            try simp only [Act.put, List.setIfInBounds_toArray, List.set_cons_zero, List.set_cons_succ]
            refine wpT_end ?_
            go_wp2_with fail
            go_roundw
            case rel => exact ⟨k + 1, _, by go_num, by omega, Lib.hid (by rw [TK2.out]; exact C7.out)⟩
            case measure => simp [intOf]; omega
        · go_wp2_with fail
          clear k0 k1 hpb
          generalize (wr.alloc (.cells #[.int .i64 p.1, .int .i64 p.2] 42)) = w2 at *
          go_loopw [29, 6] (fun v vb wx => ∃ (j : Nat) (b : Bool), v = .int .i64 j ∧ vb = .bool b ∧ j ≤ n - 1 ∧ Hid (b = allHave (L.tail.take j) p) ∧ Hid (Upd [] w2 wx)) (fun v _ _ => n - 1 - (intOf v).toNat)
          case atStart => exact ⟨0, true, rfl, rfl, Nat.zero_le _, Lib.hid rfl, Lib.hid (.refl _ _)⟩
          case round =>
            obtain ⟨j, b, rfl, rfl, hj, HB, UX⟩ := hrel
            rename World => wx
            by_cases hjn : j < n - 1
            · obtain ⟨o', ho'⟩ : ∃ o', os[j + 1]? = some o' := ⟨_, List.getElem?_eq_getElem (by rw [HO.out]; omega)⟩
              obtain ⟨ad', e1, _, hcl⟩ := (H.out.upd0 (UA.out.trans UX.out)).at_ ho'
              cases e1
              have cj : wx.cell? ⟨ad.block, ad.off + 1 + j, none⟩ = some (spV o') := by
                have := hcl 0 _ rfl
                rwa [show ad.add ((j + 1) * encSp.s + 0) = ⟨ad.block, ad.off + 1 + j, none⟩ by
                  rw [show (j + 1) * encSp.s + 0 = j + 1 from Nat.mul_one _]
                  unfold Addr.add
                  rw [if_neg (by omega)]
                  simp <;> omega] at this
              have p0 : wx.cell? ⟨pb, 0, none⟩ = some (.int .i64 p.1) := (PB.out.upd UX.out (by simp)).cell 0
              have r1 : (0 : Int) ≤ (j : Int) := by omega
              have r2 : (j : Int) < ((n - 1 : Nat) : Int) := by omega
              have SV : Hid (SnapV wx (spV o') (L.tail.getD j [])) := Lib.hid (by rw [HT.out]; have := HS.out (j + 1) (by omega); rw [List.getD_eq_getElem?_getD (l := os), ho'] at this; exact this.upd0 (UA.out.trans UX.out))
              obtain ⟨l, hl⟩ : ∃ l, L.tail.getD j [] = l := ⟨_, rfl⟩
              have AS : Hid (allHave (L.tail.take (j + 1)) p = (b && decide (Assoc.get l p.1 = some p.2))) := Lib.hid (by
                rw [HB.out]
                refine allHave_snoc ?_
                rw [← hl, List.getD_eq_getElem?_getD, List.getElem?_eq_getElem (by rw [TL.out]; exact hjn)]
                rfl)
              rw [hl] at SV
              clear hcl ho' hl
              go_wp2_with fail
              refine (get_any (spV o') l p.1 wx SV.out).mono ?_
              rintro e w3 ⟨rfl, u3⟩
              have U3 := Lib.hid (UX.out.trans u3)
              have p1 : w3.cell? ⟨pb, 1, none⟩ = some (.int .i64 p.2) := (PB.out.upd U3.out (by simp)).cell 1
              clear u3 cj p0
              cases b with
              | false =>
                have B2 : Hid (false = allHave (L.tail.take (j + 1)) p) := Lib.hid (by rw [AS.out]; rfl)
                go_wp2_with fail
                go_roundw
                case rel => exact ⟨j + 1, false, by go_num, rfl, by omega, B2, U3⟩
                case measure => simp [intOf]; omega
              | true =>
                cases hg : Assoc.get l p.1 with
                | none =>
                  have B2 : Hid (false = allHave (L.tail.take (j + 1)) p) := Lib.hid (by rw [AS.out, hg]; rfl)
                  clear hg
                  go_wp2_with fail
                  go_roundw
                  case rel => exact ⟨j + 1, false, by go_num, rfl, by omega, B2, U3⟩
                  case measure => simp [intOf]; omega
                | some v =>
                  obtain ⟨bv, hbv⟩ : ∃ bv, (v == p.2) = bv := ⟨_, rfl⟩
                  have B2 : Hid (bv = allHave (L.tail.take (j + 1)) p) := Lib.hid (by
                    rw [AS.out, hg, ← hbv]
                    by_cases hv : v = p.2
                    · subst hv; simp
                    · rw [beq_eq_false_iff_ne.2 hv, decide_eq_false (by intro e; injection e with e; exact hv e)]; rfl)
                  clear hg
                  go_wp2_with fail
                  go_roundw
                  case rel => exact ⟨j + 1, bv, by go_num, rfl, by omega, B2, U3⟩
                  case measure => simp [intOf]; omega
            · have hb : Hid (b = allHave L.tail p) := Lib.hid (by rw [HB.out, List.take_of_length_le (by rw [TL.out]; omega)])
              have CX := Lib.hid (CA.out.upd0 UX.out)
              have PX := Lib.hid (PB.out.upd UX.out (by simp))
              have UX2 := Lib.hid (UA.out.trans UX.out)
              clear CA PB UA UX HB
              cases b with
              | false =>
                have TK2 : Hid ((x.take (k + 1)).filter (allHave L.tail) = (x.take k).filter (allHave L.tail)) := Lib.hid (by rw [TK.out, ← hb.out]; simp)
                go_wp2_with fail
                go_roundw
                case rel => exact ⟨k + 1, vo, by go_num, by omega, Lib.hid (by rw [TK2.out]; exact CX.out)⟩
                case measure => simp [intOf]; omega
              | true =>
                have TK2 : Hid ((x.take (k + 1)).filter (allHave L.tail) = (x.take k).filter (allHave L.tail) ++ [p]) := Lib.hid (by rw [TK.out, ← hb.out]; simp)
                obtain ⟨Ax, cx, rfl, _, _⟩ := own_slice CX.out.ow
                obtain ⟨na, hna⟩ : ∃ na, ((x.take k).filter (allHave L.tail)).length = na := ⟨_, rfl⟩
                have NA := Lib.hid hna
                have hna1 : na ≤ 1000 := by
                  rw [← hna]
                  have h1 := (List.filter_sublist (l := x.take k) (p := allHave L.tail)).length_le
                  have h2 := (List.take_sublist k x).length_le
                  have := HM.out
                  omega
                have OWH : Hid (wx.ownsRow w1.heap.size 42 2 (.slice Ax na cx) na (flat encPr ((x.take k).filter (allHave L.tail)))) := Lib.hid (by have := CX.out.ow; unfold Ow at this; rw [hna] at this; exact this)
                have OBH : Hid (Blk wx ob 68 #[.slice Ax na cx, .bool true]) := Lib.hid (by have := CX.out.o; rw [hna] at this; exact this)
                have CS : Hid (∀ W, Upd [] wx.drew W → W.cell? ⟨pb, 0, none⟩ = some (.int .i64 p.1) ∧ W.cell? ⟨pb, 1, none⟩ = some (.int .i64 p.2) ∧ W.cell? ⟨ob, 0, none⟩ = some (.slice Ax na cx)) := Lib.hid (fun W hW => by
                  have hu : Upd [] wx W := (Upd.refl [] wx).drew.trans hW
                  exact ⟨(PX.out.upd hu (by simp)).cell 0, (PX.out.upd hu (by simp)).cell 1, (OBH.out.upd hu (by simp)).cell 0⟩)
                rw [hna] at CX
                clear hna
                go_wp2_with fail
                refine wp_invNT 7 [(6, .lit 42 #[.int .i64 p.1, .int .i64 p.2] 1)] [] (by kernel_rfl) (by simp) (by kernel_rfl) (by kernel_rfl) ⟨lasts_lit _ _ _, trivial⟩ ?_
                simp only [List.take_succ_cons, List.take_zero, List.drop_succ_cons, List.drop_zero]
                with_reducible apply wpV_light
                · simp only [lightOp]
                · intro W hU hF
                  have f0 := CS.out W hU
                  clear hU hF
                  go_simp
                  exact rfl
                simp only [Act.put, List.setIfInBounds_toArray, List.set_cons_zero, List.set_cons_succ]
                with_reducible apply wpV_light
                · simp only [lightOp]
                · intro W hU hF
                  have f0 := CS.out W hU
                  clear hU hF
                  go_simp
                  exact rfl
                simp only [Act.put, List.setIfInBounds_toArray, List.set_cons_zero, List.set_cons_succ]
                with_reducible apply wpV_light
                · simp only [lightOp]
                · intro W hU hF
                  have f0 := CS.out W hU
                  clear hU hF
                  go_simp
                  exact rfl
                simp only [Act.put, List.setIfInBounds_toArray, List.set_cons_zero, List.set_cons_succ]
                with_reducible apply wpV_light
                · simp only [lightOp]
                · intro W hU hF
                  have f0 := CS.out W hU
                  clear hU hF
                  go_simp
                  exact rfl
                simp only [Act.put, List.setIfInBounds_toArray, List.set_cons_zero, List.set_cons_succ]
                with_reducible apply wpV_light
                · simp only [lightOp]
                · intro W hU hF
                  have f0 := CS.out W hU
                  clear hU hF
                  go_simp
                  exact rfl
                simp only [Act.put, List.setIfInBounds_toArray, List.set_cons_zero, List.set_cons_succ]
                with_reducible apply wpV_light
                · simp only [lightOp]
                · intro W hU hF
                  have f0 := CS.out W hU
                  clear hU hF
                  go_simp
                  exact rfl
                simp only [Act.put, List.setIfInBounds_toArray, List.set_cons_zero, List.set_cons_succ]
                refine wpV_heavy (by simp only [lightOp]) (by rfl) (fun W hU hk hF K hK => ?_) ?_
                · go_wp2_with fail
                  exact wpV_lit hK rfl rfl rfl
                rintro _ ⟨g', rfl⟩
                simp only [Act.put, List.setIfInBounds_toArray, List.set_cons_zero, List.set_cons_succ]
                refine wpV_end (fun W hU _ hF => ?_)
                have U6 : Hid (Upd [] wx W) := Lib.hid ((Upd.refl [] wx).drew.trans hU)
                have LT : Hid (Blk W g' 42 #[.int .i64 p.1, .int .i64 p.2]) := Lib.hid (by
                  obtain ⟨g2, he, hb⟩ := hF.out.1 (by kernel_rfl)
                  injection he with he _ _
                  injection he with he
                  injection he with he
                  subst he
                  exact hb)
                clear hU hF
                refine wpT_op (by rfl) (fun K hK => ?_)
                have U1W : Hid (w1.heap.size ≤ W.heap.size) := Lib.hid (Nat.le_trans CX.out.u.size U6.out.size)
                refine wp_app W (.tmp 56) (.tmp 58) _ (by rfl) elem_pair (.slice Ax na cx) _ (by rfl) (by rfl) (own_upd0 OWH.out U6.out) (.of_blk LT.out (m := 1) 1 rfl) (by intro u hu; simp at hu; rcases hu with rfl | rfl <;> rfl) (by simp only [maxLen]; omega) (by omega) U1W.out ?_
                intro v7 w7 o7 u7 b7
                have O7 : Hid (Ow encPr 42 w7 w1.heap.size v7 ((x.take k).filter (allHave L.tail) ++ [p])) := Lib.hid (by unfold Ow; rw [List.length_append, NA.out, flat_append, flat_one_]; exact o7)
                have C7 := Lib.hid ((CX.out.upd0 U6.out).push O7.out u7)
                have OB7 : Hid (Blk w7 ob 68 #[.slice Ax na cx, .bool true]) := Lib.hid ((OBH.out.upd U6.out (by simp)).upd u7 (fun hm => own_type (own_upd0 OWH.out U6.out) (OBH.out.upd U6.out (by simp)) (by decide) (by simpa using hm)))
                obtain ⟨A7, c7, rfl, _, _⟩ := own_slice o7
                refine hK.out _ _ ?_
                clear hK K o7 u7 b7 O7
                simp only [Act.put, List.setIfInBounds_toArray, List.set_cons_zero, List.set_cons_succ]
                have f0 : w7.cell? ⟨ob, 0, none⟩ = some (.slice Ax na cx) := OB7.out.cell 0
                have f1 : w7.frozen? ⟨ob, 0, none⟩ = false := OB7.out.frozen 0
                have f2 : ob < w7.heap.size := OB7.out.lt
                refine wpT_op (by rfl) (fun K hK => ?_)
                go_wp2_with fail
                refine hK.out _ _ ?_
                clear hK K
                try simp only [Act.put, List.setIfInBounds_toArray, List.set_cons_zero, List.set_cons_succ]
                refine wpT_op (by rfl) (fun K hK => ?_)
                go_wp2_with fail
                refine hK.out _ _ ?_
                clear hK K
                try simp only [Act.put, List.setIfInBounds_toArray, List.set_cons_zero, List.set_cons_succ]
                refine wpT_op (by rfl) (fun K hK => ?_)
                go_wp2_with fail
                refine hK.out _ _ ?_
                clear hK K
                try simp only [Act.put, List.setIfInBounds_toArray, List.set_cons_zero, List.set_cons_succ]
                refine wpT_end ?_
                go_wp2_with fail
                go_roundw
                case rel => exact ⟨k + 1, _, by go_num, by omega, Lib.hid (by rw [TK2.out]; exact C7.out)⟩
                case measure => simp [intOf]; omega
      · obtain rfl : k = m := by omega
        have TKA : Hid (x.take k = x) := Lib.hid (List.take_of_length_le (by rw [HM.out]; exact Nat.le_refl _))
        obtain ⟨Ax, cx, rfl, _, _⟩ := own_slice C.out.ow
        go_wp2_with fail
        go_ret
        refine ⟨ob, rfl, ?_, UR.out⟩
        have hc : comF L = (x.take k).filter (allHave L.tail) := by unfold comF; rw [HX.out, TKA.out]
        rw [hc]
        have hl := (List.filter_sublist (l := x.take k) (p := allHave L.tail)).length_le
        have hl2 := (List.take_sublist k x).length_le
        have := HM.out
        exact ⟨srt_filter (by rw [TKA.out]; exact XS.out) _, by omega, Nat.le_of_eq HOB.out, Ax, cx, C.out.o, own_base C.out.ow U1.out.size⟩
end Go.Proofs.Ythdjbflbhgbckaa

/-
  stats.Busiest.
-/
import Derived.Test.YtiahnlaplkeiaaaDoorStQ
import Derived.Test.YtiahnlaplkeiaaaDoorDrawK
set_option linter.unusedVariables false
namespace Go.Proofs.YtiahnlaplkeiaaaDoor
open Go.RowKit St
attribute [local go_sem] litStep_value

theorem tals_at {L : List En} {k : Nat} {t : Int} (h : (thr L)[k]? = some t) : (tals L)[k]? = some (ofL (ofT L t)) := by unfold tals; rw [List.getElem?_map, h]; rfl
theorem tal_cells {w : World} {A : Option Addr} {n c k : Nat} {L : List Tal} {t : Tal} (h : Rd encT w (.slice A n c) L) (hk : L[k]? = some t) : ∃ ad : Addr, A = some ad ∧ ad.block < w.heap.size ∧
    w.cell? (ad.add (k * 8)) = some (.int .i64 t.dn) ∧ w.cell? ⟨(ad.add (k * 8)).block, (ad.add (k * 8)).off + 1, none⟩ = some (.int .i64 t.ab) ∧ w.cell? ⟨(ad.add (k * 8)).block, (ad.add (k * 8)).off + 2, none⟩ = some (.int .i64 t.bl) ∧
    w.cell? ⟨(ad.add (k * 8)).block, (ad.add (k * 8)).off + 3, none⟩ = some (.int .i64 t.cp) ∧ w.cell? ⟨(ad.add (k * 8)).block, (ad.add (k * 8)).off + 4, none⟩ = some (.int .i64 t.fl) ∧ w.cell? ⟨(ad.add (k * 8)).block, (ad.add (k * 8)).off + 5, none⟩ = some (.int .i64 t.wo) ∧
    w.cell? ⟨(ad.add (k * 8)).block, (ad.add (k * 8)).off + 6, none⟩ = some (.int .i64 t.tm) ∧ w.cell? ⟨(ad.add (k * 8)).block, (ad.add (k * 8)).off + 7, none⟩ = some (.int .i64 t.lg) := by
  obtain ⟨ad, h1, h2, hc⟩ := h.at_ hk
  refine ⟨ad, h1, h2, hc 0 _ rfl, ?_, ?_, ?_, ?_, ?_, ?_, ?_⟩
  · have := hc 1 _ rfl; rwa [show k * encT.s + 1 = k * 8 + (0 + 1) from rfl, add_more] at this
  · have := hc 2 _ rfl; rwa [show k * encT.s + 2 = k * 8 + (1 + 1) from rfl, add_more] at this
  · have := hc 3 _ rfl; rwa [show k * encT.s + 3 = k * 8 + (2 + 1) from rfl, add_more] at this
  · have := hc 4 _ rfl; rwa [show k * encT.s + 4 = k * 8 + (3 + 1) from rfl, add_more] at this
  · have := hc 5 _ rfl; rwa [show k * encT.s + 5 = k * 8 + (4 + 1) from rfl, add_more] at this
  · have := hc 6 _ rfl; rwa [show k * encT.s + 6 = k * 8 + (5 + 1) from rfl, add_more] at this
  · have := hc 7 _ rfl; rwa [show k * encT.s + 7 = k * 8 + (6 + 1) from rfl, add_more] at this
set_option maxRecDepth 100000 in
set_option maxHeartbeats 4000000 in
theorem busiest_ok (A : Option Addr) (n c : Nat) (L : List En) (w : World) (h : Rd encE w (.slice A n c) L) (hn : L.length = n) (hl : n ≤ 200) (he : ∀ x ∈ L, EB x) (hw : ∀ x ∈ L, inK .i64 x.th) :
    Calls Tryd.prog 15 #[.slice A n c] w fun e w' => e = .returned (.int .i64 (busyL L)) ∧ Upd [] w w' := by
  have BY := Lib.hid (by_ok A n c L w h hn hl he hw)
  have KL : Hid ((thr L).length ≤ 200) := Lib.hid (by have := thr_len L; omega)
  obtain ⟨f, hf⟩ : ∃ f, timeT L = f := ⟨_, rfl⟩
  have HF := Lib.hid hf
  have HB : Hid (busyL L = if bestA f (thr L) < 0 then -1 else (thr L).getD (bestA f (thr L)).toNat 0) := Lib.hid (by rw [← hf]; rfl)
  clear h hn he hw hf
  go_enter Tryd.func15, Tryd.ntmps15
  go_wp2_with fail
  refine BY.out.mono ?_
  rintro e w1 ⟨v, u, rfl, ov, ou, u1⟩
  have U1 := Lib.hid u1
  obtain ⟨q, hq⟩ : ∃ q, (thr L).length = q := ⟨_, rfl⟩
  have TL : (tals L).length = q := by unfold tals; rw [List.length_map, hq]
  obtain ⟨Av, cv, rfl, _, _⟩ := own_slice ov
  obtain ⟨Au, cu, rfl, _, _⟩ := own_slice ou
  have q100 : q ≤ 200 := hq ▸ KL.out
  have HQ := Lib.hid hq
  have HTL := Lib.hid TL
  rw [hq] at ov ⊢
  rw [TL]
  have OV := Lib.hid ov
  have OU : Hid (Rd encT w1 (.slice Au q cu) (tals L)) := Lib.hid (by rw [← TL]; exact Ow.rd ou)
  clear ov ou u1 hq TL KL BY
  go_wp2_with fail
  go_loopw [5, 15] (fun vb v wr => ∃ (k : Nat) (b : Int), v = .int .i64 k ∧ vb = .int .i64 b ∧ k ≤ q ∧ -1 ≤ b ∧ b < k ∧ Hid (Best f (thr L) k b) ∧ Hid (Upd [] w1 wr)) (fun _ v _ => q - (intOf v).toNat)
  case atStart => exact ⟨0, -1, rfl, rfl, by omega, by omega, by omega, Lib.hid (best_start _ _), Lib.hid (.refl _ _)⟩
  case round =>
    obtain ⟨k, b, rfl, rfl, hk, b1, b2, KB, KU⟩ := hrel
    by_cases hkn : k < q
    · obtain ⟨y, hy⟩ : ∃ y, (thr L)[k]? = some y := ⟨_, List.getElem?_eq_getElem (by rw [HQ.out]; exact hkn)⟩
      have HY := Lib.hid hy
      obtain ⟨ad, rfl, hlt, e0, e1, e2, e3, e4, e5, e6, e7⟩ := tal_cells (OU.out.upd0 KU.out) (tals_at hy)
      obtain ⟨⟨dn, wo, ab, bl, cp, fl, tm, lg⟩, hτ⟩ : ∃ τ, ofL (ofT L y) = τ := ⟨_, rfl⟩
      rw [hτ] at e0 e1 e2 e3 e4 e5 e6 e7
      simp only at e0 e1 e2 e3 e4 e5 e6 e7
      have FY : Hid (f y = tm) := Lib.hid (by rw [← HF.out]; unfold timeT; rw [hτ])
      have q1 : (0 : Int) ≤ (k : Int) := by omega
      have q2 : (k : Int) < (q : Int) := by omega
      clear hy hτ
      go_wp2_with fail
      obtain ⟨xb, hxb⟩ : ∃ xb, wr.heap.size = xb := ⟨_, rfl⟩
      have X1 : Hid (Blk (wr.alloc (.cells #[.int .i64 dn, .int .i64 ab, .int .i64 bl, .int .i64 cp, .int .i64 fl, .int .i64 wo, .int .i64 tm, .int .i64 lg] 26)) xb 26 #[.int .i64 dn, .int .i64 ab, .int .i64 bl, .int .i64 cp, .int .i64 fl, .int .i64 wo, .int .i64 tm, .int .i64 lg]) := Lib.hid (by rw [← hxb]; exact Blk.new _ _ _)
      have U5 : Hid (Upd [] w1 (wr.alloc (.cells #[.int .i64 dn, .int .i64 ab, .int .i64 bl, .int .i64 cp, .int .i64 fl, .int .i64 wo, .int .i64 tm, .int .i64 lg] 26))) := Lib.hid (KU.out.alloc _)
      rw [hxb]
      generalize (wr.alloc (.cells #[.int .i64 dn, .int .i64 ab, .int .i64 bl, .int .i64 cp, .int .i64 fl, .int .i64 wo, .int .i64 tm, .int .i64 lg] 26)) = w5 at *
      clear e0 e1 e2 e3 e4 e5 e6 e7 hxb hlt
      by_cases hb : b < 0
      · have hb1 : b = -1 := by omega
        subst hb1
        have CS : Hid (∀ W, Upd [] w5.drew W → W.cell? ⟨xb, 6, none⟩ = some (.int .i64 tm)) := Lib.hid (fun W hW => (X1.out.upd ((Upd.refl [] w5).drew.trans hW) (by simp)).cell 6)
        refine wp_invN [] [] (by kernel_rfl) (by kernel_rfl) (by kernel_rfl) trivial ?_
        with_reducible apply wpV_light
        · simp only [lightOp]
        · intro W hU hF
          have f0 := CS.out W hU
          clear hU hF
          go_simp
          exact rfl
        simp only [Act.put, List.setIfInBounds_toArray, List.set_cons_zero, List.set_cons_succ]
        with_reducible apply wpV_light
        · simp only [lightOp]
        · intro W hU hF
          have f0 := CS.out W hU
          clear hU hF
          go_simp
          exact rfl
        simp only [Act.put, List.setIfInBounds_toArray, List.set_cons_zero, List.set_cons_succ]
        with_reducible apply wpV_light
        · simp only [lightOp]
        · intro W hU hF
          have f0 := CS.out W hU
          clear hU hF
          go_simp
          exact rfl
        simp only [Act.put, List.setIfInBounds_toArray, List.set_cons_zero, List.set_cons_succ]
        refine wpV_skip (by rfl) (by simp only [lightOp]) ?_
        simp only [Act.put, List.setIfInBounds_toArray, List.set_cons_zero, List.set_cons_succ]
        refine wpV_skip (by rfl) (by simp only [lightOp]) ?_
        simp only [Act.put, List.setIfInBounds_toArray, List.set_cons_zero, List.set_cons_succ]
        refine wpV_skip (by rfl) (by simp only [lightOp]) ?_
        simp only [Act.put, List.setIfInBounds_toArray, List.set_cons_zero, List.set_cons_succ]
        refine wpV_skip (by rfl) (by simp only [lightOp]) ?_
        simp only [Act.put, List.setIfInBounds_toArray, List.set_cons_zero, List.set_cons_succ]
        refine wpV_skip (by rfl) (by simp only [lightOp]) ?_
        simp only [Act.put, List.setIfInBounds_toArray, List.set_cons_zero, List.set_cons_succ]
        refine wpV_skip (by rfl) (by simp only [lightOp]) ?_
        simp only [Act.put, List.setIfInBounds_toArray, List.set_cons_zero, List.set_cons_succ]
        refine wpV_skip (by rfl) (by simp only [lightOp]) ?_
        simp only [Act.put, List.setIfInBounds_toArray, List.set_cons_zero, List.set_cons_succ]
        refine wpV_skip (by rfl) (by simp only [lightOp]) ?_
        simp only [Act.put, List.setIfInBounds_toArray, List.set_cons_zero, List.set_cons_succ]
        with_reducible apply wpV_light
        · simp only [lightOp]
        · intro W hU hF
          have f0 := CS.out W hU
          clear hU hF
          go_simp
          exact rfl
        simp only [Act.put, List.setIfInBounds_toArray, List.set_cons_zero, List.set_cons_succ]
        refine wpV_end (fun W hU _ hF => ?_)
        have U6 : Hid (Upd [] w1 W) := Lib.hid (U5.out.trans ((Upd.refl [] w5).drew.trans hU))
        clear hU hF
        refine wpT_end ?_
        go_wp2_with fail
        go_roundw
        case rel => exact ⟨k + 1, k, by go_num, by go_num, by omega, by omega, by omega, Lib.hid (best_take KB.out HY.out (.inl hb)), U6⟩
        case measure => simp [intOf]; omega
      · obtain ⟨j, rfl⟩ : ∃ j : Nat, b = j := ⟨b.toNat, by omega⟩
        obtain ⟨z, hz⟩ : ∃ z, (thr L)[j]? = some z := ⟨_, List.getElem?_eq_getElem (by rw [HQ.out]; omega)⟩
        have FZ : Hid ((thr L).getD (j : Int).toNat 0 = z) := Lib.hid (by rw [Int.toNat_natCast, List.getD_eq_getElem?_getD, hz]; rfl)
        obtain ⟨tz, htz⟩ : ∃ tz, f z = tz := ⟨_, rfl⟩
        have CS : Hid (∀ W, Upd [] w5.drew W → W.cell? ⟨xb, 6, none⟩ = some (.int .i64 tm) ∧ W.cell? ⟨(ad.add (j * 8)).block, (ad.add (j * 8)).off + 6, none⟩ = some (.int .i64 tz)) := Lib.hid (fun W hW => by
          have hu := (Upd.refl [] w5).drew.trans hW
          refine ⟨(X1.out.upd hu (by simp)).cell 6, ?_⟩
          obtain ⟨ad', ha, _, _, _, _, _, _, _, e6, _⟩ := tal_cells (OU.out.upd0 (U5.out.trans hu)) (tals_at hz)
          cases ha
          rw [e6, ← htz, ← HF.out]
          rfl)
        have FT : Hid (f z = tz) := Lib.hid htz
        have p1 : (0 : Int) ≤ (j : Int) := by omega
        have p2 : (j : Int) < (q : Int) := by omega
        have p3 : ((j : Int) < 0) = False := by simp
        clear hz htz
        by_cases hc : tz < tm
        · have dc : decide (tz < tm) = true := by simpa using hc
          refine wp_invN [] [] (by kernel_rfl) (by kernel_rfl) (by kernel_rfl) trivial ?_
          with_reducible apply wpV_light
          · simp only [lightOp]
          · intro W hU hF
            have f0 := CS.out W hU
            clear hU hF
            go_simp
            exact rfl
          simp only [Act.put, List.setIfInBounds_toArray, List.set_cons_zero, List.set_cons_succ]
          with_reducible apply wpV_light
          · simp only [lightOp]
          · intro W hU hF
            have f0 := CS.out W hU
            clear hU hF
            go_simp
            exact rfl
          simp only [Act.put, List.setIfInBounds_toArray, List.set_cons_zero, List.set_cons_succ]
          with_reducible apply wpV_light
          · simp only [lightOp]
          · intro W hU hF
            have f0 := CS.out W hU
            clear hU hF
            go_simp
            exact rfl
          simp only [Act.put, List.setIfInBounds_toArray, List.set_cons_zero, List.set_cons_succ]
          with_reducible apply wpV_light
          · simp only [lightOp]
          · intro W hU hF
            have f0 := CS.out W hU
            clear hU hF
            go_simp
            exact rfl
          simp only [Act.put, List.setIfInBounds_toArray, List.set_cons_zero, List.set_cons_succ]
          with_reducible apply wpV_light
          · simp only [lightOp]
          · intro W hU hF
            have f0 := CS.out W hU
            clear hU hF
            go_simp
            exact rfl
          simp only [Act.put, List.setIfInBounds_toArray, List.set_cons_zero, List.set_cons_succ]
          with_reducible apply wpV_light
          · simp only [lightOp]
          · intro W hU hF
            have f0 := CS.out W hU
            clear hU hF
            go_simp
            exact rfl
          simp only [Act.put, List.setIfInBounds_toArray, List.set_cons_zero, List.set_cons_succ]
          with_reducible apply wpV_light
          · simp only [lightOp]
          · intro W hU hF
            have f0 := CS.out W hU
            clear hU hF
            go_simp
            exact rfl
          simp only [Act.put, List.setIfInBounds_toArray, List.set_cons_zero, List.set_cons_succ]
          with_reducible apply wpV_light
          · simp only [lightOp]
          · intro W hU hF
            have f0 := CS.out W hU
            clear hU hF
            go_simp
            exact rfl
          simp only [Act.put, List.setIfInBounds_toArray, List.set_cons_zero, List.set_cons_succ]
          with_reducible apply wpV_light
          · simp only [lightOp]
          · intro W hU hF
            have f0 := CS.out W hU
            clear hU hF
            go_simp
            exact rfl
          simp only [Act.put, List.setIfInBounds_toArray, List.set_cons_zero, List.set_cons_succ]
          with_reducible apply wpV_light
          · simp only [lightOp]
          · intro W hU hF
            have f0 := CS.out W hU
            clear hU hF
            go_simp
            exact rfl
          simp only [Act.put, List.setIfInBounds_toArray, List.set_cons_zero, List.set_cons_succ]
          with_reducible apply wpV_light
          · simp only [lightOp]
          · intro W hU hF
            have f0 := CS.out W hU
            clear hU hF
            go_simp
            exact rfl
          simp only [Act.put, List.setIfInBounds_toArray, List.set_cons_zero, List.set_cons_succ]
          with_reducible apply wpV_light
          · simp only [lightOp]
          · intro W hU hF
            have f0 := CS.out W hU
            clear hU hF
            go_simp
            exact rfl
          simp only [Act.put, List.setIfInBounds_toArray, List.set_cons_zero, List.set_cons_succ]
          refine wpV_end (fun W hU _ hF => ?_)
          have U6 : Hid (Upd [] w1 W) := Lib.hid (U5.out.trans ((Upd.refl [] w5).drew.trans hU))
          clear hU hF
          refine wpT_end ?_
          go_wp2_with fail
          go_roundw
          case rel => exact ⟨k + 1, k, by go_num, by go_num, by omega, by omega, by omega, Lib.hid (best_take KB.out HY.out (.inr (by rw [FZ.out, FT.out, FY.out]; exact hc))), U6⟩
          case measure => simp [intOf]; omega
        · have dc : decide (tz < tm) = false := by simpa using hc
          refine wp_invN [] [] (by kernel_rfl) (by kernel_rfl) (by kernel_rfl) trivial ?_
          with_reducible apply wpV_light
          · simp only [lightOp]
          · intro W hU hF
            have f0 := CS.out W hU
            clear hU hF
            go_simp
            exact rfl
          simp only [Act.put, List.setIfInBounds_toArray, List.set_cons_zero, List.set_cons_succ]
          with_reducible apply wpV_light
          · simp only [lightOp]
          · intro W hU hF
            have f0 := CS.out W hU
            clear hU hF
            go_simp
            exact rfl
          simp only [Act.put, List.setIfInBounds_toArray, List.set_cons_zero, List.set_cons_succ]
          with_reducible apply wpV_light
          · simp only [lightOp]
          · intro W hU hF
            have f0 := CS.out W hU
            clear hU hF
            go_simp
            exact rfl
          simp only [Act.put, List.setIfInBounds_toArray, List.set_cons_zero, List.set_cons_succ]
          with_reducible apply wpV_light
          · simp only [lightOp]
          · intro W hU hF
            have f0 := CS.out W hU
            clear hU hF
            go_simp
            exact rfl
          simp only [Act.put, List.setIfInBounds_toArray, List.set_cons_zero, List.set_cons_succ]
          with_reducible apply wpV_light
          · simp only [lightOp]
          · intro W hU hF
            have f0 := CS.out W hU
            clear hU hF
            go_simp
            exact rfl
          simp only [Act.put, List.setIfInBounds_toArray, List.set_cons_zero, List.set_cons_succ]
          with_reducible apply wpV_light
          · simp only [lightOp]
          · intro W hU hF
            have f0 := CS.out W hU
            clear hU hF
            go_simp
            exact rfl
          simp only [Act.put, List.setIfInBounds_toArray, List.set_cons_zero, List.set_cons_succ]
          with_reducible apply wpV_light
          · simp only [lightOp]
          · intro W hU hF
            have f0 := CS.out W hU
            clear hU hF
            go_simp
            exact rfl
          simp only [Act.put, List.setIfInBounds_toArray, List.set_cons_zero, List.set_cons_succ]
          with_reducible apply wpV_light
          · simp only [lightOp]
          · intro W hU hF
            have f0 := CS.out W hU
            clear hU hF
            go_simp
            exact rfl
          simp only [Act.put, List.setIfInBounds_toArray, List.set_cons_zero, List.set_cons_succ]
          with_reducible apply wpV_light
          · simp only [lightOp]
          · intro W hU hF
            have f0 := CS.out W hU
            clear hU hF
            go_simp
            exact rfl
          simp only [Act.put, List.setIfInBounds_toArray, List.set_cons_zero, List.set_cons_succ]
          with_reducible apply wpV_light
          · simp only [lightOp]
          · intro W hU hF
            have f0 := CS.out W hU
            clear hU hF
            go_simp
            exact rfl
          simp only [Act.put, List.setIfInBounds_toArray, List.set_cons_zero, List.set_cons_succ]
          with_reducible apply wpV_light
          · simp only [lightOp]
          · intro W hU hF
            have f0 := CS.out W hU
            clear hU hF
            go_simp
            exact rfl
          simp only [Act.put, List.setIfInBounds_toArray, List.set_cons_zero, List.set_cons_succ]
          with_reducible apply wpV_light
          · simp only [lightOp]
          · intro W hU hF
            have f0 := CS.out W hU
            clear hU hF
            go_simp
            exact rfl
          simp only [Act.put, List.setIfInBounds_toArray, List.set_cons_zero, List.set_cons_succ]
          refine wpV_end (fun W hU _ hF => ?_)
          have U6 : Hid (Upd [] w1 W) := Lib.hid (U5.out.trans ((Upd.refl [] w5).drew.trans hU))
          clear hU hF
          refine wpT_end ?_
          go_wp2_with fail
          go_roundw
          case rel => exact ⟨k + 1, j, by go_num, by go_num, by omega, by omega, by omega, Lib.hid (best_skip KB.out HY.out hb (by rw [FZ.out, FT.out, FY.out]; exact hc)), U6⟩
          case measure => simp [intOf]; omega
    · obtain rfl : k = q := by omega
      have BE : Hid (bestA f (thr L) = b) := Lib.hid (best_end (by rw [HQ.out]; exact KB.out))
      by_cases hb : b < 0
      · have HR : Hid (busyL L = -1) := Lib.hid (by rw [HB.out, BE.out, if_pos hb])
        have hb1 : b = -1 := by omega
        subst hb1
        go_wp2_with fail
        go_ret
        rw [HR.out]
        exact ⟨rfl, U1.out.trans KU.out⟩
      · obtain ⟨j, rfl⟩ : ∃ j : Nat, b = j := ⟨b.toNat, by omega⟩
        obtain ⟨z, hz⟩ : ∃ z, (thr L)[j]? = some z := ⟨_, List.getElem?_eq_getElem (by rw [HQ.out]; omega)⟩
        have HR : Hid (busyL L = z) := Lib.hid (by rw [HB.out, BE.out, if_neg hb, Int.toNat_natCast, List.getD_eq_getElem?_getD, hz]; rfl)
        obtain ⟨g, cg, cur, eg, hg, _⟩ := own_form OV.out (by omega)
        injection eg with eg _ eg'
        subst eg eg'
        have e0 : wr.cell? ⟨g, j, none⟩ = some (.int .i64 z) := own_cell (own_upd0 OV.out KU.out) j _ (by rw [List.getElem?_map, hz]; rfl)
        have p1 : (0 : Int) ≤ (j : Int) := by omega
        have p2 : (j : Int) < (k : Int) := by omega
        have p3 : ((j : Int) < 0) = False := by simp
        clear hz
        go_wp2_with fail
        go_ret
        rw [HR.out]
        exact ⟨rfl, U1.out.trans KU.out⟩
end Go.Proofs.YtiahnlaplkeiaaaDoor

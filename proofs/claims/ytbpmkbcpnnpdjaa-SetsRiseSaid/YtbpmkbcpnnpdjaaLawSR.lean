/-
  SetsRise, the walk.
-/
import Derived.Test.YtbpmkbcpnnpdjaaActC
import Derived.Test.YtbpmkbcpnnpdjaaSAlive
set_option linter.unusedVariables false
namespace Go.Proofs.Ytbpmkbcpnnpdjaa
open Go.RowKit Assoc SP
attribute [local go_sem] litStep_value

/-- Sets that are written alone. -/
abbrev wS (W : AL) : SS := ⟨[], W, [], []⟩
theorem wS_write {W : AL} (c x : Int) (h : wErr W c = 0) : sWrite (wS W) c x = wS (put W c x) := by
  unfold sWrite
  rw [if_pos h]
  rfl
theorem wErr0 {W : AL} (c : Int) (h : W.length < 500) : wErr W c = 0 := by
  unfold wErr
  rw [if_neg (by omega)]
set_option maxRecDepth 100000 in
set_option maxHeartbeats 8000000 in
theorem law_srise (A : Option Addr) (n c : Nat) (L : List PAct) (w : World) (hA : Rd encP w (.slice A n c) L) (hn : L.length = n) (hnc : n ≤ c) (hcm : c ≤ maxLen) :
    Calls Try.prog 3 #[.slice A n c] w fun e w' => e = .returned (.bool true) ∧ Upd [] w w' := by
  have HA := Lib.hid hA
  have HN := Lib.hid hn
  unfold maxLen at hcm
  clear hA hn
  go_enter Try.func3, Try.ntmps3
  go_wp2_with fail
  refine (s_new w).mono ?_; rintro e w1 ⟨sb, am, wm, F, rfl, s1, u1⟩
  have S1 := Lib.hid s1
  have U1 := Lib.hid u1
  clear s1 u1
  by_cases h8 : 80 < n
  · have d : decide ((80 : Int) < (n : Int)) = true := by simp; omega
    go_wp2_with fail
    refine (s_alive w1).mono ?_; rintro e w2 ⟨rfl, u2⟩
    have U2 := Lib.hid (U1.out.trans u2)
    clear u2
    go_wp2_with fail
    go_ret
    exact ⟨rfl, U2.out⟩
  · have d : decide ((80 : Int) < (n : Int)) = false := by simp; omega
    have hn8 : n ≤ 80 := by omega
    go_wp2_with fail
    go_loopw [31] (fun v wr => ∃ k : Nat, v = .int .i64 k ∧ k ≤ n ∧ Hid ((∃ F, Sets w.heap.size sb am wm F wr (wS (wrL (L.take k)))) ∧ Upd [] w wr)) (fun v _ => n - (intOf v).toNat)
    case atStart => exact ⟨0, rfl, by omega, Lib.hid ⟨⟨F, S1.out⟩, U1.out⟩⟩
    case round =>
      obtain ⟨k, rfl, hk, HKK⟩ := hrel
      obtain ⟨⟨Fk, hs⟩, hu⟩ := HKK.out
      clear HKK
      have SK := Lib.hid hs
      have UK := Lib.hid hu
      clear hs hu S1 U1
      by_cases hkn : k < n
      · obtain ⟨⟨ak, ac, ax, an⟩, hx⟩ : ∃ x, L[k]? = some x := ⟨_, List.getElem?_eq_getElem (by rw [HN.out]; exact hkn)⟩
        obtain ⟨ad, rfl, hlt, e0, e1, e2, e3⟩ := pact_cells (HA.out.upd0 UK.out) hx
        have TK := Lib.hid (take_more hx)
        have q1 : (0 : Int) ≤ (k : Int) := by omega
        have q2 : (k : Int) < (n : Int) := by omega
        clear hx
        go_wp2_with fail
        have UA : Hid (Upd [] wr (wr.alloc (.cells #[.int .i64 ak, .int .u64 ac, .int .u64 ax, .int .i64 an] 28))) := Lib.hid ((Upd.refl [] wr).alloc _)
        have YA : Hid (Blk (wr.alloc (.cells #[.int .i64 ak, .int .u64 ac, .int .u64 ax, .int .i64 an] 28)) wr.heap.size 28 #[.int .i64 ak, .int .u64 ac, .int .u64 ax, .int .i64 an]) := Lib.hid (Blk.new wr _ _)
        generalize (wr.alloc (.cells #[.int .i64 ak, .int .u64 ac, .int .u64 ax, .int .i64 an] 28)) = w5 at *
        have y1 : w5.cell? ⟨wr.heap.size, 1, none⟩ = some (.int .u64 ac) := YA.out.cell 1
        have y2 : w5.cell? ⟨wr.heap.size, 2, none⟩ = some (.int .u64 ax) := YA.out.cell 2
        have E0 : Hid (wErr (wrL (L.take k)) ac = 0) := Lib.hid (wErr0 _ (by have := wrL_len (L.take k); rw [List.length_take] at this; omega))
        have US := Lib.hid (UK.out.trans UA.out)
        go_wp2_with fail
        refine (s_write w.heap.size sb am wm Fk (wS (wrL (L.take k))) ac ax w5 (SK.out.upd0 UA.out) US.out.size (by simp)).mono ?_
        rintro e w6 ⟨va, F6, rfl, ea, h6, f6⟩
        rw [E0.out] at ea
        obtain rfl := ea.nils
        have S6 : Hid (Sets w.heap.size sb am wm F6 w6 (wS (wrL (L.take (k + 1))))) := Lib.hid (by rw [TK.out, wrL_snoc, ← wS_write _ _ E0.out]; exact h6)
        have U6 := Lib.hid ((SK.out.upd0 UA.out).rest US.out f6)
        clear ea h6 f6 e0 e1 e2 e3 y1 y2
        go_wp2_with fail
        refine (no_nil _).mono ?_; rintro e w' ⟨rfl, rfl⟩
        go_wp2_with fail
        go_roundw
        case rel => exact ⟨k + 1, by go_num, by omega, Lib.hid ⟨⟨F6, S6.out⟩, U6.out⟩⟩
        case measure => simp [intOf]; omega
      · obtain rfl : k = n := by omega
        obtain ⟨W, hW⟩ : ∃ W, wrL L = W := ⟨_, rfl⟩
        have HW := Lib.hid hW
        have S3 : Hid (Sets w.heap.size sb am wm Fk wr (wS W)) := Lib.hid (by have := SK.out; rwa [List.take_of_length_le (by rw [HN.out]; exact Nat.le_refl _), hW] at this)
        have SW : Hid (Srt W) := Lib.hid (hW ▸ wrL_srt L)
        obtain ⟨m, hm⟩ : ∃ m, W.length = m := ⟨_, rfl⟩
        have HM := Lib.hid hm
        have hm8 : m ≤ 80 := by rw [← hm, ← hW]; have := wrL_len L; rw [HN.out] at this; omega
        clear hW hm SK
        go_wp2_with fail
        refine (s_writes w.heap.size sb am wm Fk (wS W) wr S3.out).mono ?_
        rintro e w3 ⟨vw, rfl, o3, u3⟩
        obtain ⟨Aw, cw, rfl, _, _⟩ := own_slice o3
        have OW : Hid (w3.ownsRow wr.heap.size 38 2 (.slice Aw m cw) m (flat encW W)) := Lib.hid (by have := o3; unfold Ow at this; rw [show (wS W).W = W from rfl, HM.out] at this; exact this)
        have OR := Lib.hid o3
        rw [show (wS W).W = W from rfl, HM.out] at OR
        have S4 := Lib.hid (S3.out.upd0 u3)
        have U4 := Lib.hid (UK.out.trans u3)
        rw [show (wS W).W.length = m from HM.out]
        clear o3 u3 S3 UK
        go_wp2_with fail
        go_loopw [48] (fun v wr => ∃ k : Nat, v = .int .i64 k ∧ k ≤ m ∧ Hid (Upd [] w3 wr)) (fun v _ => m - (intOf v).toNat)
        case atStart => exact ⟨0, rfl, by omega, Lib.hid (.refl _ _)⟩
        case round =>
          obtain ⟨i, rfl, hi, UI⟩ := hrel
          rename World => wi
          have SI := Lib.hid (S4.out.upd0 UI.out)
          have UJ := Lib.hid (U4.out.trans UI.out)
          by_cases him : i < m
          · obtain ⟨⟨xc, xv⟩, hx⟩ : ∃ x, W[i]? = some x := ⟨_, List.getElem?_eq_getElem (by rw [HM.out]; exact him)⟩
            obtain ⟨gw, cg, cur, e1, _⟩ := own_form OW.out (by omega)
            injection e1 with e1 _ e1'
            subst e1 e1'
            have HX := Lib.hid hx
            have HG : Hid (get W xc = some xv) := Lib.hid (get_mem SW.out (p := (xc, xv)) (List.mem_of_getElem? hx))
            have e0 : wi.cell? ⟨gw, i * 2, none⟩ = some (.int .u64 xc) := (OR.out.upd0 UI.out).at_ hx 0 _ rfl
            have q1 : (0 : Int) ≤ (i : Int) := by omega
            have q2 : (i : Int) < (m : Int) := by omega
            clear hx
            go_wp2_with fail
            refine (s_get w.heap.size sb am wm Fk (wS W) xc wi SI.out).mono ?_; rintro e w7 ⟨rfl, rfl⟩
            rw [show get (wS W).W xc = some xv from HG.out]
            simp only [Option.getD_some, Option.isSome_some]
            clear e0
            by_cases hi0 : i = 0
            · subst hi0
              have CS : Hid (∀ V, Upd [] wi.drew V → V.cell? ⟨gw, 0, none⟩ = some (.int .u64 xc) ∧ V.cell? ⟨gw, 1, none⟩ = some (.int .u64 xv)) := Lib.hid (fun V hV => by
                have ho := OR.out.upd0 (UI.out.trans ((Upd.refl [] wi).drew.trans hV))
                exact ⟨ho.at_ HX.out 0 _ rfl, ho.at_ HX.out 1 _ rfl⟩)
              go_wp2_with fail
              refine wp_invN [] [] (by kernel_rfl) (by kernel_rfl) (by kernel_rfl) trivial ?_
              with_reducible apply wpV_light
              · simp only [lightOp]
              · intro W hU hF
                have f0 := CS.out W hU
                clear hU hF
                go_simp
                exact rfl
              simp only [Act.put, List.setIfInBounds_toArray, List.set_cons_zero, List.set_cons_succ]
              with_reducible apply wpV_light
              · simp only [lightOp]
              · intro W hU hF
                have f0 := CS.out W hU
                clear hU hF
                go_simp
                exact rfl
              simp only [Act.put, List.setIfInBounds_toArray, List.set_cons_zero, List.set_cons_succ]
              with_reducible apply wpV_light
              · simp only [lightOp]
              · intro W hU hF
                have f0 := CS.out W hU
                clear hU hF
                go_simp
                exact rfl
              simp only [Act.put, List.setIfInBounds_toArray, List.set_cons_zero, List.set_cons_succ]
              refine wpV_skip (by rfl) (by simp only [lightOp]) ?_
              simp only [Act.put, List.setIfInBounds_toArray, List.set_cons_zero, List.set_cons_succ]
              refine wpV_skip (by rfl) (by simp only [lightOp]) ?_
              simp only [Act.put, List.setIfInBounds_toArray, List.set_cons_zero, List.set_cons_succ]
              refine wpV_skip (by rfl) (by simp only [lightOp]) ?_
              simp only [Act.put, List.setIfInBounds_toArray, List.set_cons_zero, List.set_cons_succ]
              refine wpV_skip (by rfl) (by simp only [lightOp]) ?_
              simp only [Act.put, List.setIfInBounds_toArray, List.set_cons_zero, List.set_cons_succ]
              refine wpV_skip (by rfl) (by simp only [lightOp]) ?_
              simp only [Act.put, List.setIfInBounds_toArray, List.set_cons_zero, List.set_cons_succ]
              refine wpV_skip (by rfl) (by simp only [lightOp]) ?_
              simp only [Act.put, List.setIfInBounds_toArray, List.set_cons_zero, List.set_cons_succ]
              refine wpV_skip (by rfl) (by simp only [lightOp]) ?_
              simp only [Act.put, List.setIfInBounds_toArray, List.set_cons_zero, List.set_cons_succ]
              refine wpV_skip (by rfl) (by simp only [lightOp]) ?_
              simp only [Act.put, List.setIfInBounds_toArray, List.set_cons_zero, List.set_cons_succ]
              refine wpV_skip (by rfl) (by simp only [lightOp]) ?_
              simp only [Act.put, List.setIfInBounds_toArray, List.set_cons_zero, List.set_cons_succ]
              refine wpV_skip (by rfl) (by simp only [lightOp]) ?_
              simp only [Act.put, List.setIfInBounds_toArray, List.set_cons_zero, List.set_cons_succ]
              refine wpV_skip (by rfl) (by simp only [lightOp]) ?_
              simp only [Act.put, List.setIfInBounds_toArray, List.set_cons_zero, List.set_cons_succ]
              refine wpV_skip (by rfl) (by simp only [lightOp]) ?_
              simp only [Act.put, List.setIfInBounds_toArray, List.set_cons_zero, List.set_cons_succ]
              with_reducible apply wpV_light
              · simp only [lightOp]
              · intro W hU hF
                have f0 := CS.out W hU
                clear hU hF
                go_simp
                exact rfl
              simp only [Act.put, List.setIfInBounds_toArray, List.set_cons_zero, List.set_cons_succ]
              with_reducible apply wpV_light
              · simp only [lightOp]
              · intro W hU hF
                have f0 := CS.out W hU
                clear hU hF
                go_simp
                exact rfl
              simp only [Act.put, List.setIfInBounds_toArray, List.set_cons_zero, List.set_cons_succ]
              with_reducible apply wpV_light
              · simp only [lightOp]
              · intro W hU hF
                have f0 := CS.out W hU
                clear hU hF
                go_simp
                exact rfl
              simp only [Act.put, List.setIfInBounds_toArray, List.set_cons_zero, List.set_cons_succ]
              with_reducible apply wpV_light
              · simp only [lightOp]
              · intro W hU hF
                have f0 := CS.out W hU
                clear hU hF
                go_simp
                exact rfl
              simp only [Act.put, List.setIfInBounds_toArray, List.set_cons_zero, List.set_cons_succ]
              with_reducible apply wpV_light
              · simp only [lightOp]
              · intro W hU hF
                have f0 := CS.out W hU
                clear hU hF
                go_simp
                exact rfl
              simp only [Act.put, List.setIfInBounds_toArray, List.set_cons_zero, List.set_cons_succ]
              with_reducible apply wpV_light
              · simp only [lightOp]
              · intro W hU hF
                have f0 := CS.out W hU
                clear hU hF
                go_simp
                exact rfl
              simp only [Act.put, List.setIfInBounds_toArray, List.set_cons_zero, List.set_cons_succ]
              with_reducible apply wpV_light
              · simp only [lightOp]
              · intro W hU hF
                have f0 := CS.out W hU
                clear hU hF
                go_simp
                exact rfl
              simp only [Act.put, List.setIfInBounds_toArray, List.set_cons_zero, List.set_cons_succ]
              with_reducible apply wpV_light
              · simp only [lightOp]
              · intro W hU hF
                have f0 := CS.out W hU
                clear hU hF
                go_simp
                exact rfl
              simp only [Act.put, List.setIfInBounds_toArray, List.set_cons_zero, List.set_cons_succ]
              with_reducible apply wpV_light
              · simp only [lightOp]
              · intro W hU hF
                have f0 := CS.out W hU
                clear hU hF
                go_simp
                exact rfl
              simp only [Act.put, List.setIfInBounds_toArray, List.set_cons_zero, List.set_cons_succ]
              with_reducible apply wpV_light
              · simp only [lightOp]
              · intro W hU hF
                have f0 := CS.out W hU
                clear hU hF
                go_simp
                exact rfl
              simp only [Act.put, List.setIfInBounds_toArray, List.set_cons_zero, List.set_cons_succ]
              with_reducible apply wpV_light
              · simp only [lightOp]
              · intro W hU hF
                have f0 := CS.out W hU
                clear hU hF
                go_simp
                exact rfl
              simp only [Act.put, List.setIfInBounds_toArray, List.set_cons_zero, List.set_cons_succ]
              with_reducible apply wpV_light
              · simp only [lightOp]
              · intro W hU hF
                have f0 := CS.out W hU
                clear hU hF
                go_simp
                exact rfl
              simp only [Act.put, List.setIfInBounds_toArray, List.set_cons_zero, List.set_cons_succ]
              with_reducible apply wpV_light
              · simp only [lightOp]
              · intro W hU hF
                have f0 := CS.out W hU
                clear hU hF
                go_simp
                exact rfl
              simp only [Act.put, List.setIfInBounds_toArray, List.set_cons_zero, List.set_cons_succ]
              with_reducible apply wpV_light
              · simp only [lightOp]
              · intro W hU hF
                have f0 := CS.out W hU
                clear hU hF
                go_simp
                exact rfl
              simp only [Act.put, List.setIfInBounds_toArray, List.set_cons_zero, List.set_cons_succ]
              refine wpV_end (fun W hU _ _ => ?_)
              have U9 : Hid (Upd [] w3 W) := Lib.hid (UI.out.trans ((Upd.refl [] wi).drew.trans hU))
              clear hU
              refine wpT_end ?_
              go_wp2_with fail
              go_roundw
              case rel => exact ⟨0 + 1, by go_num, by omega, U9⟩
              case measure => simp [intOf]; omega
            · obtain ⟨j, hj⟩ : ∃ j, j + 1 = i := ⟨i - 1, by omega⟩
              obtain ⟨⟨yc, yv⟩, hy⟩ : ∃ x, W[j]? = some x := ⟨_, List.getElem?_eq_getElem (by rw [HM.out]; omega)⟩
              have lt : yc < xc := by
                have h1 := List.getElem?_eq_some_iff.1 hy
                have h2 := List.getElem?_eq_some_iff.1 HX.out
                obtain ⟨l1, e1⟩ := h1
                obtain ⟨l2, e2⟩ := h2
                have := List.pairwise_iff_getElem.1 SW.out j i l1 l2 (by omega)
                rw [e1, e2] at this
                exact this
              have d3 : decide (xc ≤ yc) = false := by simp; omega
              have q5 : (i : Int) - 1 = (j : Int) := by omega
              have q6 : (0 : Int) ≤ (j : Int) := by omega
              have q5w : IntKind.i64.wrap (j : Int) = (j : Int) := by rw [IntKind.wrap_i64]; omega
              have q7 : (j : Int) < (m : Int) := by omega
              have q8 : (0 : Int) < (i : Int) := by omega
              have q9 : 0 < i := by omega
              have CS : Hid (∀ V, Upd [] wi.drew V → V.cell? ⟨gw, i * 2, none⟩ = some (.int .u64 xc) ∧ V.cell? ⟨gw, i * 2 + 1, none⟩ = some (.int .u64 xv) ∧ V.cell? ⟨gw, j * 2, none⟩ = some (.int .u64 yc)) := Lib.hid (fun V hV => by
                have ho := OR.out.upd0 (UI.out.trans ((Upd.refl [] wi).drew.trans hV))
                exact ⟨ho.at_ HX.out 0 _ rfl, ho.at_ HX.out 1 _ rfl, ho.at_ hy 0 _ rfl⟩)
              clear hy
              go_wp2_with fail
              refine wp_invN [] [] (by kernel_rfl) (by kernel_rfl) (by kernel_rfl) trivial ?_
              with_reducible apply wpV_light
              · simp only [lightOp]
              · intro W hU hF
                have f0 := CS.out W hU
                clear hU hF
                go_simp
                exact rfl
              simp only [Act.put, List.setIfInBounds_toArray, List.set_cons_zero, List.set_cons_succ]
              with_reducible apply wpV_light
              · simp only [lightOp]
              · intro W hU hF
                have f0 := CS.out W hU
                clear hU hF
                go_simp
                exact rfl
              simp only [Act.put, List.setIfInBounds_toArray, List.set_cons_zero, List.set_cons_succ]
              with_reducible apply wpV_light
              · simp only [lightOp]
              · intro W hU hF
                have f0 := CS.out W hU
                clear hU hF
                go_simp
                exact rfl
              simp only [Act.put, List.setIfInBounds_toArray, List.set_cons_zero, List.set_cons_succ]
              with_reducible apply wpV_light
              · simp only [lightOp]
              · intro W hU hF
                have f0 := CS.out W hU
                clear hU hF
                go_simp
                exact rfl
              simp only [Act.put, List.setIfInBounds_toArray, List.set_cons_zero, List.set_cons_succ]
              with_reducible apply wpV_light
              · simp only [lightOp]
              · intro W hU hF
                have f0 := CS.out W hU
                clear hU hF
                go_simp
                exact rfl
              simp only [Act.put, List.setIfInBounds_toArray, List.set_cons_zero, List.set_cons_succ]
              with_reducible apply wpV_light
              · simp only [lightOp]
              · intro W hU hF
                have f0 := CS.out W hU
                clear hU hF
                go_simp
                exact rfl
              simp only [Act.put, List.setIfInBounds_toArray, List.set_cons_zero, List.set_cons_succ]
              with_reducible apply wpV_light
              · simp only [lightOp]
              · intro W hU hF
                have f0 := CS.out W hU
                clear hU hF
                go_simp
                exact rfl
              simp only [Act.put, List.setIfInBounds_toArray, List.set_cons_zero, List.set_cons_succ]
              with_reducible apply wpV_light
              · simp only [lightOp]
              · intro W hU hF
                have f0 := CS.out W hU
                clear hU hF
                go_simp
                exact rfl
              simp only [Act.put, List.setIfInBounds_toArray, List.set_cons_zero, List.set_cons_succ]
              with_reducible apply wpV_light
              · simp only [lightOp]
              · intro W hU hF
                have f0 := CS.out W hU
                clear hU hF
                go_simp
                exact rfl
              simp only [Act.put, List.setIfInBounds_toArray, List.set_cons_zero, List.set_cons_succ]
              with_reducible apply wpV_light
              · simp only [lightOp]
              · intro W hU hF
                have f0 := CS.out W hU
                clear hU hF
                go_simp
                exact rfl
              simp only [Act.put, List.setIfInBounds_toArray, List.set_cons_zero, List.set_cons_succ]
              with_reducible apply wpV_light
              · simp only [lightOp]
              · intro W hU hF
                have f0 := CS.out W hU
                clear hU hF
                go_simp
                exact rfl
              simp only [Act.put, List.setIfInBounds_toArray, List.set_cons_zero, List.set_cons_succ]
              with_reducible apply wpV_light
              · simp only [lightOp]
              · intro W hU hF
                have f0 := CS.out W hU
                clear hU hF
                go_simp
                exact rfl
              simp only [Act.put, List.setIfInBounds_toArray, List.set_cons_zero, List.set_cons_succ]
              with_reducible apply wpV_light
              · simp only [lightOp]
              · intro W hU hF
                have f0 := CS.out W hU
                clear hU hF
                go_simp
                exact rfl
              simp only [Act.put, List.setIfInBounds_toArray, List.set_cons_zero, List.set_cons_succ]
              with_reducible apply wpV_light
              · simp only [lightOp]
              · intro W hU hF
                have f0 := CS.out W hU
                clear hU hF
                go_simp
                exact rfl
              simp only [Act.put, List.setIfInBounds_toArray, List.set_cons_zero, List.set_cons_succ]
              with_reducible apply wpV_light
              · simp only [lightOp]
              · intro W hU hF
                have f0 := CS.out W hU
                clear hU hF
                go_simp
                exact rfl
              simp only [Act.put, List.setIfInBounds_toArray, List.set_cons_zero, List.set_cons_succ]
              with_reducible apply wpV_light
              · simp only [lightOp]
              · intro W hU hF
                have f0 := CS.out W hU
                clear hU hF
                go_simp
                exact rfl
              simp only [Act.put, List.setIfInBounds_toArray, List.set_cons_zero, List.set_cons_succ]
              with_reducible apply wpV_light
              · simp only [lightOp]
              · intro W hU hF
                have f0 := CS.out W hU
                clear hU hF
                go_simp
                exact rfl
              simp only [Act.put, List.setIfInBounds_toArray, List.set_cons_zero, List.set_cons_succ]
              with_reducible apply wpV_light
              · simp only [lightOp]
              · intro W hU hF
                have f0 := CS.out W hU
                clear hU hF
                go_simp
                exact rfl
              simp only [Act.put, List.setIfInBounds_toArray, List.set_cons_zero, List.set_cons_succ]
              with_reducible apply wpV_light
              · simp only [lightOp]
              · intro W hU hF
                have f0 := CS.out W hU
                clear hU hF
                go_simp
                exact rfl
              simp only [Act.put, List.setIfInBounds_toArray, List.set_cons_zero, List.set_cons_succ]
              with_reducible apply wpV_light
              · simp only [lightOp]
              · intro W hU hF
                have f0 := CS.out W hU
                clear hU hF
                go_simp
                exact rfl
              simp only [Act.put, List.setIfInBounds_toArray, List.set_cons_zero, List.set_cons_succ]
              with_reducible apply wpV_light
              · simp only [lightOp]
              · intro W hU hF
                have f0 := CS.out W hU
                clear hU hF
                go_simp
                exact rfl
              simp only [Act.put, List.setIfInBounds_toArray, List.set_cons_zero, List.set_cons_succ]
              with_reducible apply wpV_light
              · simp only [lightOp]
              · intro W hU hF
                have f0 := CS.out W hU
                clear hU hF
                go_simp
                exact rfl
              simp only [Act.put, List.setIfInBounds_toArray, List.set_cons_zero, List.set_cons_succ]
              with_reducible apply wpV_light
              · simp only [lightOp]
              · intro W hU hF
                have f0 := CS.out W hU
                clear hU hF
                go_simp
                exact rfl
              simp only [Act.put, List.setIfInBounds_toArray, List.set_cons_zero, List.set_cons_succ]
              with_reducible apply wpV_light
              · simp only [lightOp]
              · intro W hU hF
                have f0 := CS.out W hU
                clear hU hF
                go_simp
                exact rfl
              simp only [Act.put, List.setIfInBounds_toArray, List.set_cons_zero, List.set_cons_succ]
              with_reducible apply wpV_light
              · simp only [lightOp]
              · intro W hU hF
                have f0 := CS.out W hU
                clear hU hF
                go_simp
                exact rfl
              simp only [Act.put, List.setIfInBounds_toArray, List.set_cons_zero, List.set_cons_succ]
              with_reducible apply wpV_light
              · simp only [lightOp]
              · intro W hU hF
                have f0 := CS.out W hU
                clear hU hF
                go_simp
                exact rfl
              simp only [Act.put, List.setIfInBounds_toArray, List.set_cons_zero, List.set_cons_succ]
              with_reducible apply wpV_light
              · simp only [lightOp]
              · intro W hU hF
                have f0 := CS.out W hU
                clear hU hF
                go_simp
                exact rfl
              simp only [Act.put, List.setIfInBounds_toArray, List.set_cons_zero, List.set_cons_succ]
              with_reducible apply wpV_light
              · simp only [lightOp]
              · intro W hU hF
                have f0 := CS.out W hU
                clear hU hF
                go_simp
                exact rfl
              simp only [Act.put, List.setIfInBounds_toArray, List.set_cons_zero, List.set_cons_succ]
              with_reducible apply wpV_light
              · simp only [lightOp]
              · intro W hU hF
                have f0 := CS.out W hU
                clear hU hF
                go_simp
                exact rfl
              simp only [Act.put, List.setIfInBounds_toArray, List.set_cons_zero, List.set_cons_succ]
              refine wpV_end (fun W hU _ _ => ?_)
              have U9 : Hid (Upd [] w3 W) := Lib.hid (UI.out.trans ((Upd.refl [] wi).drew.trans hU))
              clear hU
              refine wpT_end ?_
              go_wp2_with fail
              go_roundw
              case rel => exact ⟨i + 1, by go_num, by omega, U9⟩
              case measure => simp [intOf]; omega
          · obtain rfl : i = m := by omega
            clear UI
            go_wp2_with fail
            go_loopw [93] (fun v wr => ∃ k' : Nat, v = .int .i64 k' ∧ k' ≤ k ∧ Hid (Upd [] wi wr)) (fun v _ => k - (intOf v).toNat)
            case atStart => exact ⟨0, rfl, by omega, Lib.hid (.refl _ _)⟩
            case round =>
              obtain ⟨p, rfl, hp, UP⟩ := hrel
              rename World => wp
              have SP' := Lib.hid (SI.out.upd0 UP.out)
              have UQ := Lib.hid (UJ.out.trans UP.out)
              by_cases hpk : p < k
              · obtain ⟨⟨ak, ac, ax, an⟩, hx⟩ : ∃ x, L[p]? = some x := ⟨_, List.getElem?_eq_getElem (by rw [HN.out]; exact hpk)⟩
                obtain ⟨ad, rfl, hlt, e0, e1, e2, e3⟩ := pact_cells (HA.out.upd0 UQ.out) hx
                have HX := Lib.hid hx
                have HL := Lib.hid (get_last hx)
                have q1 : (0 : Int) ≤ (p : Int) := by omega
                have q2 : (p : Int) < (k : Int) := by omega
                have hcut := cut_rest (P := Try.prog) elem_act ad k c p hpk hnc
                obtain ⟨m2, hm2⟩ : ∃ m2, k - p = m2 := ⟨_, rfl⟩
                obtain ⟨c2, hc2⟩ : ∃ c2, c - p = c2 := ⟨_, rfl⟩
                have RD : Hid (Rd encP w (.slice (some (ad.add (p * 4))) m2 c2) (L.drop p)) := Lib.hid (by rw [← hm2, ← hc2]; exact rd_rest HA.out HN.out hpk hnc)
                have LD : Hid ((L.drop p).length = m2) := Lib.hid (by rw [List.length_drop, HN.out]; exact hm2)
                rw [hm2, hc2] at hcut
                obtain ⟨ad2, had2⟩ : ∃ a, ad.add (p * 4) = a := ⟨_, rfl⟩
                have LAST : Hid (∀ V, Upd [] w V → V.cell? ⟨ad2.block, ad2.off + 1, none⟩ = some (.int .u64 ac)) := Lib.hid (fun V hV => by
                  obtain ⟨ad', h1, _, _, h3, _⟩ := pact_cells (HA.out.upd0 hV) HX.out
                  cases h1
                  rw [had2] at h3
                  exact h3)
                have hmc : m2 ≤ 80 := by omega
                rw [had2] at hcut RD e0 e1 e2 e3
                clear hx hm2 hc2
                go_wp2_with fail
                go_loopw [11, 105] (fun vl vj wr => ∃ (j : Nat) (x : Int), vl = .int .u64 x ∧ vj = .int .i64 j ∧ j ≤ m2 ∧ Hid (x = lastOf ac ax ((L.drop p).take j)) ∧ Hid (Upd [] wp wr)) (fun _ v _ => m2 - (intOf v).toNat)
                case atStart => exact ⟨0, ax, rfl, rfl, by omega, Lib.hid rfl, Lib.hid (.refl _ _)⟩
                case round =>
                  obtain ⟨j, x, rfl, rfl, hj, HXJ, UJJ⟩ := hrel
                  rename World => wj
                  clear e0 e1 e2 e3 hcut
                  have UZ := Lib.hid (UQ.out.trans UJJ.out)
                  by_cases hjm : j < m2
                  · obtain ⟨⟨bk, bc, bx, bn⟩, hy⟩ : ∃ x, (L.drop p)[j]? = some x := ⟨_, List.getElem?_eq_getElem (by rw [LD.out]; exact hjm)⟩
                    obtain ⟨ad', h1, hlt2, f0, f1, f2, f3⟩ := pact_cells (RD.out.upd0 UZ.out) hy
                    cases h1
                    have TJ := Lib.hid (take_more hy)
                    have q3 : (0 : Int) ≤ (j : Int) := by omega
                    have q4 : (j : Int) < (m2 : Int) := by omega
                    clear hy
                    go_wp2_with fail
                    have UB : Hid (Upd [] wj (wj.alloc (.cells #[.int .i64 bk, .int .u64 bc, .int .u64 bx, .int .i64 bn] 28))) := Lib.hid ((Upd.refl [] wj).alloc _)
                    have YB : Hid (Blk (wj.alloc (.cells #[.int .i64 bk, .int .u64 bc, .int .u64 bx, .int .i64 bn] 28)) wj.heap.size 28 #[.int .i64 bk, .int .u64 bc, .int .u64 bx, .int .i64 bn]) := Lib.hid (Blk.new wj _ _)
                    generalize (wj.alloc (.cells #[.int .i64 bk, .int .u64 bc, .int .u64 bx, .int .i64 bn] 28)) = w8 at *
                    have U8 := Lib.hid (UZ.out.trans UB.out)
                    clear f0 f1 f2 f3
                    have CS : Hid (∀ V, Upd [] w8.drew V → V.cell? ⟨wj.heap.size, 1, none⟩ = some (.int .u64 bc) ∧ V.cell? ⟨ad2.block, ad2.off + 1, none⟩ = some (.int .u64 ac)) := Lib.hid (fun V hV => by
                      have hu := (Upd.refl [] w8).drew.trans hV
                      exact ⟨(YB.out.upd hu (by simp)).cell 1, LAST.out V (U8.out.trans hu)⟩)
                    go_wp2_with fail
                    refine wp_invN [] [] (by kernel_rfl) (by kernel_rfl) (by kernel_rfl) trivial ?_
                    with_reducible apply wpV_light
                    · simp only [lightOp]
                    · intro W hU hF
                      have f0 := CS.out W hU
                      clear hU hF
                      go_simp
                      exact rfl
                    simp only [Act.put, List.setIfInBounds_toArray, List.set_cons_zero, List.set_cons_succ]
                    with_reducible apply wpV_light
                    · simp only [lightOp]
                    · intro W hU hF
                      have f0 := CS.out W hU
                      clear hU hF
                      go_simp
                      exact rfl
                    simp only [Act.put, List.setIfInBounds_toArray, List.set_cons_zero, List.set_cons_succ]
                    with_reducible apply wpV_light
                    · simp only [lightOp]
                    · intro W hU hF
                      have f0 := CS.out W hU
                      clear hU hF
                      go_simp
                      exact rfl
                    simp only [Act.put, List.setIfInBounds_toArray, List.set_cons_zero, List.set_cons_succ]
                    with_reducible apply wpV_light
                    · simp only [lightOp]
                    · intro W hU hF
                      have f0 := CS.out W hU
                      clear hU hF
                      go_simp
                      exact rfl
                    simp only [Act.put, List.setIfInBounds_toArray, List.set_cons_zero, List.set_cons_succ]
                    with_reducible apply wpV_light
                    · simp only [lightOp]
                    · intro W hU hF
                      have f0 := CS.out W hU
                      clear hU hF
                      go_simp
                      exact rfl
                    simp only [Act.put, List.setIfInBounds_toArray, List.set_cons_zero, List.set_cons_succ]
                    with_reducible apply wpV_light
                    · simp only [lightOp]
                    · intro W hU hF
                      have f0 := CS.out W hU
                      clear hU hF
                      go_simp
                      exact rfl
                    simp only [Act.put, List.setIfInBounds_toArray, List.set_cons_zero, List.set_cons_succ]
                    with_reducible apply wpV_light
                    · simp only [lightOp]
                    · intro W hU hF
                      have f0 := CS.out W hU
                      clear hU hF
                      go_simp
                      exact rfl
                    simp only [Act.put, List.setIfInBounds_toArray, List.set_cons_zero, List.set_cons_succ]
                    with_reducible apply wpV_light
                    · simp only [lightOp]
                    · intro W hU hF
                      have f0 := CS.out W hU
                      clear hU hF
                      go_simp
                      exact rfl
                    simp only [Act.put, List.setIfInBounds_toArray, List.set_cons_zero, List.set_cons_succ]
                    refine wpV_end (fun V hU _ _ => ?_)
                    have U9 : Hid (Upd [] w8 V) := Lib.hid ((Upd.refl [] w8).drew.trans hU)
                    clear hU
                    refine wpT_end ?_
                    have y2 : V.cell? ⟨wj.heap.size, 2, none⟩ = some (.int .u64 bx) := (YB.out.upd U9.out (by simp)).cell 2
                    have UE : Hid (Upd [] wp V) := Lib.hid (UJJ.out.trans (UB.out.trans U9.out))
                    by_cases hbc : bc = ac
                    · have d4 : (bc == ac) = true := by simpa using hbc
                      have HZ : Hid (bx = lastOf ac ax ((L.drop p).take (j + 1))) := Lib.hid (by rw [TJ.out, lastOf_snoc, if_pos hbc])
                      clear hbc
                      go_wp2_with fail
                      go_roundw
                      case rel => exact ⟨j + 1, bx, rfl, by go_num, by omega, HZ, UE⟩
                      case measure => simp [intOf]; omega
                    · have d4 : (bc == ac) = false := by simpa using hbc
                      have HZ : Hid (x = lastOf ac ax ((L.drop p).take (j + 1))) := Lib.hid (by rw [TJ.out, lastOf_snoc, if_neg hbc]; exact HXJ.out)
                      clear hbc
                      go_wp2_with fail
                      go_roundw
                      case rel => exact ⟨j + 1, x, rfl, by go_num, by omega, HZ, UE⟩
                      case measure => simp [intOf]; omega
                  · obtain rfl : j = m2 := by omega
                    have f1 : wj.cell? ⟨ad2.block, ad2.off + 1, none⟩ = some (.int .u64 ac) := LAST.out wj UZ.out
                    have HG : Hid (get W ac = some x) := Lib.hid (by rw [HXJ.out, List.take_of_length_le (by rw [LD.out]; exact Nat.le_refl _), ← HW.out]; exact HL.out)
                    go_wp2_with fail
                    refine (s_get w.heap.size sb am wm Fk (wS W) ac wj (SP'.out.upd0 UJJ.out)).mono ?_; rintro e w9 ⟨rfl, rfl⟩
                    rw [show get (wS W).W ac = some x from HG.out]
                    simp only [Option.getD_some, Option.isSome_some]
                    go_wp2_with fail
                    go_roundw
                    case rel => exact ⟨p + 1, by go_num, by omega, Lib.hid (UP.out.trans UJJ.out)⟩
                    case measure => simp [intOf]; omega
              · go_wp2_with fail
                refine (s_alive wp).mono ?_; rintro e w9 ⟨rfl, u9⟩
                have U9 := Lib.hid (UQ.out.trans u9)
                clear u9
                go_wp2_with fail
                go_ret
                exact ⟨rfl, U9.out⟩
end Go.Proofs.Ytbpmkbcpnnpdjaa

/-
  concordref28: Serial.
  concordref28: Ring.
  TraceSerial, the walk.
  TraceOrders, the walk.
  A law's argument: events; lists of lists of numbers.
-/
import Derived.Test.YteddiknlcdbhjaaGreatTsB14
import Derived.Test.YteddiknlcdbhjaaGreatTsB12
import Derived.Test.YteddiknlcdbhjaaGreatTsB4
import Derived.Test.YteddiknlcdbhjaaGreatTsB13
import Derived.Test.YteddiknlcdbhjaaGreatTsB9
set_option linter.unusedVariables false
namespace Go.Proofs.YteddiknlcdbhjaaGreat
open Go Go.RowKit TrP
attribute [local go_sem] litStep_value

def lenOfR : Value → Nat
  | .slice _ n _ => n
  | _ => 0
def RSerPost (l : List Ev) (w : World) (e : Ending) (w' : World) : Prop := ∃ s h, e = .returned (.tuple #[s, .int .i64 h]) ∧ Upd [] w w' ∧ (∀ o, serialL (graphR l) (txnsR l) = some o → Ow encK 3 w' w.heap.size s o ∧ h = 0) ∧ (serialL (graphR l) (txnsR l) = none → s = .slice none 0 0 ∧ h = 12)
/-- Which of all may be next, so far. -/
def NoPick (g : List Ed) (all out : List Int) (i : Nat) : Prop := ∀ j a, j < i → all[j]? = some a → pickB g all out a = false
def FreeTo (g : List Ed) (all out : List Int) (b : Int) (k : Nat) : Bool := (all.take k).all (fun k => out.contains k || !leadsB g k b)
theorem freeTo_step {g : List Ed} {all out : List Int} {b a : Int} {k : Nat} (h : all[k]? = some a) : FreeTo g all out b (k + 1) = (FreeTo g all out b k && (decide (a ∈ out) || !leadsB g a b)) := by
  unfold FreeTo
  rw [List.take_add_one, h, List.all_append]
  simp
theorem freeTo_all {g : List Ed} {all out : List Int} {b : Int} {k : Nat} (h : all.length ≤ k) : FreeTo g all out b k = freeB g all out b := by
  unfold FreeTo freeB
  rw [List.take_of_length_le h]
theorem noPick_step {g : List Ed} {all out : List Int} {i : Nat} {a : Int} (h : NoPick g all out i) (ha : all[i]? = some a) (hp : pickB g all out a = false) : NoPick g all out (i + 1) := fun j c hj hc => by
  rcases Nat.lt_or_ge j i with e | e
  · exact h j c e hc
  · have : j = i := by omega
    subst this
    rw [ha] at hc
    cases hc
    exact hp
theorem noPick_find {g : List Ed} {all out : List Int} {i : Nat} {a : Int} (h : NoPick g all out i) (ha : all[i]? = some a) (hp : pickB g all out a = true) : nextF g all out = some a := find_pick ha hp (fun j c hj hc => h j c hj hc)
theorem noPick_none {g : List Ed} {all out : List Int} {i : Nat} (h : NoPick g all out i) (hi : all.length ≤ i) : nextF g all out = none := by
  unfold nextF
  rw [List.find?_eq_none]
  intro a ha
  obtain ⟨j, hj, rfl⟩ := List.getElem_of_mem ha
  rw [h j _ (by omega) (List.getElem?_eq_getElem hj)]
  simp
set_option maxRecDepth 100000 in
set_option maxHeartbeats 16000000 in
theorem r_serial (A : Option Addr) (n k : Nat) (l : List Ev) (w : World) (h : Rd encEv w (.slice A n k) l) (hn : l.length = n) (hl : n ≤ 60) (hok : OkE l) :
    Calls Tryz.prog 12 #[.slice A n k] w fun e w' => RSerPost l w e w' := by
  have H := Lib.hid h
  have HN := Lib.hid hn
  have hg60 := graphR_short l (by omega)
  have ht60 : (txnsR l).length ≤ 60 := by have := foldT_len l l []; unfold txnsR; simp at this; omega
  have hgk := gok hok
  clear h hn
  go_enter Tryz.func12, Tryz.ntmps12
  go_wp2_with fail
  refine (r_graph A n k l w H.out HN.out hl).mono ?_; rintro e w1 ⟨gv, rfl, og, u1⟩
  have OG1 := Lib.hid og
  have U1 := Lib.hid u1
  clear og u1
  go_wp2_with fail
  refine (r_txns A n k l w1 (H.out.upd0 U1.out) HN.out hl).mono ?_; rintro e w2 ⟨tv, rfl, ot, u2⟩
  have OG2 := Lib.hid (OG1.out.upd0 u2)
  have OT2 := Lib.hid ot
  have U2 := Lib.hid (U1.out.trans u2)
  have SZ1 : Hid (w.heap.size ≤ w1.heap.size) := Lib.hid U1.out.size
  obtain ⟨g, hg⟩ : ∃ g, graphR l = g := ⟨_, rfl⟩
  obtain ⟨all, hall⟩ : ∃ all, txnsR l = all := ⟨_, rfl⟩
  rw [hg, hall] at hgk
  have HGG := Lib.hid hg
  have HALL := Lib.hid hall
  rw [hg] at OG2 hg60
  rw [hall] at OT2 ht60
  obtain ⟨Ag, cg, rfl, _, _⟩ := OG2.out.form
  obtain ⟨At, ct, rfl, _, _⟩ := OT2.out.form
  have HG := Lib.hid hgk
  obtain ⟨sb, hsb⟩ : ∃ sb, serialL g all = sb := ⟨_, rfl⟩
  have HSB := Lib.hid hsb
  obtain ⟨ng, hng⟩ : ∃ ng, g.length = ng := ⟨_, rfl⟩
  obtain ⟨na, hna⟩ : ∃ na, all.length = na := ⟨_, rfl⟩
  have HNG := Lib.hid hng
  have HNA := Lib.hid hna
  rw [hng] at OG2 hg60 ⊢
  rw [hna] at OT2 ht60 ⊢
  clear ot u2 hgk hg hall hsb hng hna OG1 U1
  go_wp2_with fail
  go_loopw [6] (fun v wq => Hid (∃ out, Upd [] w2 wq ∧ Ow encK 3 wq w2.heap.size v out ∧ Ser g all out ∧ serialL g all = serialGo g all (na - out.length) out)) (fun v _ => 61 - lenOfR v)
  case atStart => exact Lib.hid ⟨[], .refl _ _, Ow.nil _ _ _ _, Ser.nil, by rw [← HNA.out]; rfl⟩
  case round =>
    obtain ⟨out, uq, oq, sr, hv⟩ := hrel.out
    rename World => wq
    obtain ⟨Ao, co, rfl, _, _⟩ := oq.form
    obtain ⟨no, hno⟩ : ∃ no, out.length = no := ⟨_, rfl⟩
    rw [hno] at oq hv ⊢
    have UQ := Lib.hid uq
    have OQ := Lib.hid oq
    have SR := Lib.hid sr
    have HV := Lib.hid hv
    have HNO := Lib.hid hno
    have hno60 : no ≤ na := by
      have := len_sub sr.nodup sr.sub
      rw [hno, HNA.out] at this
      exact this
    clear hrel uq oq sr hv hno
    by_cases hlt : no < na
    · have d : decide ((no : Int) < (na : Int)) = true := by simp; omega
      go_wp2_with fail
      clear d
      go_loopw [6, 7, 8] (fun v f u wx => ∃ (ff : Bool) (i : Nat), f = .bool ff ∧ u = .int .i64 i ∧ i ≤ na ∧ Hid (∃ out', Upd [] w2 wx ∧ Ow encK 3 wx w2.heap.size v out' ∧ (ff = false → out' = out ∧ NoPick g all out i) ∧ (ff = true → ∃ b, out' = out ++ [b] ∧ nextF g all out = some b))) (fun _ _ u _ => na - (intOf u).toNat)
      case atStart => exact ⟨false, 0, rfl, rfl, by omega, Lib.hid ⟨out, UQ.out, OQ.out, fun _ => ⟨rfl, fun j a hj _ => by omega⟩, fun h => by cases h⟩⟩
      case round =>
        obtain ⟨ff, i, rfl, rfl, hi, HREL⟩ := hrel
        rename World => wx
        obtain ⟨out', ux, ox, hff, htt⟩ := HREL.out
        have UX := Lib.hid ux
        cases ff with
        | true =>
          obtain ⟨b, rfl, hb⟩ := htt rfl
          obtain ⟨Ax, cx, rfl, _, _⟩ := ox.form
          have hlx : (out ++ [b]).length = no + 1 := by rw [List.length_append, HNO.out]; rfl
          rw [hlx] at ox ⊢
          have HREL2 : Hid (∃ out, Upd [] w2 wx ∧ Ow encK 3 wx w2.heap.size (.slice Ax (no + 1) cx) out ∧ Ser g all out ∧ serialL g all = serialGo g all (na - out.length) out) := Lib.hid ⟨out ++ [b], ux, ox, SR.out.snoc (nextF_some hb).1 (nextF_some hb).2, by
            rw [HV.out, hlx, show na - no = (na - (no + 1)) + 1 by omega]
            exact serialGo_next hb (by rw [HNO.out, HNA.out]; exact hlt)⟩
          clear ux ox hff htt hb hlx HREL
          by_cases hin : i < na
          · have d : decide ((i : Int) < (na : Int)) = true := by simp; omega
            go_wp2_with fail
            go_roundw
            case rel => exact HREL2
            case measure => simp [lenOfR]; omega
          · have d : decide ((i : Int) < (na : Int)) = false := by simp; omega
            go_wp2_with fail
            go_roundw
            case rel => exact HREL2
            case measure => simp [lenOfR]; omega
        | false =>
          obtain ⟨he, hnp⟩ := hff rfl
          obtain rfl : out = out' := he.symm
          obtain ⟨Ax, cx, rfl, _, _⟩ := ox.form
          rw [HNO.out] at ox ⊢
          have OX := Lib.hid ox
          have HNP := Lib.hid hnp
          clear ux ox hff htt hnp HREL
          by_cases hin : i < na
          · obtain ⟨b, hb⟩ : ∃ b, all[i]? = some b := ⟨_, List.getElem?_eq_getElem (by rw [HNA.out]; exact hin)⟩
            have HB := Lib.hid hb
            have OTX := Lib.hid (OT2.out.upd0 UX.out)
            have OGX := Lib.hid (OG2.out.upd0 UX.out)
            obtain ⟨tb, tc, tcur, e1, -⟩ := own_form OTX.out (by rw [HNA.out]; omega)
            injection e1 with e1 e2 e3
            subst e1 e3
            clear e2
            have HTB : Hid (∀ W k a, Upd [] wx W → all[k]? = some a → W.cell? ⟨tb, k, none⟩ = some (.int .i64 a)) := Lib.hid (fun W k a hW hk => by
              have h1 := (OTX.out.upd0 hW).at_ hk 0 _ rfl
              rwa [show k * encK.s + 0 = k by simp [encI]] at h1)
            have f0 := HTB.out wx i b (.refl _ _) hb
            have q3 : (0 : Int) ≤ (i : Int) := by omega
            have q4 : (i : Int) < (na : Int) := by omega
            have d : decide ((i : Int) < (na : Int)) = true := by simp; omega
            clear hb
            go_wp2_with fail
            refine (r_in Ax no cx out b wx OX.out.rd HNO.out (by omega)).mono ?_; rintro e wy ⟨rfl, rfl⟩
            clear f0 d
            by_cases hbo : b ∈ out
            · rw [decide_eq_true hbo]
              have HNP2 : Hid (NoPick g all out (i + 1)) := Lib.hid (noPick_step HNP.out HB.out (by simp [pickB, hbo]))
              go_wp2_with fail
              go_roundw
              case rel => exact ⟨false, i + 1, rfl, by go_num, by omega, Lib.hid ⟨out, UX.out, OX.out, fun _ => ⟨rfl, HNP2.out⟩, fun h => by cases h⟩⟩
              case measure => simp [intOf]; omega
            · rw [decide_eq_false hbo]
              have HBO := Lib.hid hbo
              clear hbo
              go_wp2_with fail
              go_loopw [9, 10] (fun f u wy => ∃ (fr : Bool) (k : Nat), f = .bool fr ∧ u = .int .i64 k ∧ k ≤ na ∧ Hid (fr = FreeTo g all out b k ∧ Upd [] wx wy)) (fun _ u _ => na - (intOf u).toNat)
              case atStart => exact ⟨true, 0, rfl, rfl, by omega, Lib.hid ⟨rfl, .refl _ _⟩⟩
              case round =>
                obtain ⟨fr, k', rfl, rfl, hk, HRELK⟩ := hrel
                rename World => wy
                obtain ⟨hfr, uy⟩ := HRELK.out
                have HFR := Lib.hid hfr
                have UY := Lib.hid uy
                clear hfr uy HRELK
                by_cases hkn : k' < na
                · obtain ⟨a, ha⟩ : ∃ a, all[k']? = some a := ⟨_, List.getElem?_eq_getElem (by rw [HNA.out]; exact hkn)⟩
                  have HST : Hid (FreeTo g all out b (k' + 1) = (fr && (decide (a ∈ out) || !leadsB g a b))) := Lib.hid (by rw [freeTo_step ha, HFR.out])
                  have CS : Hid (∀ W, Upd [] wy.drew W → W.cell? ⟨tb, k', none⟩ = some (.int .i64 a) ∧ W.cell? ⟨tb, i, none⟩ = some (.int .i64 b)) := Lib.hid (fun W hW => ⟨HTB.out W k' a (UY.out.drew.trans hW) ha, HTB.out W i b (UY.out.drew.trans hW) HB.out⟩)
                  have q5 : (0 : Int) ≤ (k' : Int) := by omega
                  have q6 : (k' : Int) < (na : Int) := by omega
                  have RIN : Hid (∀ W, Upd [] wy.drew W → Rd encK W (.slice Ax no cx) out) := Lib.hid (fun W hW => (OX.out.upd0 (UY.out.drew.trans hW)).rd)
                  have RLD : Hid (∀ W, Upd [] wy.drew W → Rd encE W (.slice Ag ng cg) g) := Lib.hid (fun W hW => (OGX.out.upd0 (UY.out.drew.trans hW)).rd)
                  clear ha
                  go_wp2_with fail
                  cases fr with
                  | false =>
                    refine wp_invN [] [] (by kernel_rfl) (by kernel_rfl) (by kernel_rfl) trivial ?_
                    with_reducible apply wpV_light
                    · simp only [lightOp]
                    · intro W hU hF
                      have f0 := CS.out W hU
                      clear hU hF
                      go_simp
                      exact rfl
                    simp only [Act.put, List.setIfInBounds_toArray, List.set_cons_zero, List.set_cons_succ]
                    with_reducible apply wpV_light
                    · simp only [lightOp]
                    · intro W hU hF
                      have f0 := CS.out W hU
                      clear hU hF
                      go_simp
                      exact rfl
                    simp only [Act.put, List.setIfInBounds_toArray, List.set_cons_zero, List.set_cons_succ]
                    refine wpV_skip (by rfl) (by simp only [lightOp]) ?_
                    simp only [Act.put, List.setIfInBounds_toArray, List.set_cons_zero, List.set_cons_succ]
                    refine wpV_skip (by rfl) (by simp only [lightOp]) ?_
                    simp only [Act.put, List.setIfInBounds_toArray, List.set_cons_zero, List.set_cons_succ]
                    refine wpV_skip (by rfl) (by simp only [lightOp]) ?_
                    simp only [Act.put, List.setIfInBounds_toArray, List.set_cons_zero, List.set_cons_succ]
                    refine wpV_skip (by rfl) (by simp only [lightOp]) ?_
                    simp only [Act.put, List.setIfInBounds_toArray, List.set_cons_zero, List.set_cons_succ]
                    refine wpV_skip (by rfl) (by simp only [lightOp]) ?_
                    simp only [Act.put, List.setIfInBounds_toArray, List.set_cons_zero, List.set_cons_succ]
                    refine wpV_heavySkip (by simp only [lightOp]) (by rfl) (fun W hU hk => outV_new rfl trivial (by intro b hb; cases hb) (.refl _ _)) ?_
                    rintro _ trivial
                    simp only [Act.put, List.setIfInBounds_toArray, List.set_cons_zero, List.set_cons_succ]
                    refine wpV_skip (by rfl) (by simp only [lightOp]) ?_
                    simp only [Act.put, List.setIfInBounds_toArray, List.set_cons_zero, List.set_cons_succ]
                    refine wpV_skip (by rfl) (by simp only [lightOp]) ?_
                    simp only [Act.put, List.setIfInBounds_toArray, List.set_cons_zero, List.set_cons_succ]
                    refine wpV_skip (by rfl) (by simp only [lightOp]) ?_
                    simp only [Act.put, List.setIfInBounds_toArray, List.set_cons_zero, List.set_cons_succ]
                    refine wpV_skip (by rfl) (by simp only [lightOp]) ?_
                    simp only [Act.put, List.setIfInBounds_toArray, List.set_cons_zero, List.set_cons_succ]
                    refine wpV_skip (by rfl) (by simp only [lightOp]) ?_
                    simp only [Act.put, List.setIfInBounds_toArray, List.set_cons_zero, List.set_cons_succ]
                    refine wpV_skip (by rfl) (by simp only [lightOp]) ?_
                    simp only [Act.put, List.setIfInBounds_toArray, List.set_cons_zero, List.set_cons_succ]
                    refine wpV_skip (by rfl) (by simp only [lightOp]) ?_
                    simp only [Act.put, List.setIfInBounds_toArray, List.set_cons_zero, List.set_cons_succ]
                    refine wpV_skip (by rfl) (by simp only [lightOp]) ?_
                    simp only [Act.put, List.setIfInBounds_toArray, List.set_cons_zero, List.set_cons_succ]
                    refine wpV_skip (by rfl) (by simp only [lightOp]) ?_
                    simp only [Act.put, List.setIfInBounds_toArray, List.set_cons_zero, List.set_cons_succ]
                    refine wpV_skip (by rfl) (by simp only [lightOp]) ?_
                    simp only [Act.put, List.setIfInBounds_toArray, List.set_cons_zero, List.set_cons_succ]
                    refine wpV_heavySkip (by simp only [lightOp]) (by rfl) (fun W hU hk => outV_new rfl trivial (by intro b hb; cases hb) (.refl _ _)) ?_
                    rintro _ trivial
                    simp only [Act.put, List.setIfInBounds_toArray, List.set_cons_zero, List.set_cons_succ]
                    refine wpV_skip (by rfl) (by simp only [lightOp]) ?_
                    simp only [Act.put, List.setIfInBounds_toArray, List.set_cons_zero, List.set_cons_succ]
                    refine wpV_skip (by rfl) (by simp only [lightOp]) ?_
                    simp only [Act.put, List.setIfInBounds_toArray, List.set_cons_zero, List.set_cons_succ]
                    with_reducible apply wpV_light
                    · simp only [lightOp]
                    · intro W hU hF
                      have f0 := CS.out W hU
                      clear hU hF
                      go_simp
                      exact rfl
                    simp only [Act.put, List.setIfInBounds_toArray, List.set_cons_zero, List.set_cons_succ]
                    with_reducible apply wpV_light
                    · simp only [lightOp]
                    · intro W hU hF
                      have f0 := CS.out W hU
                      clear hU hF
                      go_simp
                      exact rfl
                    simp only [Act.put, List.setIfInBounds_toArray, List.set_cons_zero, List.set_cons_succ]
                    refine wpV_end (fun W hU _ _ => ?_)
                    have U2' : Hid (Upd [] wx W) := Lib.hid (UY.out.drew.trans hU)
                    clear hU
                    refine wpT_end ?_
                    go_wp2_with fail
                    go_roundw
                    case rel => exact ⟨_, k' + 1, rfl, by go_num, by omega, Lib.hid ⟨by rw [HST.out]; simp, U2'.out⟩⟩
                    case measure => simp [intOf]; omega
                  | true =>
                    obtain ⟨bi, hbi⟩ : ∃ bi, decide (a ∈ out) = bi := ⟨_, rfl⟩
                    rw [hbi] at HST
                    cases bi with
                    | true =>
                      refine wp_invN [(7, .det (.bool true))] [] (by kernel_rfl) (by kernel_rfl) (by kernel_rfl) ⟨lasts_det _, trivial⟩ ?_
                      with_reducible apply wpV_light
                      · simp only [lightOp]
                      · intro W hU hF
                        have f0 := CS.out W hU
                        clear hU hF
                        go_simp
                        exact rfl
                      simp only [Act.put, List.setIfInBounds_toArray, List.set_cons_zero, List.set_cons_succ]
                      with_reducible apply wpV_light
                      · simp only [lightOp]
                      · intro W hU hF
                        have f0 := CS.out W hU
                        clear hU hF
                        go_simp
                        exact rfl
                      simp only [Act.put, List.setIfInBounds_toArray, List.set_cons_zero, List.set_cons_succ]
                      with_reducible apply wpV_light
                      · simp only [lightOp]
                      · intro W hU hF
                        have f0 := CS.out W hU
                        clear hU hF
                        go_simp
                        exact rfl
                      simp only [Act.put, List.setIfInBounds_toArray, List.set_cons_zero, List.set_cons_succ]
                      with_reducible apply wpV_light
                      · simp only [lightOp]
                      · intro W hU hF
                        have f0 := CS.out W hU
                        clear hU hF
                        go_simp
                        exact rfl
                      simp only [Act.put, List.setIfInBounds_toArray, List.set_cons_zero, List.set_cons_succ]
                      with_reducible apply wpV_light
                      · simp only [lightOp]
                      · intro W hU hF
                        have f0 := CS.out W hU
                        clear hU hF
                        go_simp
                        exact rfl
                      simp only [Act.put, List.setIfInBounds_toArray, List.set_cons_zero, List.set_cons_succ]
                      with_reducible apply wpV_light
                      · simp only [lightOp]
                      · intro W hU hF
                        have f0 := CS.out W hU
                        clear hU hF
                        go_simp
                        exact rfl
                      simp only [Act.put, List.setIfInBounds_toArray, List.set_cons_zero, List.set_cons_succ]
                      with_reducible apply wpV_light
                      · simp only [lightOp]
                      · intro W hU hF
                        have f0 := CS.out W hU
                        clear hU hF
                        go_simp
                        exact rfl
                      simp only [Act.put, List.setIfInBounds_toArray, List.set_cons_zero, List.set_cons_succ]
                      refine wpV_heavy (by simp only [lightOp]) (by rfl) (fun W hU hk hF K hK => ?_) ?_
                      · go_wp2_with fail
                        refine (r_in Ax no cx out a _ (RIN.out W hU) HNO.out (by omega)).mono ?_; rintro e w9 ⟨rfl, rfl⟩
                        rw [hbi]
                        go_wp2_with fail
                        exact hK.out _ _ (outV_new rfl rfl (by intro b hb; cases hb) (.refl _ _))
                      rintro _ rfl
                      simp only [Act.put, List.setIfInBounds_toArray, List.set_cons_zero, List.set_cons_succ]
                      with_reducible apply wpV_light
                      · simp only [lightOp]
                      · intro W hU hF
                        have f0 := CS.out W hU
                        clear hU hF
                        go_simp
                        exact rfl
                      simp only [Act.put, List.setIfInBounds_toArray, List.set_cons_zero, List.set_cons_succ]
                      refine wpV_skip (by rfl) (by simp only [lightOp]) ?_
                      simp only [Act.put, List.setIfInBounds_toArray, List.set_cons_zero, List.set_cons_succ]
                      refine wpV_skip (by rfl) (by simp only [lightOp]) ?_
                      simp only [Act.put, List.setIfInBounds_toArray, List.set_cons_zero, List.set_cons_succ]
                      refine wpV_skip (by rfl) (by simp only [lightOp]) ?_
                      simp only [Act.put, List.setIfInBounds_toArray, List.set_cons_zero, List.set_cons_succ]
                      refine wpV_skip (by rfl) (by simp only [lightOp]) ?_
                      simp only [Act.put, List.setIfInBounds_toArray, List.set_cons_zero, List.set_cons_succ]
                      refine wpV_skip (by rfl) (by simp only [lightOp]) ?_
                      simp only [Act.put, List.setIfInBounds_toArray, List.set_cons_zero, List.set_cons_succ]
                      refine wpV_skip (by rfl) (by simp only [lightOp]) ?_
                      simp only [Act.put, List.setIfInBounds_toArray, List.set_cons_zero, List.set_cons_succ]
                      refine wpV_skip (by rfl) (by simp only [lightOp]) ?_
                      simp only [Act.put, List.setIfInBounds_toArray, List.set_cons_zero, List.set_cons_succ]
                      refine wpV_skip (by rfl) (by simp only [lightOp]) ?_
                      simp only [Act.put, List.setIfInBounds_toArray, List.set_cons_zero, List.set_cons_succ]
                      refine wpV_skip (by rfl) (by simp only [lightOp]) ?_
                      simp only [Act.put, List.setIfInBounds_toArray, List.set_cons_zero, List.set_cons_succ]
                      refine wpV_heavySkip (by simp only [lightOp]) (by rfl) (fun W hU hk => outV_new rfl trivial (by intro b hb; cases hb) (.refl _ _)) ?_
                      rintro _ trivial
                      simp only [Act.put, List.setIfInBounds_toArray, List.set_cons_zero, List.set_cons_succ]
                      refine wpV_skip (by rfl) (by simp only [lightOp]) ?_
                      simp only [Act.put, List.setIfInBounds_toArray, List.set_cons_zero, List.set_cons_succ]
                      with_reducible apply wpV_light
                      · simp only [lightOp]
                      · intro W hU hF
                        have f0 := CS.out W hU
                        clear hU hF
                        go_simp
                        exact rfl
                      simp only [Act.put, List.setIfInBounds_toArray, List.set_cons_zero, List.set_cons_succ]
                      with_reducible apply wpV_light
                      · simp only [lightOp]
                      · intro W hU hF
                        have f0 := CS.out W hU
                        clear hU hF
                        go_simp
                        exact rfl
                      simp only [Act.put, List.setIfInBounds_toArray, List.set_cons_zero, List.set_cons_succ]
                      with_reducible apply wpV_light
                      · simp only [lightOp]
                      · intro W hU hF
                        have f0 := CS.out W hU
                        clear hU hF
                        go_simp
                        exact rfl
                      simp only [Act.put, List.setIfInBounds_toArray, List.set_cons_zero, List.set_cons_succ]
                      refine wpV_end (fun W hU _ _ => ?_)
                      have U2' : Hid (Upd [] wx W) := Lib.hid (UY.out.drew.trans hU)
                      clear hU
                      refine wpT_end ?_
                      go_wp2_with fail
                      go_roundw
                      case rel => exact ⟨_, k' + 1, rfl, by go_num, by omega, Lib.hid ⟨by rw [HST.out]; simp, U2'.out⟩⟩
                      case measure => simp [intOf]; omega
                    | false =>
                      obtain ⟨bl, hbl⟩ : ∃ bl, leadsB g a b = bl := ⟨_, rfl⟩
                      rw [hbl] at HST
                      refine wp_invN [(7, .det (.bool false)), (18, .det (.bool bl))] [] (by kernel_rfl) (by kernel_rfl) (by kernel_rfl) ⟨lasts_det _, lasts_det _, trivial⟩ ?_
                      with_reducible apply wpV_light
                      · simp only [lightOp]
                      · intro W hU hF
                        have f0 := CS.out W hU
                        clear hU hF
                        go_simp
                        exact rfl
                      simp only [Act.put, List.setIfInBounds_toArray, List.set_cons_zero, List.set_cons_succ]
                      with_reducible apply wpV_light
                      · simp only [lightOp]
                      · intro W hU hF
                        have f0 := CS.out W hU
                        clear hU hF
                        go_simp
                        exact rfl
                      simp only [Act.put, List.setIfInBounds_toArray, List.set_cons_zero, List.set_cons_succ]
                      with_reducible apply wpV_light
                      · simp only [lightOp]
                      · intro W hU hF
                        have f0 := CS.out W hU
                        clear hU hF
                        go_simp
                        exact rfl
                      simp only [Act.put, List.setIfInBounds_toArray, List.set_cons_zero, List.set_cons_succ]
                      with_reducible apply wpV_light
                      · simp only [lightOp]
                      · intro W hU hF
                        have f0 := CS.out W hU
                        clear hU hF
                        go_simp
                        exact rfl
                      simp only [Act.put, List.setIfInBounds_toArray, List.set_cons_zero, List.set_cons_succ]
                      with_reducible apply wpV_light
                      · simp only [lightOp]
                      · intro W hU hF
                        have f0 := CS.out W hU
                        clear hU hF
                        go_simp
                        exact rfl
                      simp only [Act.put, List.setIfInBounds_toArray, List.set_cons_zero, List.set_cons_succ]
                      with_reducible apply wpV_light
                      · simp only [lightOp]
                      · intro W hU hF
                        have f0 := CS.out W hU
                        clear hU hF
                        go_simp
                        exact rfl
                      simp only [Act.put, List.setIfInBounds_toArray, List.set_cons_zero, List.set_cons_succ]
                      with_reducible apply wpV_light
                      · simp only [lightOp]
                      · intro W hU hF
                        have f0 := CS.out W hU
                        clear hU hF
                        go_simp
                        exact rfl
                      simp only [Act.put, List.setIfInBounds_toArray, List.set_cons_zero, List.set_cons_succ]
                      refine wpV_heavy (by simp only [lightOp]) (by rfl) (fun W hU hk hF K hK => ?_) ?_
                      · go_wp2_with fail
                        refine (r_in Ax no cx out a _ (RIN.out W hU) HNO.out (by omega)).mono ?_; rintro e w9 ⟨rfl, rfl⟩
                        rw [hbi]
                        go_wp2_with fail
                        exact hK.out _ _ (outV_new rfl rfl (by intro b hb; cases hb) (.refl _ _))
                      rintro _ rfl
                      simp only [Act.put, List.setIfInBounds_toArray, List.set_cons_zero, List.set_cons_succ]
                      with_reducible apply wpV_light
                      · simp only [lightOp]
                      · intro W hU hF
                        have f0 := CS.out W hU
                        clear hU hF
                        go_simp
                        exact rfl
                      simp only [Act.put, List.setIfInBounds_toArray, List.set_cons_zero, List.set_cons_succ]
                      with_reducible apply wpV_light
                      · simp only [lightOp]
                      · intro W hU hF
                        have f0 := CS.out W hU
                        clear hU hF
                        go_simp
                        exact rfl
                      simp only [Act.put, List.setIfInBounds_toArray, List.set_cons_zero, List.set_cons_succ]
                      with_reducible apply wpV_light
                      · simp only [lightOp]
                      · intro W hU hF
                        have f0 := CS.out W hU
                        clear hU hF
                        go_simp
                        exact rfl
                      simp only [Act.put, List.setIfInBounds_toArray, List.set_cons_zero, List.set_cons_succ]
                      with_reducible apply wpV_light
                      · simp only [lightOp]
                      · intro W hU hF
                        have f0 := CS.out W hU
                        clear hU hF
                        go_simp
                        exact rfl
                      simp only [Act.put, List.setIfInBounds_toArray, List.set_cons_zero, List.set_cons_succ]
                      with_reducible apply wpV_light
                      · simp only [lightOp]
                      · intro W hU hF
                        have f0 := CS.out W hU
                        clear hU hF
                        go_simp
                        exact rfl
                      simp only [Act.put, List.setIfInBounds_toArray, List.set_cons_zero, List.set_cons_succ]
                      with_reducible apply wpV_light
                      · simp only [lightOp]
                      · intro W hU hF
                        have f0 := CS.out W hU
                        clear hU hF
                        go_simp
                        exact rfl
                      simp only [Act.put, List.setIfInBounds_toArray, List.set_cons_zero, List.set_cons_succ]
                      with_reducible apply wpV_light
                      · simp only [lightOp]
                      · intro W hU hF
                        have f0 := CS.out W hU
                        clear hU hF
                        go_simp
                        exact rfl
                      simp only [Act.put, List.setIfInBounds_toArray, List.set_cons_zero, List.set_cons_succ]
                      with_reducible apply wpV_light
                      · simp only [lightOp]
                      · intro W hU hF
                        have f0 := CS.out W hU
                        clear hU hF
                        go_simp
                        exact rfl
                      simp only [Act.put, List.setIfInBounds_toArray, List.set_cons_zero, List.set_cons_succ]
                      with_reducible apply wpV_light
                      · simp only [lightOp]
                      · intro W hU hF
                        have f0 := CS.out W hU
                        clear hU hF
                        go_simp
                        exact rfl
                      simp only [Act.put, List.setIfInBounds_toArray, List.set_cons_zero, List.set_cons_succ]
                      with_reducible apply wpV_light
                      · simp only [lightOp]
                      · intro W hU hF
                        have f0 := CS.out W hU
                        clear hU hF
                        go_simp
                        exact rfl
                      simp only [Act.put, List.setIfInBounds_toArray, List.set_cons_zero, List.set_cons_succ]
                      refine wpV_heavy (by simp only [lightOp]) (by rfl) (fun W hU hk hF K hK => ?_) ?_
                      · go_wp2_with fail
                        refine (r_leads Ag ng cg g a b _ (RLD.out W hU) HNG.out (by omega)).mono ?_; rintro e w9 ⟨rfl, rfl⟩
                        rw [hbl]
                        go_wp2_with fail
                        exact hK.out _ _ (outV_new rfl rfl (by intro b hb; cases hb) (.refl _ _))
                      rintro _ rfl
                      simp only [Act.put, List.setIfInBounds_toArray, List.set_cons_zero, List.set_cons_succ]
                      with_reducible apply wpV_light
                      · simp only [lightOp]
                      · intro W hU hF
                        have f0 := CS.out W hU
                        clear hU hF
                        go_simp
                        exact rfl
                      simp only [Act.put, List.setIfInBounds_toArray, List.set_cons_zero, List.set_cons_succ]
                      with_reducible apply wpV_light
                      · simp only [lightOp]
                      · intro W hU hF
                        have f0 := CS.out W hU
                        clear hU hF
                        go_simp
                        exact rfl
                      simp only [Act.put, List.setIfInBounds_toArray, List.set_cons_zero, List.set_cons_succ]
                      with_reducible apply wpV_light
                      · simp only [lightOp]
                      · intro W hU hF
                        have f0 := CS.out W hU
                        clear hU hF
                        go_simp
                        exact rfl
                      simp only [Act.put, List.setIfInBounds_toArray, List.set_cons_zero, List.set_cons_succ]
                      with_reducible apply wpV_light
                      · simp only [lightOp]
                      · intro W hU hF
                        have f0 := CS.out W hU
                        clear hU hF
                        go_simp
                        exact rfl
                      simp only [Act.put, List.setIfInBounds_toArray, List.set_cons_zero, List.set_cons_succ]
                      refine wpV_end (fun W hU _ _ => ?_)
                      have U2' : Hid (Upd [] wx W) := Lib.hid (UY.out.drew.trans hU)
                      clear hU
                      refine wpT_end ?_
                      go_wp2_with fail
                      go_roundw
                      case rel => exact ⟨_, k' + 1, rfl, by go_num, by omega, Lib.hid ⟨by rw [HST.out]; simp, U2'.out⟩⟩
                      case measure => simp [intOf]; omega
                · have : k' = na := by omega
                  subst this
                  have HFB : Hid (fr = freeB g all out b) := Lib.hid (by rw [HFR.out]; exact freeTo_all (by rw [HNA.out]; exact Nat.le_refl _))
                  have HPK : Hid (pickB g all out b = fr) := Lib.hid (by unfold pickB; rw [HFB.out]; simp [HBO.out])
                  have OY := Lib.hid (OX.out.upd0 UY.out)
                  cases fr with
                  | false =>
                    have HNP2 : Hid (NoPick g all out (i + 1)) := Lib.hid (noPick_step HNP.out HB.out HPK.out)
                    go_wp2_with fail
                    go_roundw
                    case rel => exact ⟨false, i + 1, rfl, by go_num, by omega, Lib.hid ⟨out, UX.out.trans UY.out, OY.out, fun _ => ⟨rfl, HNP2.out⟩, fun h => by cases h⟩⟩
                    case measure => simp [intOf]; omega
                  | true =>
                    have f0 := HTB.out wy i b UY.out HB.out
                    have HSZ : Hid (w2.heap.size ≤ wy.heap.size) := Lib.hid (UX.out.trans UY.out).size
                    have OWY : Hid (wy.ownsRow w2.heap.size 3 1 (.slice Ax no cx) no (flat encK out)) := Lib.hid (by have := OY.out; unfold Ow at this; rw [HNO.out] at this; exact this)
                    have HNX := Lib.hid (noPick_find HNP.out HB.out HPK.out)
                    have q8 : no + 1 ≤ 100 := by omega
                    go_wp2_with (at_builtin; refine stoppedR ?_)
                    refine Lib.hid ?_
                    refine wpList_app _ (by rfl) (.tmp 65) (.tmp 70) _ (by rfl) int_elem (.slice Ax no cx) _ (by rfl) (by rfl) (own_upd0 OWY.out ((Upd.refl [] wy).alloc _)) (.of_blk (Blk.new wy 3 #[.int .i64 b]) (m := 1) 1 rfl) (by intro u hu; simp at hu; subst hu; rfl) (by simp only [maxLen]; omega) (by omega) (Nat.le_trans HSZ.out (by simp)) ?_
                    intro v5 W5 o5 u5 b5
                    have O5 : Hid (Ow encK 3 W5 w2.heap.size v5 (out ++ [b])) := Lib.hid (by
                      unfold Ow
                      rw [flat_append, List.length_append, HNO.out]
                      exact o5)
                    have U5 : Hid (Upd [] w2 W5) := Lib.hid ((UX.out.trans UY.out).trans' ((((Upd.refl [] wy).alloc _).mono (T := (Value.slice Ax no cx).ownBlock.toList) (by simp)).trans u5) (by
                      intro x hx
                      exact .inr (own_lt OWY.out (by simpa using hx)).1))
                    obtain ⟨A5, c5, rfl, _, _⟩ := own_slice o5
                    clear o5 u5 b5
                    go_wp2_with fail
                    go_roundw
                    case rel => exact ⟨true, i + 1, rfl, by go_num, by omega, Lib.hid ⟨out ++ [b], U5.out, O5.out, (fun h => by cases h), fun _ => ⟨b, rfl, HNX.out⟩⟩⟩
                    case measure => simp [intOf]; omega
          · have : i = na := by omega
            subst this
            have d : decide ((i : Int) < (i : Int)) = false := by simp
            have HS : Hid (sb = none) := Lib.hid (by
              rw [← HSB.out, HV.out, show i - no = (i - no - 1) + 1 by omega]
              unfold serialGo
              rw [if_pos (by rw [HNO.out, HNA.out]; exact hlt), noPick_none HNP.out (by rw [HNA.out]; exact Nat.le_refl _)])
            go_wp2_with fail
            go_ret2
            unfold RSerPost
            rw [HGG.out, HALL.out, HSB.out, HS.out]
            exact ⟨_, _, rfl, U2.out.trans UX.out, (fun o ho => by cases ho), fun _ => ⟨rfl, rfl⟩⟩
    · have d : decide ((no : Int) < (na : Int)) = false := by simp; omega
      have HS : Hid (sb = some out) := Lib.hid (by
        rw [← HSB.out, HV.out, show na - no = 0 by omega]
        unfold serialGo
        rw [if_neg (by rw [HNO.out, HNA.out]; exact hlt)])
      go_wp2_with fail
      go_ret2
      unfold RSerPost
      rw [HGG.out, HALL.out, HSB.out, HS.out]
      exact ⟨_, _, rfl, U2.out.trans UQ.out, (fun o ho => by cases ho; exact ⟨own_base OQ.out U2.out.size, rfl⟩), fun h => by cases h⟩
end Go.Proofs.YteddiknlcdbhjaaGreat

namespace Go.Proofs.YteddiknlcdbhjaaGreat
open Go Go.RowKit TrP
attribute [local go_sem] litStep_value

theorem way_elem : Elem Tryz.prog 43 26 1 24 := Elem.mk' (z := .slice none 0 0) Tryz.underlying43 (by kernel_rfl) rfl (by omega)
/-- Ways, and which have been met, in memory. -/
structure RgM (B : Nat) (wq : World) (wv mv : Value) (met : List Int) (ways : List (List Int)) : Prop where
  wy : ∃ us, wq.ownsRow B 26 1 wv ways.length us ∧ us.length = ways.length ∧ ∀ (i : Nat) u x, us[i]? = some u → ways[i]? = some x → Ow encK 3 wq B u x ∧ ∀ y, u.ownBlock = some y → mv.ownBlock ≠ some y
  mt : Ow encK 3 wq B mv met
section
variable {B : Nat} {wq w' : World} {wv mv : Value} {met : List Int} {ways : List (List Int)}
theorem RgM.upd0 (h : RgM B wq wv mv met ways) (hu : Upd [] wq w') : RgM B w' wv mv met ways := by
  obtain ⟨⟨us, h1, h2, h3⟩, h4⟩ := h
  exact ⟨⟨us, own_upd0 h1 hu, h2, fun i u x hi hx => ⟨(h3 i u x hi hx).1.upd0 hu, (h3 i u x hi hx).2⟩⟩, h4.upd0 hu⟩
theorem own_apart {w : World} {B1 B2 n1 n2 s1 s2 : Nat} {e1 e2 : TypeId} {v1 v2 : Value} {xs1 xs2 : List Value} (h1 : w.ownsRow B1 e1 s1 v1 n1 xs1) (h2 : w.ownsRow B2 e2 s2 v2 n2 xs2) (hne : e1 ≠ e2) {y : Nat} (hy : v1.ownBlock = some y) : v2.ownBlock ≠ some y := by
  rcases h1.2 with ⟨rfl, _⟩ | ⟨g, cap, cur, rfl, _, hg, _⟩
  · cases hy
  · cases hy
    exact own_type h2 hg hne
theorem RgM.addMet (h : RgM B wq wv mv met ways) {mv' : Value} {met' : List Int} (hu : Upd mv.ownBlock.toList wq w') (ho : Ow encK 3 w' B mv' met') (hb : mv'.ownBlock = mv.ownBlock ∨ mv'.ownBlock = some wq.heap.size) : RgM B w' wv mv' met' ways := by
  obtain ⟨⟨us, h1, h2, h3⟩, h4⟩ := h
  refine ⟨⟨us, own_upd h1 hu (fun b hb hm => own_apart h1 h4 (by decide) hb (by simpa using hm)), h2, fun i u x hi hx => ?_⟩, ho⟩
  obtain ⟨h5, h6⟩ := h3 i u x hi hx
  refine ⟨h5.upd hu (fun b hb hm => h6 b hb (by simpa using hm)), fun y hy e => ?_⟩
  rcases hb with g | g
  · exact h6 y hy (g ▸ e)
  · rw [e] at g
    cases g
    have := (own_lt h5 hy).2
    omega
theorem RgM.addWay (h : RgM B wq wv mv met ways) {wv' : Value} {u : Value} {x : List Int} (hu : Upd wv.ownBlock.toList wq w') {us : List Value} (h1 : wq.ownsRow B 26 1 wv ways.length us) (h2 : us.length = ways.length) (h3 : ∀ (i : Nat) u x, us[i]? = some u → ways[i]? = some x → Ow encK 3 wq B u x ∧ ∀ y, u.ownBlock = some y → mv.ownBlock ≠ some y) (ho : w'.ownsRow B 26 1 wv' (ways.length + 1) (us ++ [u])) (hx : Ow encK 3 wq B u x) (hn : ∀ y, u.ownBlock = some y → mv.ownBlock ≠ some y) : RgM B w' wv' mv met (ways ++ [x]) := by
  have key : ∀ {v : Value} {z : List Int}, Ow encK 3 wq B v z → Ow encK 3 w' B v z := fun hv => hv.upd hu (fun b hb hm => own_apart hv h1 (by decide) hb (by simpa using hm))
  refine ⟨⟨us ++ [u], by rw [List.length_append]; exact ho, by simp [h2], fun i v z hi hz => ?_⟩, key h.mt⟩
  rcases Nat.lt_or_ge i us.length with hl | hl
  · rw [List.getElem?_append_left hl] at hi
    rw [List.getElem?_append_left (by omega)] at hz
    exact ⟨key (h3 i v z hi hz).1, (h3 i v z hi hz).2⟩
  · rw [List.getElem?_append_right hl] at hi
    rw [List.getElem?_append_right (by omega)] at hz
    have hi0 := (List.getElem?_eq_some_iff.1 hi).1
    simp at hi0
    rw [hi0] at hi
    rw [show i - ways.length = 0 by omega] at hz
    simp at hi hz
    subst hi hz
    exact ⟨key hx, hn⟩
end
theorem scanA_drop {g : List Ed} {all : List Int} {n last k : Int} {w : List Int} {met : List Int} {ways : List (List Int)} {j : Nat} (h : all[j]? = some k) : scanR g n last w (all.drop j) met ways = if leadsB g last k = true then (if k = n then none else if k ∈ met then scanR g n last w (all.drop (j + 1)) met ways else scanR g n last w (all.drop (j + 1)) (met ++ [k]) (ways ++ [w ++ [k]])) else scanR g n last w (all.drop (j + 1)) met ways := by
  obtain ⟨hj, rfl⟩ := List.getElem?_eq_some_iff.1 h
  rw [List.drop_eq_getElem_cons hj]
  rfl
theorem bfsA_hit {g : List Ed} {all : List Int} {n : Int} {f m : Nat} {w : List Int} {met : List Int} {ways : List (List Int)} (hw : ways[m]? = some w) (hs : scanR g n (w.getLastD 0) w all met ways = none) : bfsR g all n (f + 1) m met ways = w := by
  conv => lhs; unfold bfsR
  rw [hw]
  simp only
  rw [hs]
theorem bfsA_on {g : List Ed} {all : List Int} {n : Int} {f m : Nat} {w : List Int} {met : List Int} {ways : List (List Int)} {met' : List Int} {ways' : List (List Int)} (hw : ways[m]? = some w) (hs : scanR g n (w.getLastD 0) w all met ways = some (met', ways')) : bfsR g all n (f + 1) m met ways = bfsR g all n f (m + 1) met' ways' := by
  conv => lhs; unfold bfsR
  rw [hw]
  simp only
  rw [hs]
def RRingPost (l : List Ev) (w : World) (e : Ending) (w' : World) : Prop := ∃ v, e = .returned v ∧ Upd [] w w' ∧ Ow encK 3 w' w.heap.size v (ringL (graphR l) (txnsR l))
set_option maxRecDepth 100000 in
set_option maxHeartbeats 16000000 in
theorem r_ring (A : Option Addr) (n k : Nat) (l : List Ev) (w : World) (h : Rd encEv w (.slice A n k) l) (hn : l.length = n) (hl : n ≤ 60) :
    Calls Tryz.prog 14 #[.slice A n k] w fun e w' => RRingPost l w e w' := by
  have H := Lib.hid h
  have HN := Lib.hid hn
  have hg60 := graphR_short l (by omega)
  have ht60 : (txnsR l).length ≤ 60 := by have := foldT_len l l []; unfold txnsR; simp at this; omega
  clear h hn
  go_enter Tryz.func14, Tryz.ntmps14
  go_wp2_with fail
  refine (r_graph A n k l w H.out HN.out hl).mono ?_; rintro e w1 ⟨gv, rfl, og, u1⟩
  have OG1 := Lib.hid og
  have U1 := Lib.hid u1
  clear og u1
  go_wp2_with fail
  refine (r_txns A n k l w1 (H.out.upd0 U1.out) HN.out hl).mono ?_; rintro e w2 ⟨tv, rfl, ot, u2⟩
  have OG2 := Lib.hid (OG1.out.upd0 u2)
  have OT2 := Lib.hid ot
  have U2 := Lib.hid (U1.out.trans u2)
  have SZ1 : Hid (w.heap.size ≤ w1.heap.size) := Lib.hid U1.out.size
  obtain ⟨g, hg⟩ : ∃ g, graphR l = g := ⟨_, rfl⟩
  obtain ⟨all, hall⟩ : ∃ all, txnsR l = all := ⟨_, rfl⟩
  have HGG := Lib.hid hg
  have HALL := Lib.hid hall
  rw [hg] at OG2 hg60
  rw [hall] at OT2 ht60
  obtain ⟨Ag, cg, rfl, _, _⟩ := OG2.out.form
  obtain ⟨At, ct, rfl, _, _⟩ := OT2.out.form
  obtain ⟨ng, hng⟩ : ∃ ng, g.length = ng := ⟨_, rfl⟩
  obtain ⟨na, hna⟩ : ∃ na, all.length = na := ⟨_, rfl⟩
  have HNG := Lib.hid hng
  have HNA := Lib.hid hna
  rw [hng] at OG2 hg60 ⊢
  rw [hna] at OT2 ht60 ⊢
  clear ot u2 hg hall hng hna OG1 U1
  go_wp2_with fail
  go_loopw [5] (fun u wq => ∃ i : Nat, u = .int .i64 i ∧ i ≤ na ∧ Hid (Upd [] w2 wq ∧ ringL g all = ringGo g all (all.drop i))) (fun u _ => na - (intOf u).toNat)
  case atStart => exact ⟨0, rfl, by omega, Lib.hid ⟨.refl _ _, rfl⟩⟩
  case round =>
    obtain ⟨i, rfl, hi, HREL⟩ := hrel
    rename World => wq
    obtain ⟨uq, hrg⟩ := HREL.out
    have UQ := Lib.hid uq
    have HRG := Lib.hid hrg
    clear uq hrg HREL
    by_cases hin : i < na
    · obtain ⟨b, hb⟩ : ∃ b, all[i]? = some b := ⟨_, List.getElem?_eq_getElem (by rw [HNA.out]; exact hin)⟩
      have HB := Lib.hid hb
      have OTX := Lib.hid (OT2.out.upd0 UQ.out)
      have OGX := Lib.hid (OG2.out.upd0 UQ.out)
      obtain ⟨tb, tc, tcur, e1, -⟩ := own_form OTX.out (by rw [HNA.out]; omega)
      injection e1 with e1 e2 e3
      subst e1 e3
      clear e2
      have HTB : Hid (∀ W k a, Upd [] wq W → all[k]? = some a → W.cell? ⟨tb, k, none⟩ = some (.int .i64 a)) := Lib.hid (fun W k a hW hk => by
        have h1 := (OTX.out.upd0 hW).at_ hk 0 _ rfl
        rwa [show k * encK.s + 0 = k by simp [encI]] at h1)
      have f0 := HTB.out wq i b (.refl _ _) hb
      have q3 : (0 : Int) ≤ (i : Int) := by omega
      have q4 : (i : Int) < (na : Int) := by omega
      clear hb
      go_wp2_with fail
      clear f0
      have START : Hid (RgM wq.heap.size (((wq.alloc (.cells #[.int .i64 b] 3)).alloc (.cells #[.slice (some ⟨wq.heap.size, 0, none⟩) 1 1] 26)).alloc (.cells #[] 3)) (.slice (some ⟨wq.heap.size + 1, 0, none⟩) 1 1) (.slice (some ⟨wq.heap.size + 1 + 1, 0, none⟩) 0 0) [] [[b]]) := Lib.hid {
        wy := ⟨[.slice (some ⟨wq.heap.size, 0, none⟩) 1 1], own_base (own_lit (n := 1) (s := 1) ((Blk.newAt 26 #[.slice (some ⟨wq.heap.size, 0, none⟩) 1 1] (H := wq.heap.size + 1) (by simp)).alloc _) rfl (by omega)) (by omega), rfl, fun i u x hi hx => by
          cases i with
          | zero =>
            simp at hi hx
            subst hi hx
            exact ⟨own_lit (n := 1) (s := 1) (((Blk.new wq 3 #[.int .i64 b]).alloc _).alloc _) rfl (by omega), fun y hy e => by simp [Value.ownBlock] at hy e; omega⟩
          | succ i => simp at hi⟩
        mt := own_base (own_lit (n := 0) (s := 1) (Blk.newAt 3 #[] (H := wq.heap.size + 1 + 1) (by simp)) rfl (by omega)) (by omega) }
      have U3 : Hid (Upd [] wq (((wq.alloc (.cells #[.int .i64 b] 3)).alloc (.cells #[.slice (some ⟨wq.heap.size, 0, none⟩) 1 1] 26)).alloc (.cells #[] 3))) := Lib.hid ((((Upd.refl [] wq).alloc _).alloc _).alloc _)
      generalize (((wq.alloc (.cells #[.int .i64 b] 3)).alloc (.cells #[.slice (some ⟨wq.heap.size, 0, none⟩) 1 1] 26)).alloc (.cells #[] 3)) = w3 at *
      go_loopw [6, 7, 8] (fun wv mv u wx => ∃ m : Nat, u = .int .i64 m ∧ Hid (∃ fr met ways, RgM wq.heap.size wx wv mv met ways ∧ From g all b fr met ways ∧ m ≤ ways.length ∧ aroundR g all b = bfsR g all b (na + 1 - m) m met ways ∧ Upd [] wq wx)) (fun _ _ u _ => 100 - (intOf u).toNat)
      case atStart => exact ⟨0, rfl, Lib.hid ⟨_, [], [[b]], START.out, From.start b, by simp, by rw [← HNA.out]; rfl, U3.out⟩⟩
      case round =>
        obtain ⟨m, rfl, HRELM⟩ := hrel
        rename World => wx
        obtain ⟨fr, met, ways, rg, bf, hm, hv, ux⟩ := HRELM.out
        have hml : met.length ≤ 60 := Nat.le_trans bf.bfs.small (by rw [HNA.out]; exact ht60)
        have hwl := bf.bfs.len
        obtain ⟨⟨us, h1, h2, h3⟩, h4⟩ := rg
        obtain ⟨Aw, cw, rfl, _, _⟩ := own_slice h1
        obtain ⟨Am, cm, rfl, _, _⟩ := h4.form
        have RG : Hid (RgM wq.heap.size wx (.slice Aw ways.length cw) (.slice Am met.length cm) met ways) := Lib.hid ⟨⟨us, h1, h2, h3⟩, h4⟩
        have BF := Lib.hid bf
        have HV := Lib.hid hv
        have UX := Lib.hid ux
        have H1 := Lib.hid h1
        have H2 := Lib.hid h2
        have H3 := Lib.hid h3
        obtain ⟨nw, hnw⟩ : ∃ nw, ways.length = nw := ⟨_, rfl⟩
        obtain ⟨nm, hnm⟩ : ∃ nm, met.length = nm := ⟨_, rfl⟩
        have HNW := Lib.hid hnw
        have HNM := Lib.hid hnm
        rw [hnw] at hwl hm RG H1 H2 ⊢
        rw [hnm] at hwl hml RG ⊢
        have HNWM := Lib.hid hwl
        have hnw61 : nw ≤ 61 := by omega
        clear hwl HRELM bf hv ux h1 h2 h3 h4 hnw hnm START
        by_cases hmn : m < nw
        · obtain ⟨wl, hwl2⟩ : ∃ wl, ways[m]? = some wl := ⟨_, List.getElem?_eq_getElem (by rw [HNW.out]; exact hmn)⟩
          obtain ⟨u, hu⟩ : ∃ u, us[m]? = some u := ⟨_, List.getElem?_eq_getElem (by rw [H2.out]; exact hmn)⟩
          obtain ⟨ou, hua⟩ := H3.out m u wl hu hwl2
          have hpos : 0 < wl.length := (BF.out.len m wl hwl2).1
          obtain ⟨ug, uc, ucur, rfl, _, _, _, _, _, _⟩ := own_form ou hpos
          obtain ⟨lp, hlp⟩ : ∃ lp, wl.length = lp + 1 := ⟨wl.length - 1, by omega⟩
          have hlp100 : lp + 1 ≤ 100 := by
            rw [← hlp]
            have := (BF.out.len m wl hwl2).2
            omega
          rw [hlp] at ou hua hu
          obtain ⟨la, hla⟩ : ∃ la, wl.getLastD 0 = la := ⟨_, rfl⟩
          obtain ⟨wg, wc, wcur, e1, -⟩ := own_form H1.out (by omega)
          injection e1 with e1 e2 e3
          subst e1 e3
          clear e2
          have f0 : wx.cell? ⟨wg, m, none⟩ = some (.slice (some ⟨ug, 0, none⟩) (lp + 1) uc) := own_cell H1.out m _ hu
          have f1 : wx.cell? ⟨ug, lp, none⟩ = some (.int .i64 la) := by
            have h1 := Ow.at_ ou (k := lp) (a := la) (by
              rw [← hla, List.getLastD_eq_getLast?, List.getLast?_eq_getElem?, hlp, Nat.add_sub_cancel]
              obtain ⟨z, hz⟩ : ∃ z, wl[lp]? = some z := ⟨_, List.getElem?_eq_getElem (by omega)⟩
              rw [hz]; rfl) 0 _ rfl
            rwa [show lp * encK.s + 0 = lp by simp [encI]] at h1
          have q5 : (0 : Int) ≤ (m : Int) := by omega
          have q6 : (m : Int) < (nw : Int) := by omega
          have q7 : (0 : Int) ≤ (lp : Int) := by omega
          have q8 : (lp : Int) < (lp : Int) + 1 := by omega
          have HWL := Lib.hid hwl2
          have HLA := Lib.hid hla
          have HLP := Lib.hid hlp
          have OU := Lib.hid ou
          have HUA := Lib.hid hua
          clear hwl2 hu ou hua hla hlp hpos
          go_wp2_with fail
          clear f0 f1
          go_loopw [6, 7, 11] (fun wv mv u wy => ∃ k : Nat, u = .int .i64 k ∧ k ≤ na ∧ Hid (∃ fr' met' ways', RgM wq.heap.size wy wv mv met' ways' ∧ From g all b fr' met' ways' ∧ ways'[m]? = some wl ∧ Ow encK 3 wy wq.heap.size (.slice (some ⟨ug, 0, none⟩) (lp + 1) uc) wl ∧ mv.ownBlock ≠ some ug ∧ scanR g b la wl all met ways = scanR g b la wl (all.drop k) met' ways' ∧ Upd [] wq wy)) (fun _ _ u _ => na - (intOf u).toNat)
          case atStart => exact ⟨0, rfl, by omega, Lib.hid ⟨fr, met, ways, RG.out, BF.out, HWL.out, OU.out, (by have h := HUA.out ug rfl; rw [HNM.out] at h; exact h), rfl, UX.out⟩⟩
          case round =>
            obtain ⟨k', rfl, hk, HRELK⟩ := hrel
            rename World => wy
            obtain ⟨fr', met', ways', rg', bf', hw', ou', hua', hsc, uy⟩ := HRELK.out
            have hml' : met'.length ≤ 60 := Nat.le_trans bf'.bfs.small (by rw [HNA.out]; exact ht60)
            have hwl' := bf'.bfs.len
            have hmw := (List.getElem?_eq_some_iff.1 hw').1
            obtain ⟨⟨us', h1, h2, h3⟩, h4⟩ := rg'
            obtain ⟨Aw', cw', rfl, _, _⟩ := own_slice h1
            obtain ⟨Am', cm', rfl, _, _⟩ := h4.form
            have RG' : Hid (RgM wq.heap.size wy (.slice Aw' ways'.length cw') (.slice Am' met'.length cm') met' ways') := Lib.hid ⟨⟨us', h1, h2, h3⟩, h4⟩
            have BF' := Lib.hid bf'
            have HW' := Lib.hid hw'
            have OU' := Lib.hid ou'
            have HUA' := Lib.hid hua'
            have HSC := Lib.hid hsc
            have UY := Lib.hid uy
            have H1' := Lib.hid h1
            have H4' := Lib.hid h4
            obtain ⟨nw', hnw⟩ : ∃ nw', ways'.length = nw' := ⟨_, rfl⟩
            obtain ⟨nm', hnm⟩ : ∃ nm', met'.length = nm' := ⟨_, rfl⟩
            have HNW' := Lib.hid hnw
            have HNM' := Lib.hid hnm
            rw [hnw] at hwl' hmw RG' H1' ⊢
            rw [hnm] at hwl' hml' RG' H4' HUA' ⊢
            have HNWM' := Lib.hid hwl'
            have hnw61' : nw' ≤ 61 := by omega
            clear hwl' HRELK bf' hw' ou' hua' hsc uy h1 h2 h3 h4 hnw hnm
            by_cases hkn : k' < na
            · obtain ⟨a, ha⟩ : ∃ a, all[k']? = some a := ⟨_, List.getElem?_eq_getElem (by rw [HNA.out]; exact hkn)⟩
              have HSD := Lib.hid (scanA_drop (g := g) (n := b) (last := la) (w := wl) (met := met') (ways := ways') ha)
              have HA := Lib.hid ha
              have f0 := HTB.out wy k' a UY.out ha
              have f1 := HTB.out wy i b UY.out HB.out
              have r3 : (0 : Int) ≤ (k' : Int) := by omega
              have r4 : (k' : Int) < (na : Int) := by omega
              obtain ⟨bl, hbl⟩ : ∃ bl, leadsB g la a = bl := ⟨_, rfl⟩
              have HBL := Lib.hid hbl
              clear ha hbl
              go_wp2_with fail
              refine (r_leads Ag ng cg g la a wy (OGX.out.upd0 UY.out).rd HNG.out (by omega)).mono ?_; rintro e w9 ⟨rfl, rfl⟩
              rw [HBL.out]
              cases bl with
              | false =>
                have HS2 : Hid (scanR g b la wl all met ways = scanR g b la wl (all.drop (k' + 1)) met' ways') := Lib.hid (by rw [HSC.out, HSD.out, if_neg (by rw [HBL.out]; simp)])
                clear f0 f1
                go_wp2_with fail
                go_roundw
                case rel => exact ⟨k' + 1, by go_num, by omega, Lib.hid ⟨fr', met', ways', RG'.out, BF'.out, HW'.out, OU'.out, HUA'.out, HS2.out, UY.out⟩⟩
                case measure => simp [intOf]; omega
              | true =>
                by_cases hab : a = b
                · have d : (a == b) = true := by simp [hab]
                  have HAR : Hid (aroundR g all b = wl) := Lib.hid (by
                    have h60 := BF.out.bfs.small
                    rw [HV.out, show na + 1 - m = (na - m) + 1 by rw [HNM.out, HNA.out] at h60; have := HNWM.out; omega]
                    refine bfsA_hit HWL.out ?_
                    rw [HLA.out, HSC.out, HSD.out, if_pos HBL.out, if_pos hab])
                  have HNE : Hid (wl ≠ []) := Lib.hid (fun e => by have h1 := HLP.out; rw [e] at h1; simp at h1)
                  have HR2 : Hid (ringL g all = wl) := Lib.hid (by rw [HRG.out, ring_drop HB.out, if_neg (by rw [HAR.out]; exact HNE.out), HAR.out])
                  have HUW : Hid (Upd [] w wy) := Lib.hid (U2.out.trans (UQ.out.trans UY.out))
                  have HBW : Hid (w.heap.size ≤ wq.heap.size) := Lib.hid (U2.out.trans UQ.out).size
                  clear hab
                  go_wp2_with fail
                  go_quiet (fail)
                  go_wp2_with fail
                  go_ret
                  unfold RRingPost
                  rw [HGG.out, HALL.out, HR2.out]
                  exact ⟨_, rfl, HUW.out.drewN _, own_base (OU'.out.upd0 ((Upd.refl [] wy).drewN _)) HBW.out⟩
                · have d : (a == b) = false := by simpa using hab
                  go_wp2_with fail
                  go_quiet (fail)
                  go_wp2_with fail
                  generalize hwd : wy.drewN _ = wd
                  have UD : Hid (Upd [] wy wd) := Lib.hid (by rw [← hwd]; exact (Upd.refl [] wy).drewN _)
                  have RGD := Lib.hid (RG'.out.upd0 UD.out)
                  have OUD := Lib.hid (OU'.out.upd0 UD.out)
                  have UYD := Lib.hid (UY.out.trans UD.out)
                  have HAB := Lib.hid hab
                  clear hwd f0 f1 hab
                  refine (r_in Am' nm' cm' met' a wd RGD.out.mt.rd HNM'.out (by omega)).mono ?_; rintro e w9 ⟨rfl, rfl⟩
                  by_cases hin2 : a ∈ met'
                  · rw [decide_eq_true hin2]
                    have HS2 : Hid (scanR g b la wl all met ways = scanR g b la wl (all.drop (k' + 1)) met' ways') := Lib.hid (by rw [HSC.out, HSD.out, if_pos HBL.out, if_neg HAB.out, if_pos hin2])
                    clear hin2
                    go_wp2_with fail
                    go_roundw
                    case rel => exact ⟨k' + 1, by go_num, by omega, Lib.hid ⟨fr', met', ways', RGD.out, BF'.out, HW'.out, OUD.out, HUA'.out, HS2.out, UYD.out⟩⟩
                    case measure => simp [intOf]; omega
                  · rw [decide_eq_false hin2]
                    have HS2 : Hid (scanR g b la wl all met ways = scanR g b la wl (all.drop (k' + 1)) (met' ++ [a]) (ways' ++ [wl ++ [a]])) := Lib.hid (by rw [HSC.out, HSD.out, if_pos HBL.out, if_neg HAB.out, if_neg hin2])
                    have FP : Hid (From g all b (fun x => if x = a then some (wl.getLastD 0) else fr' x) (met' ++ [a]) (ways' ++ [wl ++ [a]])) := Lib.hid (BF'.out.push HW'.out (by rw [HLA.out]; exact HBL.out) HAB.out hin2 (List.mem_of_getElem? HA.out))
                    have HWA : Hid ((ways' ++ [wl ++ [a]])[m]? = some wl) := Lib.hid (by rw [List.getElem?_append_left (by rw [HNW'.out]; exact hmw)]; exact HW'.out)
                    have hq61 : nm' + 1 ≤ 61 := by omega
                    clear hin2
                    have f0 := HTB.out wd k' a UYD.out HA.out
                    have OMD : Hid (wd.ownsRow wq.heap.size 3 1 (.slice Am' nm' cm') nm' (flat encK met')) := Lib.hid (by have := RGD.out.mt; unfold Ow at this; rw [HNM'.out] at this; exact this)
                    have HSZ : Hid (wq.heap.size ≤ wd.heap.size) := Lib.hid UYD.out.size
                    go_wp2_with (at_builtin; refine stoppedR ?_)
                    refine Lib.hid ?_
                    refine wpList_app _ (by rfl) (.tmp 76) (.tmp 81) _ (by rfl) int_elem (.slice Am' nm' cm') _ (by rfl) (by rfl) (own_upd0 OMD.out ((Upd.refl [] wd).alloc _)) (.of_blk (Blk.new wd 3 #[.int .i64 a]) (m := 1) 1 rfl) (by intro u hu; simp at hu; subst hu; rfl) (by simp only [maxLen]; omega) (by omega) (Nat.le_trans HSZ.out (by simp)) ?_
                    intro v5 W5 o5 u5 b5
                    have RG5 : Hid (RgM wq.heap.size W5 (.slice Aw' nw' cw') v5 (met' ++ [a]) ways') := Lib.hid ((RGD.out.upd0 ((Upd.refl [] wd).alloc _)).addMet u5 (by
                      unfold Ow
                      rw [flat_append, List.length_append, HNM'.out]
                      exact o5) b5)
                    have OU5 : Hid (Ow encK 3 W5 wq.heap.size (.slice (some ⟨ug, 0, none⟩) (lp + 1) uc) wl) := Lib.hid ((OUD.out.upd0 ((Upd.refl [] wd).alloc _)).upd u5 (fun y hy hm => by
                      cases hy
                      exact HUA'.out (by simpa using hm)))
                    have HU5 : Hid (v5.ownBlock ≠ some ug) := Lib.hid (fun e => by
                      rcases b5 with g5 | g5
                      · exact HUA'.out (g5 ▸ e)
                      · rw [e] at g5
                        have h1 := (own_lt OUD.out (b := ug) rfl).2
                        simp at g5
                        omega)
                    have UY5 : Hid (Upd [] wq W5) := Lib.hid ((UYD.out.trans ((Upd.refl [] wd).alloc _)).trans' u5 (by intro x hx; exact .inr (own_lt OMD.out (by simpa using hx)).1))
                    obtain ⟨A5, c5, rfl, _, _⟩ := own_slice o5
                    clear o5 u5 b5 f0
                    have CS : Hid (∀ W, Upd [] W5.drew W → W.cell? ⟨tb, k', none⟩ = some (.int .i64 a)) := Lib.hid (fun W hW => HTB.out W k' a (UY5.out.drew.trans hW) HA.out)
                    have F1 : Hid (∀ W, Upd [] W5.drew W → Src W 1 (.slice (some ⟨ug, 0, none⟩) (lp + 1) uc) (lp + 1) (flat encK wl)) := Lib.hid (fun W hW => by
                      have := (OU5.out.upd0 ((Upd.refl [] W5).drew.trans hW)).rd
                      unfold Rd at this
                      rw [HLP.out] at this
                      exact this)
                    go_wp2_with fail
                    refine wp_invNT 9 [(1, .own W5.heap.size 3 1 0 []), (3, .own W5.heap.size 3 1 (lp + 1) (flat encK wl)), (8, .lit 3 #[.int .i64 a] 1)] [(3, [1])] (by kernel_rfl) (by simp) (by kernel_rfl) (by kernel_rfl) ⟨lasts_own _ _ _ _ _ (by simp [maxLen]), lasts_own _ _ _ _ _ (by unfold maxLen; omega), lasts_lit _ _ _, trivial⟩ ?_
                    simp only [List.take_succ_cons, List.take_zero, List.drop_succ_cons, List.drop_zero]
                    with_reducible apply wpV_light
                    · simp only [lightOp]
                    · intro W hU hF
                      have f0 := CS.out W hU
                      clear hU hF
                      go_simp
                      exact rfl
                    simp only [Act.put, List.setIfInBounds_toArray, List.set_cons_zero, List.set_cons_succ]
                    refine wpV_heavy (by simp only [lightOp]) (by rfl) (fun W hU hk hF K hK => ?_) ?_
                    · go_wp2_with fail
                      exact wpV_made hK rfl rfl rfl rfl hU.size
                    rintro _ ⟨B1, d1, rfl, _, _⟩
                    simp only [Act.put, List.setIfInBounds_toArray, List.set_cons_zero, List.set_cons_succ]
                    with_reducible apply wpV_light
                    · simp only [lightOp]
                    · intro W hU hF
                      have f0 := CS.out W hU
                      clear hU hF
                      go_simp
                      exact rfl
                    simp only [Act.put, List.setIfInBounds_toArray, List.set_cons_zero, List.set_cons_succ]
                    refine wpV_heavy (by simp only [lightOp]) (by rfl) (fun W hU hk hF K hK => ?_) ?_
                    · exact wpV_app hK (.tmp 84) (.tmp 85) _ (by rfl) int_elem _ _ (by rfl) (by rfl) rfl rfl (by simp [usedV, mkI, conOf, specOf, Spec.own]) (hF.out.1 (by kernel_rfl)) (F1.out W hU) (by omega) (by simp) flat_cells (by unfold maxLen; omega) (by omega) hU.size
                    rintro _ ⟨B2, d2, rfl, _, _⟩
                    simp only [Act.put, List.setIfInBounds_toArray, List.set_cons_zero, List.set_cons_succ]
                    with_reducible apply wpV_light
                    · simp only [lightOp]
                    · intro W hU hF
                      have f0 := CS.out W hU
                      clear hU hF
                      go_simp
                      exact rfl
                    simp only [Act.put, List.setIfInBounds_toArray, List.set_cons_zero, List.set_cons_succ]
                    with_reducible apply wpV_light
                    · simp only [lightOp]
                    · intro W hU hF
                      have f0 := CS.out W hU
                      clear hU hF
                      go_simp
                      exact rfl
                    simp only [Act.put, List.setIfInBounds_toArray, List.set_cons_zero, List.set_cons_succ]
                    with_reducible apply wpV_light
                    · simp only [lightOp]
                    · intro W hU hF
                      have f0 := CS.out W hU
                      clear hU hF
                      go_simp
                      exact rfl
                    simp only [Act.put, List.setIfInBounds_toArray, List.set_cons_zero, List.set_cons_succ]
                    with_reducible apply wpV_light
                    · simp only [lightOp]
                    · intro W hU hF
                      have f0 := CS.out W hU
                      clear hU hF
                      go_simp
                      exact rfl
                    simp only [Act.put, List.setIfInBounds_toArray, List.set_cons_zero, List.set_cons_succ]
                    refine wpV_heavy (by simp only [lightOp]) (by rfl) (fun W hU hk hF K hK => ?_) ?_
                    · go_wp2_with fail
                      exact wpV_lit hK rfl rfl rfl
                    rintro _ ⟨g3, rfl⟩
                    simp only [Act.put, List.setIfInBounds_toArray, List.set_cons_zero, List.set_cons_succ]
                    refine wpV_end (fun W hU _ hF => ?_)
                    have UW : Hid (Upd [] W5 W) := Lib.hid ((Upd.refl [] W5).drew.trans hU)
                    have O2 : Hid (W.ownsRow W5.heap.size 3 1 (.slice B2 (lp + 1) d2) (lp + 1) (flat encK wl)) := Lib.hid (hF.out.2.1 (by kernel_rfl))
                    have LT : Hid (Blk W g3 3 #[.int .i64 a]) := Lib.hid (by
                      obtain ⟨g', he, hb⟩ := hF.out.2.2.1 (by kernel_rfl)
                      injection he with he _ _
                      injection he with he
                      injection he with he
                      subst he
                      exact hb)
                    clear hU hF CS F1
                    refine wpT_op (by rfl) (fun K hK => ?_)
                    refine wp_app W (.tmp 86) (.tmp 91) _ (by rfl) int_elem (.slice B2 (lp + 1) d2) _ (by rfl) (by rfl) O2.out (.of_blk LT.out (m := 1) 1 rfl) (by intro u hu; simp at hu; subst hu; rfl) (by simp only [maxLen]; omega) (by omega) UW.out.size ?_
                    intro v6 W6 o6 u6 b6
                    obtain ⟨B3, d3, rfl, _, _⟩ := own_slice o6
                    refine hK.out _ _ ?_
                    clear hK K
                    simp only [Act.put, List.setIfInBounds_toArray, List.set_cons_zero, List.set_cons_succ]
                    have U6 : Hid (Upd [] W5 W6) := Lib.hid (UW.out.trans' u6 (by intro x hx; exact .inr (own_lt O2.out (by simpa using hx)).1))
                    have O6 := Lib.hid o6
                    clear o6 u6 b6
                    refine wpT_op (by rfl) (fun K hK => ?_)
                    go_wp2_with fail
                    refine hK.out _ _ ?_
                    clear hK K
                    try simp only [Act.put, List.setIfInBounds_toArray, List.set_cons_zero, List.set_cons_succ]
                    have U7 : Hid (Upd [] W5 (W6.alloc (.cells #[.slice B3 (lp + 1 + 1) d3] 26))) := Lib.hid (U6.out.alloc _)
                    obtain ⟨⟨us7, g1, g2, g3'⟩, g4⟩ := RG5.out.upd0 U7.out
                    rw [HNW'.out] at g1
                    have OV7 : Hid (Ow encK 3 (W6.alloc (.cells #[.slice B3 (lp + 1 + 1) d3] 26)) wq.heap.size (.slice B3 (lp + 1 + 1) d3) (wl ++ [a])) := Lib.hid (by
                      unfold Ow
                      rw [flat_append, List.length_append, HLP.out]
                      exact own_upd0 (own_base O6.out UY5.out.size) ((Upd.refl [] W6).alloc _))
                    refine wpT_op (by rfl) (fun K hK => ?_)
                    refine wp_app (W6.alloc (.cells #[.slice B3 (lp + 1 + 1) d3] 26)) (.tmp 83) (.tmp 93) _ (by rfl) way_elem (.slice Aw' nw' cw') _ (by rfl) (by rfl) g1 (.of_blk (Blk.new W6 26 #[.slice B3 (lp + 1 + 1) d3]) (m := 1) 1 rfl) (by intro u hu; simp at hu; subst hu; rfl) (by simp only [maxLen]; omega) (by omega) (UY5.out.trans U7.out).size ?_
                    intro v8 W8 o8 u8 b8
                    have RG8 : Hid (RgM wq.heap.size W8 v8 (.slice A5 (nm' + 1) c5) (met' ++ [a]) (ways' ++ [wl ++ [a]])) := Lib.hid (RgM.addWay ⟨⟨us7, by rw [HNW'.out]; exact g1, g2, g3'⟩, g4⟩ u8 (by rw [HNW'.out]; exact g1) g2 g3' (by rw [HNW'.out]; exact o8) OV7.out (fun y hy e => by
                      have h1 := (own_lt O6.out hy).1
                      have h2 := (own_lt RG5.out.mt e).2
                      omega))
                    have OU8 : Hid (Ow encK 3 W8 wq.heap.size (.slice (some ⟨ug, 0, none⟩) (lp + 1) uc) wl) := Lib.hid ((OU5.out.upd0 U7.out).upd u8 (fun y hy hm => own_apart (OU5.out.upd0 U7.out) g1 (by decide) hy (by simpa using hm)))
                    have UY8 : Hid (Upd [] wq W8) := Lib.hid ((UY5.out.trans U7.out).trans' u8 (by intro x hx; exact .inr (own_lt g1 (by simpa using hx)).1))
                    obtain ⟨A8, c8, rfl, _, _⟩ := own_slice o8
                    refine hK.out _ _ ?_
                    clear hK K o8 u8 b8 g1 g2 g3' g4
                    simp only [Act.put, List.setIfInBounds_toArray, List.set_cons_zero, List.set_cons_succ]
                    refine wpT_op (by rfl) (fun K hK => ?_)
                    go_wp2_with fail
                    refine hK.out _ _ ?_
                    clear hK K
                    try simp only [Act.put, List.setIfInBounds_toArray, List.set_cons_zero, List.set_cons_succ]
                    refine wpT_end ?_
                    go_wp2_with fail
                    go_roundw
                    case rel => exact ⟨k' + 1, by go_num, by omega, Lib.hid ⟨_, _, _, RG8.out, FP.out, HWA.out, OU8.out, HU5.out, HS2.out, UY8.out⟩⟩
                    case measure => simp [intOf]; omega
            · have : k' = na := by omega
              subst this
              have HAR : Hid (aroundR g all b = bfsR g all b (k' + 1 - (m + 1)) (m + 1) met' ways') := Lib.hid (by
                have h60 := BF.out.bfs.small
                rw [HV.out, show k' + 1 - m = (k' + 1 - (m + 1)) + 1 by rw [HNM.out, HNA.out] at h60; have := HNWM.out; omega]
                refine bfsA_on HWL.out ?_
                rw [HLA.out, HSC.out, List.drop_eq_nil_of_le (by rw [HNA.out]; exact Nat.le_refl _)]
                rfl)
              have RGE := RG'
              have HRELM : Hid (∃ fr met ways, RgM wq.heap.size wy (.slice Aw' nw' cw') (.slice Am' nm' cm') met ways ∧ From g all b fr met ways ∧ m + 1 ≤ ways.length ∧ aroundR g all b = bfsR g all b (k' + 1 - (m + 1)) (m + 1) met ways ∧ Upd [] wq wy) := Lib.hid ⟨fr', met', ways', RG'.out, BF'.out, by rw [HNW'.out]; exact hmw, HAR.out, UY.out⟩
              go_wp2_with fail
              go_roundw
              case rel => exact ⟨m + 1, by go_num, HRELM⟩
              case measure => simp [intOf]; omega
        · have : m = nw := by omega
          subst this
          have HZ : Hid (aroundR g all b = []) := Lib.hid (by rw [HV.out]; exact bfs_none (List.getElem?_eq_none (by rw [HNW.out]; exact Nat.le_refl _)))
          have HR2 : Hid (ringL g all = ringGo g all (all.drop (i + 1))) := Lib.hid (by rw [HRG.out, ring_drop HB.out, if_pos HZ.out])
          have HUX : Hid (Upd [] w2 wx) := Lib.hid (UQ.out.trans UX.out)
          go_wp2_with fail
          go_roundw
          case rel => exact ⟨i + 1, by go_num, by omega, Lib.hid ⟨HUX.out, HR2.out⟩⟩
          case measure => simp [intOf]; omega
    · have : i = na := by omega
      subst this
      have HZ : Hid (ringL g all = []) := Lib.hid (by rw [HRG.out, List.drop_eq_nil_of_le (by rw [HNA.out]; exact Nat.le_refl _)]; rfl)
      go_wp2_with fail
      go_ret
      unfold RRingPost
      rw [HGG.out, HALL.out, HZ.out]
      exact ⟨_, rfl, U2.out.trans UQ.out, Ow.nil _ _ _ _⟩
end Go.Proofs.YteddiknlcdbhjaaGreat

namespace Go.Proofs.YteddiknlcdbhjaaGreat
open Go Go.RowKit TrP
attribute [local go_sem] litStep_value

set_option maxRecDepth 100000 in
set_option maxHeartbeats 8000000 in
theorem law_ts (A : Option Addr) (n c : Nat) (l : List Ev) (w : World) (h : Rd encEv w (.slice A n c) l) (hn : l.length = n) (hev : ∀ x ∈ l, EvIn x) :
    Calls Tryz.prog 3 #[.slice A n c] w fun e w' => e = .returned (.bool true) ∧ Upd [] w w' := by
  have H := Lib.hid h
  have HN := Lib.hid hn
  have HEV := Lib.hid hev
  clear h hn hev
  go_enter Tryz.func3, Tryz.ntmps3
  by_cases h6 : 60 < n
  · have d6 : decide ((60 : Int) < (n : Int)) = true := by simp; omega
    have U0 : Hid (Upd [] w w) := Lib.hid (.refl _ _)
    go_wp2_with fail
    refine (t_alive w).mono ?_; rintro e w9 ⟨rfl, u9⟩
    have U9 := Lib.hid (U0.out.trans u9)
    clear u9
    go_wp2_with fail
    go_ret
    exact ⟨rfl, U9.out⟩
  have d6 : decide ((60 : Int) < (n : Int)) = false := by simp; omega
  have hl60 : l.length ≤ 60 := by rw [HN.out]; omega
  have L1 := Lib.hid (seO_len l hl60)
  have L2 := Lib.hid (riO_len l hl60)
  have L3 := Lib.hid (txnsR_short l hl60)
  clear hl60
  go_wp2_with fail
  refine (r_wrong A n c l w H.out HN.out (by omega)).mono ?_; rintro e w1 ⟨rfl, u1⟩
  have U1 := Lib.hid u1
  clear u1
  obtain ⟨f, hf⟩ : ∃ f, (wrongE l).1 = f := ⟨_, rfl⟩
  have HF := Lib.hid hf
  rw [hf]
  clear hf
  go_wp2_with fail
  refine (u_serial (H.out.upd0 U1.out) HN.out (by omega) HEV.out).mono ?_; rintro e w2 ⟨s, v2, a2, rfl, u2, os, e2⟩
  have OS2 := Lib.hid os
  have E2 := Lib.hid e2
  have U2 := Lib.hid (U1.out.trans u2)
  clear os e2 u2
  go_wp2_with fail
  refine (u_ring (H.out.upd0 U2.out) HN.out (by omega) HEV.out).mono ?_; rintro e w3 ⟨r, v3, a3, rfl, u3, or, e3⟩
  have OR3 := Lib.hid or
  have E3 := Lib.hid e3
  have OS3 := Lib.hid (OS2.out.upd0 u3)
  have E23 := Lib.hid (E2.out.upd u3)
  have U3 := Lib.hid (U2.out.trans u3)
  clear or e3 u3
  obtain ⟨As, cs, rfl, _, _⟩ := OS3.out.form
  obtain ⟨Ar, cr, rfl, _, _⟩ := OR3.out.form
  by_cases h0 : f = 0
  · have HW0 : Hid ((wrongE l).1 = 0) := Lib.hid (HF.out.trans h0)
    have HOK := Lib.hid (wrongE_iff.1.1 HW0.out)
    obtain ⟨ns, hns⟩ : ∃ ns, (seO l).length = ns := ⟨_, rfl⟩
    obtain ⟨nr, hnr⟩ : ∃ nr, (riO l).length = nr := ⟨_, rfl⟩
    rw [hns] at OS3 ⊢
    rw [hnr] at OR3 ⊢
    have HNR := Lib.hid hnr
    subst h0
    clear hns hnr
    go_wp2_with fail
    refine (r_serial A n c l w3 (H.out.upd0 U3.out) HN.out (by omega) HOK.out).mono ?_; rintro e w4 ⟨t, hh, rfl, u4, hs1, hs2⟩
    have U4 := Lib.hid (U3.out.trans u4)
    have OS4 := Lib.hid (OS3.out.upd0 u4)
    have OR4 := Lib.hid (OR3.out.upd0 u4)
    have E34 := Lib.hid (E3.out.upd u4)
    have E24 := Lib.hid (E23.out.upd u4)
    have HSE : Hid (seE l = hh) := Lib.hid (by
      unfold seE
      rw [if_pos HW0.out]
      cases hs : serialL (graphR l) (txnsR l) with
      | none => rw [(hs2 hs).2]; rfl
      | some o => rw [(hs1 o hs).2]; rfl)
    have OT4 : Hid (Ow encK 3 w4 w3.heap.size t (seO l)) := Lib.hid (by
      unfold seO
      rw [if_pos HW0.out]
      cases hs : serialL (graphR l) (txnsR l) with
      | none => rw [(hs2 hs).1]; exact Ow.nil _ _ _ _
      | some o => exact (hs1 o hs).1)
    have HRI : Hid (decide (nr = 0) = decide (hh = 0)) := Lib.hid (by
      have hri := ring_iff (gok HOK.out)
      rw [← HNR.out]
      have e1 : riO l = ringL (graphR l) (txnsR l) := by unfold riO; rw [if_pos HW0.out]
      rw [e1]
      cases hs : serialL (graphR l) (txnsR l) with
      | none =>
        rw [(hs2 hs).2]
        have : ringL (graphR l) (txnsR l) ≠ [] := fun e => by have := hri.1 e; rw [hs] at this; cases this
        have : (ringL (graphR l) (txnsR l)).length ≠ 0 := fun e => this (List.eq_nil_of_length_eq_zero e)
        simp [this]
      | some o =>
        rw [(hs1 o hs).2, hri.2 (by rw [hs]; rfl)]
        rfl)
    rw [HSE.out] at E24
    clear u4 hs1 hs2
    obtain ⟨At, ct, rfl, _, _⟩ := OT4.out.form
    go_wp2_with fail
    refine (ints_ok _ _ (seO l) (seO l) _ _ w4 OS4.out OT4.out (by have := L1.out; omega) (by have := L1.out; omega)).mono ?_; rintro e w5 ⟨rfl, u5⟩
    have U5 := Lib.hid (U4.out.trans u5)
    have OR5 := Lib.hid (OR4.out.upd0 u5)
    have E35 := Lib.hid (E34.out.upd u5)
    have E25 := Lib.hid (E24.out.upd u5)
    clear u5
    simp only [decide_true]
    have dd : (hh == hh) = true := by simp
    go_wp2_with fail
    refine (no_err E25.out).mono ?_; rintro e w' ⟨rfl, rfl⟩
    go_wp2_with fail
    rw [HW0.out] at E35
    refine (no_err E35.out).mono ?_; rintro e w' ⟨rfl, rfl⟩
    go_wp2_with fail
    refine (r_ring A n c l w5 (H.out.upd0 U5.out) HN.out (by omega)).mono ?_; rintro e w6 ⟨q, rfl, u6, oq⟩
    have U6 := Lib.hid (U5.out.trans u6)
    have OR6 := Lib.hid (OR5.out.upd0 u6)
    have OQ6 : Hid (Ow encK 3 w6 w5.heap.size q (riO l)) := Lib.hid (by unfold riO; rw [if_pos HW0.out]; exact oq)
    clear u6 oq
    go_wp2_with fail
    refine (ints_ok _ _ (riO l) (riO l) _ _ w6 OR6.out OQ6.out (by have := L2.out; omega) (by have := L2.out; omega)).mono ?_; rintro e w7 ⟨rfl, u7⟩
    have U7 := Lib.hid (U6.out.trans u7)
    clear u7
    simp only [decide_true]
    by_cases hz : hh = 0
    · have hnr0 : nr = 0 := by have h1 := HRI.out; rw [hz] at h1; simpa using h1
      subst hz hnr0
      go_wp2_with fail
      refine (t_alive w7).mono ?_; rintro e w9 ⟨rfl, u9⟩
      have U9 := Lib.hid (U7.out.trans u9)
      clear u9
      go_wp2_with fail
      go_ret
      exact ⟨rfl, U9.out⟩
    · have hnr0 : nr ≠ 0 := by have h1 := HRI.out; rw [decide_eq_false hz] at h1; simpa using h1
      have d1 : ((nr : Int) == 0) = false := by simp; exact hnr0
      have d2 : (hh == 0) = false := by simpa using hz
      go_wp2_with fail
      refine (t_alive w7).mono ?_; rintro e w9 ⟨rfl, u9⟩
      have U9 := Lib.hid (U7.out.trans u9)
      clear u9
      go_wp2_with fail
      go_ret
      exact ⟨rfl, U9.out⟩
  · have HSL : Hid (seO l = []) := Lib.hid (by unfold seO; rw [if_neg (by rw [HF.out]; exact h0)])
    have HRL : Hid (riO l = []) := Lib.hid (by unfold riO; rw [if_neg (by rw [HF.out]; exact h0)])
    have HSE : Hid (seE l = f) := Lib.hid (by unfold seE; rw [if_neg (by rw [HF.out]; exact h0), HF.out])
    rw [HSL.out] at OS3 ⊢
    rw [HRL.out] at OR3 ⊢
    rw [HSE.out] at E23
    rw [HF.out] at E3
    have d1 : (f != 0) = true := by simpa using h0
    have d2 : (f == f) = true := by simp
    go_wp2_with fail
    refine (no_err E23.out).mono ?_; rintro e w' ⟨rfl, rfl⟩
    go_wp2_with fail
    refine (no_err E3.out).mono ?_; rintro e w' ⟨rfl, rfl⟩
    go_wp2_with fail
    refine (t_alive w3).mono ?_; rintro e w9 ⟨rfl, u9⟩
    have U9 := Lib.hid (U3.out.trans u9)
    clear u9
    go_wp2_with fail
    go_ret
    exact ⟨rfl, U9.out⟩
end Go.Proofs.YteddiknlcdbhjaaGreat

namespace Go.Proofs.YteddiknlcdbhjaaGreat
open Go Go.RowKit TrP
attribute [local go_sem] litStep_value

theorem getD_at {L : List Int} {i : Nat} (h : i < L.length) : L[i]? = some (L.getD i 0) := by
  rw [List.getD_eq_getElem?_getD, List.getElem?_eq_getElem h]; rfl
theorem tmod_nat (i n : Nat) : Int.tmod ((i : Int) + 1) (n : Int) = (((i + 1) % n : Nat) : Int) := by
  rw [show ((i : Int) + 1) = ((i + 1 : Nat) : Int) by simp]
  rfl
set_option maxRecDepth 100000 in
set_option maxHeartbeats 8000000 in
theorem law_to (A : Option Addr) (n c : Nat) (l : List Ev) (w : World) (h : Rd encEv w (.slice A n c) l) (hn : l.length = n) (hev : ∀ x ∈ l, EvIn x) :
    Calls Tryz.prog 4 #[.slice A n c] w fun e w' => e = .returned (.bool true) ∧ Upd [] w w' := by
  have H := Lib.hid h
  have HN := Lib.hid hn
  have HEV := Lib.hid hev
  clear h hn hev
  go_enter Tryz.func4, Tryz.ntmps4
  by_cases h6 : 60 < n
  · have d6 : decide ((60 : Int) < (n : Int)) = true := by simp; omega
    have U0 : Hid (Upd [] w w) := Lib.hid (.refl _ _)
    go_wp2_with fail
    refine (t_alive w).mono ?_; rintro e w9 ⟨rfl, u9⟩
    have U9 := Lib.hid (U0.out.trans u9)
    clear u9
    go_wp2_with fail
    go_ret
    exact ⟨rfl, U9.out⟩
  have d6 : decide ((60 : Int) < (n : Int)) = false := by simp; omega
  have hl60 : l.length ≤ 60 := by rw [HN.out]; omega
  have L1 := Lib.hid (seO_len l hl60)
  have L2 := Lib.hid (riO_len l hl60)
  have L3 := Lib.hid (txnsR_short l hl60)
  have L4 := Lib.hid (graphR_short l hl60)
  clear hl60
  go_wp2_with fail
  refine (u_graph H.out HN.out (by omega) HEV.out).mono ?_; rintro e w1 ⟨gv, v1, a1, rfl, u1, og, e1⟩
  have OG1 := Lib.hid og
  have E1 := Lib.hid e1
  have U1 := Lib.hid u1
  clear og e1 u1
  obtain ⟨f, hf⟩ : ∃ f, (wrongE l).1 = f := ⟨_, rfl⟩
  have HF := Lib.hid hf
  rw [hf] at E1
  clear hf
  obtain ⟨Ag, cg, rfl, _, _⟩ := OG1.out.form
  go_wp2_with fail
  refine (no_err E1.out).mono ?_; rintro e w' ⟨rfl, rfl⟩
  by_cases h0 : f = 0
  · have HW0 : Hid ((wrongE l).1 = 0) := Lib.hid (HF.out.trans h0)
    have HOK := Lib.hid (wrongE_iff.1.1 HW0.out)
    have HGK := Lib.hid (gok HOK.out)
    subst h0
    obtain ⟨g, hg⟩ : ∃ g, graphR l = g := ⟨_, rfl⟩
    obtain ⟨all, hall⟩ : ∃ all, txnsR l = all := ⟨_, rfl⟩
    have eG : grO l = g := by unfold grO; rw [if_pos HW0.out, hg]
    rw [eG] at OG1 ⊢
    rw [hg] at L4
    rw [hall] at L3
    rw [hg, hall] at HGK
    have HGG := Lib.hid hg
    have HALL := Lib.hid hall
    obtain ⟨ng, hng⟩ : ∃ ng, g.length = ng := ⟨_, rfl⟩
    rw [hng] at OG1 ⊢
    have HNG := Lib.hid hng
    clear eG hg hall hng
    go_wp2_with fail
    refine (u_serial (H.out.upd0 U1.out) HN.out (by omega) HEV.out).mono ?_; rintro e w2 ⟨s, v2, a2, rfl, u2, os, e2⟩
    have OS2 := Lib.hid os
    have E2 := Lib.hid e2
    have OG2 := Lib.hid (OG1.out.upd0 u2)
    have U2 := Lib.hid (U1.out.trans u2)
    clear os e2 u2
    go_wp2_with fail
    refine (u_ring (H.out.upd0 U2.out) HN.out (by omega) HEV.out).mono ?_; rintro e w3 ⟨r, v3, a3, rfl, u3, or, -⟩
    have OR3 := Lib.hid or
    have OS3 := Lib.hid (OS2.out.upd0 u3)
    have OG3 := Lib.hid (OG2.out.upd0 u3)
    have E23 := Lib.hid (E2.out.upd u3)
    have U3 := Lib.hid (U2.out.trans u3)
    clear or u3
    obtain ⟨As, cs, rfl, _, _⟩ := OS3.out.form
    obtain ⟨Ar, cr, rfl, _, _⟩ := OR3.out.form
    obtain ⟨R, hR⟩ : ∃ R, ringL g all = R := ⟨_, rfl⟩
    have eR : riO l = R := by unfold riO; rw [if_pos HW0.out, HGG.out, HALL.out, hR]
    rw [eR] at OR3 L2 ⊢
    have HR := Lib.hid hR
    obtain ⟨nr, hnr⟩ : ∃ nr, R.length = nr := ⟨_, rfl⟩
    rw [hnr] at OR3 L2 ⊢
    have HNR := Lib.hid hnr
    obtain ⟨S, hS⟩ : ∃ S, seO l = S := ⟨_, rfl⟩
    rw [hS] at OS3 L1 ⊢
    have HS := Lib.hid hS
    obtain ⟨ns, hns⟩ : ∃ ns, S.length = ns := ⟨_, rfl⟩
    rw [hns] at OS3 L1 ⊢
    have HNS := Lib.hid hns
    have hl1 := L1.out
    have hl2 := L2.out
    have hl4 : ng ≤ 120 := by rw [← HNG.out]; exact L4.out
    clear hR eR hnr hS hns
    go_wp2_with fail
    go_loopw [37] (fun u wq => ∃ i : Nat, u = .int .i64 i ∧ i ≤ nr ∧ Hid (Upd [] w3 wq)) (fun u _ => nr - (intOf u).toNat)
    case atStart => exact ⟨0, rfl, by omega, Lib.hid (.refl _ _)⟩
    case round =>
      obtain ⟨i, rfl, hi, UQ⟩ := hrel
      rename World => wq
      by_cases hin : i < nr
      · have hri := ring_leads HGK.out i (by rw [HR.out, HNR.out]; exact hin)
        rw [HR.out, HNR.out] at hri
        obtain ⟨j, hj⟩ : ∃ j, (i + 1) % nr = j := ⟨_, rfl⟩
        rw [hj] at hri
        have hjn : j < nr := by rw [← hj]; exact Nat.mod_lt _ (by omega)
        obtain ⟨x, hx⟩ : ∃ x, R.getD i 0 = x := ⟨_, rfl⟩
        obtain ⟨y, hy⟩ : ∃ y, R.getD j 0 = y := ⟨_, rfl⟩
        rw [hx, hy] at hri
        have HRI := Lib.hid hri
        have hxi := getD_at (L := R) (i := i) (by rw [HNR.out]; exact hin)
        have hyj := getD_at (L := R) (i := j) (by rw [HNR.out]; exact hjn)
        rw [hx] at hxi
        rw [hy] at hyj
        have ht := tmod_nat i nr
        rw [hj] at ht
        obtain ⟨rb, rc, rcur, e, -⟩ := own_form OR3.out (by rw [HNR.out]; omega)
        injection e with e1 e2 e3
        subst e1 e3
        have CS : Hid (∀ W, Upd [] wq.drew W → (W.cell? ⟨rb, i, none⟩ = some (.int .i64 x) ∧ W.cell? ⟨rb, j, none⟩ = some (.int .i64 y)) ∧ IntKind.i64.wrap ((i : Int) + 1) = (i : Int) + 1 ∧ Int.tmod ((i : Int) + 1) (nr : Int) = (j : Int) ∧ ¬ (nr = 0)) := Lib.hid (fun W hW => by
          have hu : Upd [] w3 W := UQ.out.drew.trans hW
          have h1 := (OR3.out.upd0 hu).at_ hxi 0 _ rfl
          have h2 := (OR3.out.upd0 hu).at_ hyj 0 _ rfl
          rw [show i * encK.s + 0 = i by simp [encI]] at h1
          rw [show j * encK.s + 0 = j by simp [encI]] at h2
          exact ⟨⟨h1, h2⟩, by rw [IntKind.wrap_i64]; omega, ht, by omega⟩)
        have RLD : Hid (∀ W, Upd [] wq.drew W → Rd encE W (.slice Ag ng cg) g) := Lib.hid (fun W hW => (OG3.out.upd0 (UQ.out.drew.trans hW)).rd)
        have q1 : (0 : Int) ≤ (i : Int) := by omega
        have q2 : (i : Int) < (nr : Int) := by omega
        have q3 : (0 : Int) ≤ (j : Int) := by omega
        have q4 : (j : Int) < (nr : Int) := by omega
        have q5 : ¬ ((nr : Int) = 0) := by omega
        clear e2 hri hx hy hxi hyj hj ht
        go_wp2_with fail
        refine wp_invN [(13, .det (.bool true))] [] (by kernel_rfl) (by kernel_rfl) (by kernel_rfl) ⟨lasts_det _, trivial⟩ ?_
        with_reducible apply wpV_light
        · simp only [lightOp]
        · intro W hU hF
          have f0 := CS.out W hU
          clear hU hF
          go_simp
          exact rfl
        simp only [Act.put, List.setIfInBounds_toArray, List.set_cons_zero, List.set_cons_succ]
        with_reducible apply wpV_light
        · simp only [lightOp]
        · intro W hU hF
          have f0 := CS.out W hU
          clear hU hF
          go_simp
          exact rfl
        simp only [Act.put, List.setIfInBounds_toArray, List.set_cons_zero, List.set_cons_succ]
        with_reducible apply wpV_light
        · simp only [lightOp]
        · intro W hU hF
          have f0 := CS.out W hU
          clear hU hF
          go_simp
          exact rfl
        simp only [Act.put, List.setIfInBounds_toArray, List.set_cons_zero, List.set_cons_succ]
        with_reducible apply wpV_light
        · simp only [lightOp]
        · intro W hU hF
          have f0 := CS.out W hU
          clear hU hF
          go_simp
          exact rfl
        simp only [Act.put, List.setIfInBounds_toArray, List.set_cons_zero, List.set_cons_succ]
        with_reducible apply wpV_light
        · simp only [lightOp]
        · intro W hU hF
          have f0 := CS.out W hU
          clear hU hF
          go_simp
          exact rfl
        simp only [Act.put, List.setIfInBounds_toArray, List.set_cons_zero, List.set_cons_succ]
        with_reducible apply wpV_light
        · simp only [lightOp]
        · intro W hU hF
          have f0 := CS.out W hU
          clear hU hF
          go_simp
          exact rfl
        simp only [Act.put, List.setIfInBounds_toArray, List.set_cons_zero, List.set_cons_succ]
        with_reducible apply wpV_light
        · simp only [lightOp]
        · intro W hU hF
          have f0 := CS.out W hU
          clear hU hF
          go_simp
          exact rfl
        simp only [Act.put, List.setIfInBounds_toArray, List.set_cons_zero, List.set_cons_succ]
        with_reducible apply wpV_light
        · simp only [lightOp]
        · intro W hU hF
          have f0 := CS.out W hU
          clear hU hF
          go_simp
          exact rfl
        simp only [Act.put, List.setIfInBounds_toArray, List.set_cons_zero, List.set_cons_succ]
        with_reducible apply wpV_light
        · simp only [lightOp]
        · intro W hU hF
          have f0 := CS.out W hU
          clear hU hF
          go_simp
          exact rfl
        simp only [Act.put, List.setIfInBounds_toArray, List.set_cons_zero, List.set_cons_succ]
        with_reducible apply wpV_light
        · simp only [lightOp]
        · intro W hU hF
          have f0 := CS.out W hU
          clear hU hF
          go_simp
          exact rfl
        simp only [Act.put, List.setIfInBounds_toArray, List.set_cons_zero, List.set_cons_succ]
        with_reducible apply wpV_light
        · simp only [lightOp]
        · intro W hU hF
          have f0 := CS.out W hU
          clear hU hF
          go_simp
          exact rfl
        simp only [Act.put, List.setIfInBounds_toArray, List.set_cons_zero, List.set_cons_succ]
        with_reducible apply wpV_light
        · simp only [lightOp]
        · intro W hU hF
          have f0 := CS.out W hU
          clear hU hF
          go_simp
          exact rfl
        simp only [Act.put, List.setIfInBounds_toArray, List.set_cons_zero, List.set_cons_succ]
        with_reducible apply wpV_light
        · simp only [lightOp]
        · intro W hU hF
          have f0 := CS.out W hU
          clear hU hF
          go_simp
          exact rfl
        simp only [Act.put, List.setIfInBounds_toArray, List.set_cons_zero, List.set_cons_succ]
        refine wpV_heavy (by simp only [lightOp]) (by rfl) (fun W hU hk hF K hK => ?_) ?_
        · go_wp2_with fail
          refine (r_leads Ag ng cg g x y _ (RLD.out W hU) HNG.out (by omega)).mono ?_; rintro e w9 ⟨rfl, rfl⟩
          rw [HRI.out]
          go_wp2_with fail
          exact hK.out _ _ (outV_new rfl rfl (by intro b hb; cases hb) (.refl _ _))
        rintro _ rfl
        simp only [Act.put, List.setIfInBounds_toArray, List.set_cons_zero, List.set_cons_succ]
        with_reducible apply wpV_light
        · simp only [lightOp]
        · intro W hU hF
          have f0 := CS.out W hU
          clear hU hF
          go_simp
          exact rfl
        simp only [Act.put, List.setIfInBounds_toArray, List.set_cons_zero, List.set_cons_succ]
        refine wpV_end (fun W hU _ _ => ?_)
        have U5 : Hid (Upd [] w3 W) := Lib.hid (UQ.out.drew.trans hU)
        clear hU
        refine wpT_end ?_
        go_wp2_with fail
        go_roundw
        case rel => exact ⟨i + 1, by go_num, by omega, U5⟩
        case measure => simp [intOf]; omega
      · have : i = nr := by omega
        subst this
        have E4 := Lib.hid (E23.out.upd UQ.out)
        have U4 : Hid (Upd [] w wq) := Lib.hid (U3.out.trans UQ.out)
        have HRI := Lib.hid (ring_iff HGK.out)
        go_wp2_with fail
        obtain ⟨so, hso⟩ : ∃ so, serialL g all = so := ⟨_, rfl⟩
        cases so with
        | none =>
          have HSE : Hid (seE l = 12) := Lib.hid (by unfold seE; rw [if_pos HW0.out, HGG.out, HALL.out, hso]; rfl)
          have hne : ringL g all ≠ [] := fun e => by have := HRI.out.1 e; rw [hso] at this; cases this
          have hlong := ring_long HGK.out hne
          rw [HR.out, HNR.out] at hlong
          rw [HSE.out] at E4
          have d : decide ((1 : Int) < (i : Int)) = true := by simp; omega
          refine (no_err E4.out).mono ?_; rintro e w' ⟨rfl, rfl⟩
          clear hso hne hlong
          go_wp2_with fail
          refine (t_alive wq).mono ?_; rintro e w9 ⟨rfl, u9⟩
          have U9 := Lib.hid (U4.out.trans u9)
          clear u9
          go_wp2_with fail
          go_ret
          exact ⟨rfl, U9.out⟩
        | some o =>
          have HSE : Hid (seE l = 0) := Lib.hid (by unfold seE; rw [if_pos HW0.out, HGG.out, HALL.out, hso]; rfl)
          have HSO : Hid (S = o) := Lib.hid (by rw [← HS.out]; unfold seO; rw [if_pos HW0.out, HGG.out, HALL.out, hso]; rfl)
          have HSS : Hid (serialL g all = some S) := Lib.hid (by rw [hso, HSO.out])
          have hi0 : i = 0 := by
            have h1 := HRI.out.2 (by rw [hso]; rfl)
            rw [HR.out] at h1
            rw [← HNR.out, h1]; rfl
          have hsl : ns = all.length := by rw [← HNS.out]; exact (serialL_some HSS.out).2
          have HSL := Lib.hid hsl
          rw [HSE.out] at E4
          refine (no_err E4.out).mono ?_; rintro e w' ⟨rfl, rfl⟩
          subst hi0
          clear hso hsl
          have OG4 := Lib.hid (OG3.out.upd0 UQ.out)
          have OS4 := Lib.hid (OS3.out.upd0 UQ.out)
          go_wp2_with fail
          go_loopw [67] (fun u wx => ∃ i : Nat, u = .int .i64 i ∧ i ≤ ns ∧ Hid (Upd [] wq wx)) (fun u _ => ns - (intOf u).toNat)
          case atStart => exact ⟨0, rfl, by omega, Lib.hid (.refl _ _)⟩
          case round =>
            obtain ⟨i, rfl, hi, UX⟩ := hrel
            rename World => wx
            by_cases hin : i < ns
            · obtain ⟨sb, sc, scur, e, _, _, hsc, hsm, _, _⟩ := own_form OS4.out (by rw [HNS.out]; omega)
              injection e with e1 e2 e3
              subst e1 e3
              rw [HNS.out] at hsc
              have q1 : (0 : Int) ≤ (i : Int) := by omega
              have q2 : (i : Int) < (ns : Int) := by omega
              have q3 : (i : Int) ≤ (cs : Int) := by omega
              have q4 : (ns : Int) ≤ (cs : Int) := by omega
              clear e2
              go_wp2_with fail
              go_loopw [74] (fun u wy => ∃ k : Nat, u = .int .i64 k ∧ k ≤ i ∧ Hid (Upd [] wx wy)) (fun u _ => i - (intOf u).toNat)
              case atStart => exact ⟨0, rfl, by omega, Lib.hid (.refl _ _)⟩
              case round =>
                obtain ⟨k, rfl, hk, UY⟩ := hrel
                rename World => wy
                by_cases hki : k < i
                · obtain ⟨hb1, hb2⟩ := serial_back HGK.out HSS.out hki (by rw [HNS.out]; exact hin)
                  have hxi := getD_at (L := S) (i := i) (by rw [HNS.out]; exact hin)
                  have hyk := getD_at (L := S) (i := k) (by rw [HNS.out]; omega)
                  obtain ⟨x, hx⟩ : ∃ x, S.getD i 0 = x := ⟨_, rfl⟩
                  obtain ⟨y, hy⟩ : ∃ y, S.getD k 0 = y := ⟨_, rfl⟩
                  rw [hx] at hb1 hb2 hxi
                  rw [hy] at hb1 hb2 hyk
                  have HB2 := Lib.hid hb2
                  have d : (x == y) = false := by simpa using hb1
                  have CS : Hid (∀ W, Upd [] wy.drew W → W.cell? ⟨sb, i, none⟩ = some (.int .i64 x) ∧ W.cell? ⟨sb, k, none⟩ = some (.int .i64 y)) := Lib.hid (fun W hW => by
                    have hu : Upd [] wq W := UX.out.trans (UY.out.drew.trans hW)
                    have h1 := (OS4.out.upd0 hu).at_ hxi 0 _ rfl
                    have h2 := (OS4.out.upd0 hu).at_ hyk 0 _ rfl
                    rw [show i * encK.s + 0 = i by simp [encI]] at h1
                    rw [show k * encK.s + 0 = k by simp [encI]] at h2
                    exact ⟨h1, h2⟩)
                  have RLD : Hid (∀ W, Upd [] wy.drew W → Rd encE W (.slice Ag ng cg) g) := Lib.hid (fun W hW => (OG4.out.upd0 (UX.out.trans (UY.out.drew.trans hW))).rd)
                  have r1 : (0 : Int) ≤ (k : Int) := by omega
                  have r2 : (k : Int) < (i : Int) := by omega
                  have r3 : (k : Int) < (ns : Int) := by omega
                  clear hb1 hb2 hx hy hxi hyk
                  go_wp2_with fail
                  refine wp_invN [(19, .det (.bool false))] [] (by kernel_rfl) (by kernel_rfl) (by kernel_rfl) ⟨lasts_det _, trivial⟩ ?_
                  with_reducible apply wpV_light
                  · simp only [lightOp]
                  · intro W hU hF
                    have f0 := CS.out W hU
                    clear hU hF
                    go_simp
                    exact rfl
                  simp only [Act.put, List.setIfInBounds_toArray, List.set_cons_zero, List.set_cons_succ]
                  with_reducible apply wpV_light
                  · simp only [lightOp]
                  · intro W hU hF
                    have f0 := CS.out W hU
                    clear hU hF
                    go_simp
                    exact rfl
                  simp only [Act.put, List.setIfInBounds_toArray, List.set_cons_zero, List.set_cons_succ]
                  with_reducible apply wpV_light
                  · simp only [lightOp]
                  · intro W hU hF
                    have f0 := CS.out W hU
                    clear hU hF
                    go_simp
                    exact rfl
                  simp only [Act.put, List.setIfInBounds_toArray, List.set_cons_zero, List.set_cons_succ]
                  with_reducible apply wpV_light
                  · simp only [lightOp]
                  · intro W hU hF
                    have f0 := CS.out W hU
                    clear hU hF
                    go_simp
                    exact rfl
                  simp only [Act.put, List.setIfInBounds_toArray, List.set_cons_zero, List.set_cons_succ]
                  with_reducible apply wpV_light
                  · simp only [lightOp]
                  · intro W hU hF
                    have f0 := CS.out W hU
                    clear hU hF
                    go_simp
                    exact rfl
                  simp only [Act.put, List.setIfInBounds_toArray, List.set_cons_zero, List.set_cons_succ]
                  with_reducible apply wpV_light
                  · simp only [lightOp]
                  · intro W hU hF
                    have f0 := CS.out W hU
                    clear hU hF
                    go_simp
                    exact rfl
                  simp only [Act.put, List.setIfInBounds_toArray, List.set_cons_zero, List.set_cons_succ]
                  with_reducible apply wpV_light
                  · simp only [lightOp]
                  · intro W hU hF
                    have f0 := CS.out W hU
                    clear hU hF
                    go_simp
                    exact rfl
                  simp only [Act.put, List.setIfInBounds_toArray, List.set_cons_zero, List.set_cons_succ]
                  with_reducible apply wpV_light
                  · simp only [lightOp]
                  · intro W hU hF
                    have f0 := CS.out W hU
                    clear hU hF
                    go_simp
                    exact rfl
                  simp only [Act.put, List.setIfInBounds_toArray, List.set_cons_zero, List.set_cons_succ]
                  with_reducible apply wpV_light
                  · simp only [lightOp]
                  · intro W hU hF
                    have f0 := CS.out W hU
                    clear hU hF
                    go_simp
                    exact rfl
                  simp only [Act.put, List.setIfInBounds_toArray, List.set_cons_zero, List.set_cons_succ]
                  with_reducible apply wpV_light
                  · simp only [lightOp]
                  · intro W hU hF
                    have f0 := CS.out W hU
                    clear hU hF
                    go_simp
                    exact rfl
                  simp only [Act.put, List.setIfInBounds_toArray, List.set_cons_zero, List.set_cons_succ]
                  with_reducible apply wpV_light
                  · simp only [lightOp]
                  · intro W hU hF
                    have f0 := CS.out W hU
                    clear hU hF
                    go_simp
                    exact rfl
                  simp only [Act.put, List.setIfInBounds_toArray, List.set_cons_zero, List.set_cons_succ]
                  with_reducible apply wpV_light
                  · simp only [lightOp]
                  · intro W hU hF
                    have f0 := CS.out W hU
                    clear hU hF
                    go_simp
                    exact rfl
                  simp only [Act.put, List.setIfInBounds_toArray, List.set_cons_zero, List.set_cons_succ]
                  with_reducible apply wpV_light
                  · simp only [lightOp]
                  · intro W hU hF
                    have f0 := CS.out W hU
                    clear hU hF
                    go_simp
                    exact rfl
                  simp only [Act.put, List.setIfInBounds_toArray, List.set_cons_zero, List.set_cons_succ]
                  with_reducible apply wpV_light
                  · simp only [lightOp]
                  · intro W hU hF
                    have f0 := CS.out W hU
                    clear hU hF
                    go_simp
                    exact rfl
                  simp only [Act.put, List.setIfInBounds_toArray, List.set_cons_zero, List.set_cons_succ]
                  with_reducible apply wpV_light
                  · simp only [lightOp]
                  · intro W hU hF
                    have f0 := CS.out W hU
                    clear hU hF
                    go_simp
                    exact rfl
                  simp only [Act.put, List.setIfInBounds_toArray, List.set_cons_zero, List.set_cons_succ]
                  with_reducible apply wpV_light
                  · simp only [lightOp]
                  · intro W hU hF
                    have f0 := CS.out W hU
                    clear hU hF
                    go_simp
                    exact rfl
                  simp only [Act.put, List.setIfInBounds_toArray, List.set_cons_zero, List.set_cons_succ]
                  with_reducible apply wpV_light
                  · simp only [lightOp]
                  · intro W hU hF
                    have f0 := CS.out W hU
                    clear hU hF
                    go_simp
                    exact rfl
                  simp only [Act.put, List.setIfInBounds_toArray, List.set_cons_zero, List.set_cons_succ]
                  with_reducible apply wpV_light
                  · simp only [lightOp]
                  · intro W hU hF
                    have f0 := CS.out W hU
                    clear hU hF
                    go_simp
                    exact rfl
                  simp only [Act.put, List.setIfInBounds_toArray, List.set_cons_zero, List.set_cons_succ]
                  with_reducible apply wpV_light
                  · simp only [lightOp]
                  · intro W hU hF
                    have f0 := CS.out W hU
                    clear hU hF
                    go_simp
                    exact rfl
                  simp only [Act.put, List.setIfInBounds_toArray, List.set_cons_zero, List.set_cons_succ]
                  refine wpV_heavy (by simp only [lightOp]) (by rfl) (fun W hU hk hF K hK => ?_) ?_
                  · go_wp2_with fail
                    refine (r_leads Ag ng cg g x y _ (RLD.out W hU) HNG.out (by omega)).mono ?_; rintro e w9 ⟨rfl, rfl⟩
                    rw [HB2.out]
                    go_wp2_with fail
                    exact hK.out _ _ (outV_new rfl rfl (by intro b hb; cases hb) (.refl _ _))
                  rintro _ rfl
                  simp only [Act.put, List.setIfInBounds_toArray, List.set_cons_zero, List.set_cons_succ]
                  with_reducible apply wpV_light
                  · simp only [lightOp]
                  · intro W hU hF
                    have f0 := CS.out W hU
                    clear hU hF
                    go_simp
                    exact rfl
                  simp only [Act.put, List.setIfInBounds_toArray, List.set_cons_zero, List.set_cons_succ]
                  refine wpV_end (fun W hU _ _ => ?_)
                  have U6 : Hid (Upd [] wx W) := Lib.hid (UY.out.drew.trans hU)
                  clear hU
                  refine wpT_end ?_
                  go_wp2_with fail
                  go_roundw
                  case rel => exact ⟨k + 1, by go_num, by omega, U6⟩
                  case measure => simp [intOf]; omega
                · have : k = i := by omega
                  subst this
                  have U6 : Hid (Upd [] wq wy) := Lib.hid (UX.out.trans UY.out)
                  go_wp2_with fail
                  go_roundw
                  case rel => exact ⟨k + 1, by go_num, by omega, U6⟩
                  case measure => simp [intOf]; omega
            · have : i = ns := by omega
              subst this
              have U6 : Hid (Upd [] w wx) := Lib.hid (U4.out.trans UX.out)
              go_wp2_with fail
              refine (r_txns A n c l wx (H.out.upd0 U6.out) HN.out (by omega)).mono ?_; rintro e w7 ⟨tv, rfl, ot, u7⟩
              have U7 := Lib.hid (U6.out.trans u7)
              obtain ⟨At, ct, rfl, _, _⟩ := ot.form
              rw [HALL.out, ← HSL.out]
              clear ot u7
              go_wp2_with fail
              refine (t_alive w7).mono ?_; rintro e w9 ⟨rfl, u9⟩
              have U9 := Lib.hid (U7.out.trans u9)
              clear u9
              go_wp2_with fail
              go_ret
              exact ⟨rfl, U9.out⟩
  · have d : (f != 0) = true := by simpa using h0
    go_wp2_with fail
    refine (t_alive w1).mono ?_; rintro e w9 ⟨rfl, u9⟩
    have U9 := Lib.hid (U1.out.trans u9)
    clear u9
    go_wp2_with fail
    go_ret
    exact ⟨rfl, U9.out⟩
end Go.Proofs.YteddiknlcdbhjaaGreat

namespace Go.Proofs.YteddiknlcdbhjaaGreat
open Go.RowKit Go.WideShapes Go.ChangeShapes TrP

theorem reads_ev {P : Program} {t : TypeId} {f0 f1 f2 f3 : Field} (ht : P.underlying t = some (.struct #[f0, f1, f2, f3])) (hc : P.cellsOf t = 4) (o0 : f0.offset = 0) (o1 : f1.offset = 1) (o2 : f2.offset = 2) (o3 : f3.offset = 3) (c0 : P.cellsOf f0.type = 1) (c1 : P.cellsOf f1.type = 1) (c2 : P.cellsOf f2.type = 1) (c3 : P.cellsOf f3.type = 1)
    (h0 : P.underlying f0.type = some (.int .i64)) (h1 : P.underlying f1.type = some (.int .u64)) (h2 : P.underlying f2.type = some (.int .i64)) (h3 : P.underlying f3.type = some .bool) : ReadsAs P t encEv EvIn :=
  ⟨hc, fun {H enc w base spare held fuel cs x} h => by
    obtain ⟨xs, n, _, _, hl, hxl, hf⟩ := DataW.trod_struct ht h
    rw [hc] at hl
    match cs, hl with
    | [a0, a1, a2, a3], _ =>
      have g0 := hf 0 f0 rfl
      have hx0 : xs[0]? = some (xs[0]'(by rw [hxl]; simp)) := List.getElem?_eq_getElem _
      rw [o0, c0, hx0] at g0
      obtain ⟨y0, e0, _, w0⟩ := DataW.trod_int h0 g0
      simp at e0
      subst e0
      have g1 := hf 1 f1 rfl
      have hx1 : xs[1]? = some (xs[1]'(by rw [hxl]; simp)) := List.getElem?_eq_getElem _
      rw [o1, c1, hx1] at g1
      obtain ⟨y1, e1, _, w1⟩ := DataW.trod_int h1 g1
      simp at e1
      subst e1
      have g2 := hf 2 f2 rfl
      have hx2 : xs[2]? = some (xs[2]'(by rw [hxl]; simp)) := List.getElem?_eq_getElem _
      rw [o2, c2, hx2] at g2
      obtain ⟨y2, e2, _, w2⟩ := DataW.trod_int h2 g2
      simp at e2
      subst e2
      have g3 := hf 3 f3 rfl
      have hx3 : xs[3]? = some (xs[3]'(by rw [hxl]; simp)) := List.getElem?_eq_getElem _
      rw [o3, c3, hx3] at g3
      obtain ⟨y3, e3, _⟩ := DataW.trod_bool h3 g3
      simp at e3
      subst e3
      exact ⟨⟨y0, y1, y2, y3⟩, rfl, w0, w1, w2⟩⟩
section
variable {H : Type} {enc : TypeId × Value → H} {W : World} {base b0 : Nat} {spare : Nat → Bool} {held : Bool} {v : Value} {d : DataW H} {ps : List MemPlace} {r : Reach}
set_option maxRecDepth 100000 in
theorem evs_of (hok : Value.okWide Tryz.prog W r b0 22 v) (h : DataW.Trod enc Tryz.prog W base spare held 22 v d ps) :
    ∃ (L : List Ev) (A : Option Addr) (c : Nat), v = .slice A L.length c ∧ L.length ≤ c ∧ c ≤ maxLen ∧ Rd encEv W v L ∧ (∀ x ∈ L, EvIn x) := by
  obtain ⟨L, A, c, h1, h2, h3, h4, h5⟩ := rd_arg Tryz.underlying22 (reads_ev Tryz.underlying47 (by kernel_rfl) rfl rfl rfl rfl (by kernel_rfl) (by kernel_rfl) (by kernel_rfl) (by kernel_rfl) Tryz.underlying3 Tryz.underlying45 Tryz.underlying3 Tryz.underlying4) hok h
  exact ⟨L, A, c, h1, h2, h3, h4, h5⟩
end
end Go.Proofs.YteddiknlcdbhjaaGreat

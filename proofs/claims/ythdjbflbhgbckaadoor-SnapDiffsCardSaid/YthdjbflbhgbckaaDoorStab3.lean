/-
  The library's stable sort at pairs: the symmetric merge.
-/
import Derived.Test.YthdjbflbhgbckaaDoorStab2
import Derived.Deep.Cut
import Derived.Deep.CutRange
import Derived.Deep.CutBlock
set_option linter.unusedVariables false
namespace Go.Proofs.YthdjbflbhgbckaaDoor
open Go.RowKit Stab
attribute [local go_sem] litStep_value


theorem row_x {P X R : PL} {a c : Nat} (ha : P.length = a) (h1 : a ≤ c) (h2 : c - a < X.length) : (P ++ (X ++ R))[c]? = some (X.getD (c - a) default) := by
  rw [List.getElem?_append_right (by omega), ha, List.getElem?_append_left h2, List.getD_eq_getElem?_getD, List.getElem?_eq_getElem h2]
  rfl
theorem row_y {P X Y R : PL} {a m c : Nat} (ha : P.length = a) (hm : a + X.length = m) (h1 : m ≤ c) (h2 : c - m < Y.length) : (P ++ (X ++ (Y ++ R)))[c]? = some (Y.getD (c - m) default) := by
  rw [← List.append_assoc]
  exact row_x (by rw [List.length_append, ha]; exact hm) h1 h2
theorem mem_getD {l : PL} {x : Int × Int} (h : x ∈ l) : ∃ i, i < l.length ∧ l.getD i default = x := by
  obtain ⟨i, hi, rfl⟩ := List.getElem_of_mem h
  exact ⟨i, hi, by rw [List.getD_eq_getElem?_getD, List.getElem?_eq_getElem hi]; rfl⟩
/-- What a merge leaves. -/
def MergePost (B g N cp : Nat) (P X Y S : PL) (w : World) (e : Ending) (w' : World) : Prop := e = .returned (.tuple #[]) ∧ ∃ Z, SortOf (X ++ Y) Z ∧ Ow encPr 39 w' B (.slice (some ⟨g, 0, none⟩) N cp) (P ++ (Z ++ S)) ∧ Upd [g] w w'
def Below_ (x : Int × Int) (Y : PL) (i : Nat) : Prop := ∀ c, c < i → (Y.getD c default).1 < x.1
def Above_ (x : Int × Int) (Y : PL) (j : Nat) : Prop := ∀ c, j ≤ c → c < Y.length → x.1 ≤ (Y.getD c default).1
theorem one_in {x : Int × Int} {Y : PL} {i : Nat} (hY : Kle Y) (h1 : Below_ x Y i) (h2 : Above_ x Y i) : SortOf ([x] ++ Y) (Y.take i ++ x :: Y.drop i) := by
  refine ⟨kle_mid (by rw [List.take_append_drop]; exact hY) (fun y hy => ?_) (fun y hy => ?_), ?_⟩
  · obtain ⟨c, hc, _, rfl⟩ := mem_take_getD hy
    have := h1 c hc
    omega
  · obtain ⟨c, hc, hl, rfl⟩ := mem_drop_getD hy
    exact h2 c hc hl
  · have := @List.perm_middle _ x (Y.take i) (Y.drop i)
    rw [List.take_append_drop] at this
    exact this
def Upto_ (y : Int × Int) (X : PL) (i : Nat) : Prop := ∀ c, c < i → (X.getD c default).1 ≤ y.1
def Over_ (y : Int × Int) (X : PL) (j : Nat) : Prop := ∀ c, j ≤ c → c < X.length → y.1 < (X.getD c default).1
theorem one_in' {y : Int × Int} {X : PL} {i : Nat} (hX : Kle X) (h1 : Upto_ y X i) (h2 : Over_ y X i) : SortOf (X ++ [y]) (X.take i ++ y :: X.drop i) := by
  refine ⟨kle_mid (by rw [List.take_append_drop]; exact hX) (fun x hx => ?_) (fun x hx => ?_), ?_⟩
  · obtain ⟨c, hc, _, rfl⟩ := mem_take_getD hx
    exact h1 c hc
  · obtain ⟨c, hc, hl, rfl⟩ := mem_drop_getD hx
    have := h2 c hc hl
    omega
  · have := perm_mid (l := X.take i) (m := X.drop i) (x := y)
    rw [List.take_append_drop] at this
    exact this
theorem cut_split {X Y : PL} {a m b i e : Nat} (hx : a + X.length = m) (hy : m + Y.length = b) (h1 : a ≤ i) (h2 : i ≤ m) (h3 : m ≤ e) (h4 : e ≤ b) (c1 : ∀ x ∈ X.take (i - a), ∀ y ∈ Y.drop (e - m), x.1 ≤ y.1) (c2 : ∀ y ∈ Y.take (e - m), ∀ x ∈ X.drop (i - a), y.1 ≤ x.1) :
    ∃ X1 X2 Y1 Y2 : PL, X1 ++ X2 = X ∧ Y1 ++ Y2 = Y ∧ a + X1.length = i ∧ i + X2.length = m ∧ m + Y1.length = e ∧ e + Y2.length = b ∧ (∀ x ∈ X1, ∀ y ∈ Y2, x.1 ≤ y.1) ∧ (∀ y ∈ Y1, ∀ x ∈ X2, y.1 ≤ x.1) :=
  ⟨X.take (i - a), X.drop (i - a), Y.take (e - m), Y.drop (e - m), List.take_append_drop _ _, List.take_append_drop _ _, by rw [List.length_take]; omega, by rw [List.length_drop]; omega, by rw [List.length_take]; omega, by rw [List.length_drop]; omega, c1, c2⟩
theorem len0 {l : PL} (h : l.length = 0) : l = [] := List.eq_nil_of_length_eq_zero h
theorem sort_one {X Y : PL} (hX : Kle X) (hY : Kle Y) (h : X = [] ∨ Y = []) : SortOf (X ++ Y) (X ++ Y) := by
  refine ⟨?_, List.Perm.refl _⟩
  rcases h with rfl | rfl
  · exact hY
  · rw [List.append_nil]; exact hX
theorem row_len {B g N cp : Nat} {row : PL} {w : World} (h : Ow encPr 39 w B (.slice (some ⟨g, 0, none⟩) N cp) row) : row.length = N := by
  obtain ⟨A9, c9, e9, _⟩ := own_slice h
  injection e9 with _ e9
  exact e9.symm
set_option maxRecDepth 100000 in
set_option maxHeartbeats 16000000 in
theorem sym_ok (B g N cp : Nat) (hN : N ≤ 1000) : ∀ (f : Nat) (P X Y S : PL) (a m b : Nat) (w : World), b - a < f → Ow encPr 39 w B (.slice (some ⟨g, 0, none⟩) N cp) (P ++ (X ++ (Y ++ S))) → (P ++ (X ++ (Y ++ S))).length = N → P.length = a → a + X.length = m → m + Y.length = b → a < m → m < b → Kle X → Kle Y →
    Calls Tryd.prog 58 #[.slice (some ⟨g, 0, none⟩) N cp, .int .i64 a, .int .i64 m, .int .i64 b, byK] w fun e w' => MergePost B g N cp P X Y S w e w' := by
  intro f
  induction f with
  | zero => intro P X Y S a m b w h; omega
  | succ f ih =>
    intro P X Y S a m b w hf ho hn ha hx hy h1 h2 hkx hky
    have IH := Lib.hid ih
    have HO := Lib.hid ho
    have HA := Lib.hid ha
    have HX := Lib.hid hx
    have HY := Lib.hid hy
    have KX := Lib.hid hkx
    have KY := Lib.hid hky
    have hbN : b ≤ N := by
      simp only [List.length_append] at hn
      omega
    have HNR := Lib.hid hn
    have ent : ∀ args w, (callFunc 25 args).run Tryd.prog w = .ok (.enter 25 args) w := fun args w => rfl
    clear ih ho hn ha hx hy hkx hky
    unfold byK
    go_enter Tryd.func58, Tryd.ntmps58
    obtain ⟨ma, hma⟩ : ∃ ma, m - a = ma := ⟨_, rfl⟩
    have q0 : (m : Int) - (a : Int) = (ma : Int) := by omega
    have q0w : IntKind.i64.wrap (ma : Int) = (ma : Int) := by rw [IntKind.wrap_i64]; omega
    by_cases hm1 : ma = 1
    · subst hm1
      have hma' : m = a + 1 := by omega
      have HMA := Lib.hid hma'
      clear hma'
      obtain ⟨x, rfl⟩ : ∃ x, X = [x] := by
        have hxl : X.length = 1 := by have := HX.out; omega
        match X, hxl with
        | [x], _ => exact ⟨x, rfl⟩
      go_wp2_with fail
      go_loopw [10, 11, 12] (fun v u t wr => ∃ (i j : Nat), v = .int .i64 i ∧ u = .int .i64 j ∧ m ≤ i ∧ i ≤ j ∧ j ≤ b ∧ Hid (Below_ x Y (i - m)) ∧ Hid (Above_ x Y (j - m)) ∧ Hid (Upd [] w wr)) (fun v u _ _ => (intOf u).toNat - (intOf v).toNat)
      case atStart => exact ⟨m, b, rfl, rfl, Nat.le_refl _, by omega, Nat.le_refl _, Lib.hid (fun c hc => by omega), Lib.hid (fun c hc hl => by have := HY.out; omega), Lib.hid (.refl _ _)⟩
      case round =>
        obtain ⟨i, j, rfl, rfl, hi, hij, hjb, HB1, HB2, UI⟩ := hrel
        rename World => wr
        by_cases hlt : i < j
        · have q1 : (i : Int) < (j : Int) := by omega
          obtain ⟨h, hh⟩ : ∃ h : Nat, ((i : Int) + (j : Int)) / 2 = (h : Int) := ⟨((i + j) / 2 : Nat), by omega⟩
          have r1 : i ≤ h := by omega
          have r2 : h < j := by omega
          obtain ⟨y, hy⟩ : ∃ y, Y.getD (h - m) default = y := ⟨_, rfl⟩
          have HYH := Lib.hid hy
          have OW := Lib.hid (HO.out.upd0 UI.out)
          have hI : Hid ((P ++ ([x] ++ (Y ++ S)))[h]? = some y) := Lib.hid (by rw [← hy]; exact row_y HA.out HX.out (by omega) (by have := HY.out; omega))
          have hJ : Hid ((P ++ ([x] ++ (Y ++ S)))[a]? = some x) := Lib.hid (by have := get_mid P (Y ++ S) x; rwa [HA.out] at this)
          have t1 : (0 : Int) ≤ (h : Int) := by omega
          have t2 : (h : Int) < (N : Int) := by omega
          have t3 : (0 : Int) ≤ (a : Int) := by omega
          have t4 : (a : Int) < (N : Int) := by omega
          clear hy
          by_cases hc : y.1 < x.1
          · have dc : decide (cmpI y.1 x.1 < 0) = true := by rw [cmpI_lt]; simpa using hc
            have HC := Lib.hid hc
            clear hc
            have CS : Hid (∀ W, Upd [] wr.drew W → W.cell? ⟨g, h * 2, none⟩ = some (.int .i64 y.1) ∧ W.cell? ⟨g, h * 2 + 1, none⟩ = some (.int .i64 y.2) ∧ W.cell? ⟨g, a * 2, none⟩ = some (.int .i64 x.1) ∧ W.cell? ⟨g, a * 2 + 1, none⟩ = some (.int .i64 x.2)) := Lib.hid (fun W hW => by
              have ho := OW.out.upd0 ((Upd.refl [] wr).drew.trans hW)
              exact ⟨ho.at_ hI.out 0 _ rfl, ho.at_ hI.out 1 _ rfl, ho.at_ hJ.out 0 _ rfl, ho.at_ hJ.out 1 _ rfl⟩)
            go_wp2_with fail
            refine wp_invN [(9, .det (.int .i64 (cmpI y.1 x.1)))] [] (by kernel_rfl) (by kernel_rfl) (by kernel_rfl) ⟨lasts_det _, trivial⟩ ?_
            with_reducible apply wpV_light
            · simp only [lightOp]
            · intro W hU hF
              have f0 := CS.out W hU
              clear hU hF
              go_simp
              exact rfl
            simp only [Act.put, List.setIfInBounds_toArray, List.set_cons_zero, List.set_cons_succ]
            with_reducible apply wpV_light
            · simp only [lightOp]
            · intro W hU hF
              have f0 := CS.out W hU
              clear hU hF
              go_simp
              exact rfl
            simp only [Act.put, List.setIfInBounds_toArray, List.set_cons_zero, List.set_cons_succ]
            with_reducible apply wpV_light
            · simp only [lightOp]
            · intro W hU hF
              have f0 := CS.out W hU
              clear hU hF
              go_simp
              exact rfl
            simp only [Act.put, List.setIfInBounds_toArray, List.set_cons_zero, List.set_cons_succ]
            with_reducible apply wpV_light
            · simp only [lightOp]
            · intro W hU hF
              have f0 := CS.out W hU
              clear hU hF
              go_simp
              exact rfl
            simp only [Act.put, List.setIfInBounds_toArray, List.set_cons_zero, List.set_cons_succ]
            with_reducible apply wpV_light
            · simp only [lightOp]
            · intro W hU hF
              have f0 := CS.out W hU
              clear hU hF
              go_simp
              exact rfl
            simp only [Act.put, List.setIfInBounds_toArray, List.set_cons_zero, List.set_cons_succ]
            with_reducible apply wpV_light
            · simp only [lightOp]
            · intro W hU hF
              have f0 := CS.out W hU
              clear hU hF
              go_simp
              exact rfl
            simp only [Act.put, List.setIfInBounds_toArray, List.set_cons_zero, List.set_cons_succ]
            with_reducible apply wpV_light
            · simp only [lightOp]
            · intro W hU hF
              have f0 := CS.out W hU
              clear hU hF
              go_simp
              exact rfl
            simp only [Act.put, List.setIfInBounds_toArray, List.set_cons_zero, List.set_cons_succ]
            with_reducible apply wpV_light
            · simp only [lightOp]
            · intro W hU hF
              have f0 := CS.out W hU
              clear hU hF
              go_simp
              exact rfl
            simp only [Act.put, List.setIfInBounds_toArray, List.set_cons_zero, List.set_cons_succ]
            with_reducible apply wpV_light
            · simp only [lightOp]
            · intro W hU hF
              have f0 := CS.out W hU
              clear hU hF
              go_simp
              exact rfl
            simp only [Act.put, List.setIfInBounds_toArray, List.set_cons_zero, List.set_cons_succ]
            refine wpV_heavy (by simp only [lightOp]) (by rfl) (fun W hU hk hF K hK => ?_) ?_
            · go_wp2_with fail
              refine (bykey_ok y.1 y.2 x.1 x.2 W).mono ?_
              rintro e w5 ⟨rfl, u5⟩
              go_wp2_with fail
              exact hK.out _ _ (outV_new rfl rfl (by intro b hb; cases hb) u5)
            rintro _ rfl
            simp only [Act.put, List.setIfInBounds_toArray, List.set_cons_zero, List.set_cons_succ]
            with_reducible apply wpV_light
            · simp only [lightOp]
            · intro W hU hF
              have f0 := CS.out W hU
              clear hU hF
              go_simp
              exact rfl
            simp only [Act.put, List.setIfInBounds_toArray, List.set_cons_zero, List.set_cons_succ]
            refine wpV_end (fun W hU _ _ => ?_)
            have U2 : Hid (Upd [] wr W) := Lib.hid ((Upd.refl [] wr).drew.trans hU)
            clear hU CS
            refine wpT_end ?_
            have HB3 : Hid (Below_ x Y (h + 1 - m)) := Lib.hid (fun c hc => by
              have k1 := kle_at KY.out (i := c) (j := h - m) (by omega) (by have := HY.out; omega)
              rw [HYH.out] at k1
              have := HC.out
              omega)
            have UJ := Lib.hid (UI.out.trans U2.out)
            go_wp2_with fail
            go_roundw
            case rel => exact ⟨h + 1, j, by go_num, rfl, by omega, by omega, hjb, HB3, HB2, UJ⟩
            case measure => simp [intOf]; omega
          · have dc : decide (cmpI y.1 x.1 < 0) = false := by rw [cmpI_lt]; simpa using hc
            have HC : Hid (x.1 ≤ y.1) := Lib.hid (by omega)
            clear hc
            have CS : Hid (∀ W, Upd [] wr.drew W → W.cell? ⟨g, h * 2, none⟩ = some (.int .i64 y.1) ∧ W.cell? ⟨g, h * 2 + 1, none⟩ = some (.int .i64 y.2) ∧ W.cell? ⟨g, a * 2, none⟩ = some (.int .i64 x.1) ∧ W.cell? ⟨g, a * 2 + 1, none⟩ = some (.int .i64 x.2)) := Lib.hid (fun W hW => by
              have ho := OW.out.upd0 ((Upd.refl [] wr).drew.trans hW)
              exact ⟨ho.at_ hI.out 0 _ rfl, ho.at_ hI.out 1 _ rfl, ho.at_ hJ.out 0 _ rfl, ho.at_ hJ.out 1 _ rfl⟩)
            go_wp2_with fail
            refine wp_invN [(9, .det (.int .i64 (cmpI y.1 x.1)))] [] (by kernel_rfl) (by kernel_rfl) (by kernel_rfl) ⟨lasts_det _, trivial⟩ ?_
            with_reducible apply wpV_light
            · simp only [lightOp]
            · intro W hU hF
              have f0 := CS.out W hU
              clear hU hF
              go_simp
              exact rfl
            simp only [Act.put, List.setIfInBounds_toArray, List.set_cons_zero, List.set_cons_succ]
            with_reducible apply wpV_light
            · simp only [lightOp]
            · intro W hU hF
              have f0 := CS.out W hU
              clear hU hF
              go_simp
              exact rfl
            simp only [Act.put, List.setIfInBounds_toArray, List.set_cons_zero, List.set_cons_succ]
            with_reducible apply wpV_light
            · simp only [lightOp]
            · intro W hU hF
              have f0 := CS.out W hU
              clear hU hF
              go_simp
              exact rfl
            simp only [Act.put, List.setIfInBounds_toArray, List.set_cons_zero, List.set_cons_succ]
            with_reducible apply wpV_light
            · simp only [lightOp]
            · intro W hU hF
              have f0 := CS.out W hU
              clear hU hF
              go_simp
              exact rfl
            simp only [Act.put, List.setIfInBounds_toArray, List.set_cons_zero, List.set_cons_succ]
            with_reducible apply wpV_light
            · simp only [lightOp]
            · intro W hU hF
              have f0 := CS.out W hU
              clear hU hF
              go_simp
              exact rfl
            simp only [Act.put, List.setIfInBounds_toArray, List.set_cons_zero, List.set_cons_succ]
            with_reducible apply wpV_light
            · simp only [lightOp]
            · intro W hU hF
              have f0 := CS.out W hU
              clear hU hF
              go_simp
              exact rfl
            simp only [Act.put, List.setIfInBounds_toArray, List.set_cons_zero, List.set_cons_succ]
            with_reducible apply wpV_light
            · simp only [lightOp]
            · intro W hU hF
              have f0 := CS.out W hU
              clear hU hF
              go_simp
              exact rfl
            simp only [Act.put, List.setIfInBounds_toArray, List.set_cons_zero, List.set_cons_succ]
            with_reducible apply wpV_light
            · simp only [lightOp]
            · intro W hU hF
              have f0 := CS.out W hU
              clear hU hF
              go_simp
              exact rfl
            simp only [Act.put, List.setIfInBounds_toArray, List.set_cons_zero, List.set_cons_succ]
            with_reducible apply wpV_light
            · simp only [lightOp]
            · intro W hU hF
              have f0 := CS.out W hU
              clear hU hF
              go_simp
              exact rfl
            simp only [Act.put, List.setIfInBounds_toArray, List.set_cons_zero, List.set_cons_succ]
            refine wpV_heavy (by simp only [lightOp]) (by rfl) (fun W hU hk hF K hK => ?_) ?_
            · go_wp2_with fail
              refine (bykey_ok y.1 y.2 x.1 x.2 W).mono ?_
              rintro e w5 ⟨rfl, u5⟩
              go_wp2_with fail
              exact hK.out _ _ (outV_new rfl rfl (by intro b hb; cases hb) u5)
            rintro _ rfl
            simp only [Act.put, List.setIfInBounds_toArray, List.set_cons_zero, List.set_cons_succ]
            with_reducible apply wpV_light
            · simp only [lightOp]
            · intro W hU hF
              have f0 := CS.out W hU
              clear hU hF
              go_simp
              exact rfl
            simp only [Act.put, List.setIfInBounds_toArray, List.set_cons_zero, List.set_cons_succ]
            refine wpV_end (fun W hU _ _ => ?_)
            have U2 : Hid (Upd [] wr W) := Lib.hid ((Upd.refl [] wr).drew.trans hU)
            clear hU CS
            refine wpT_end ?_
            have HB3 : Hid (Above_ x Y (h - m)) := Lib.hid (fun c hc hl => by
              have k1 := kle_at KY.out (i := h - m) (j := c) (by omega) hl
              rw [HYH.out] at k1
              have := HC.out
              omega)
            have UJ := Lib.hid (UI.out.trans U2.out)
            go_wp2_with fail
            go_roundw
            case rel => exact ⟨i, h, rfl, by go_num, hi, by omega, by omega, HB1, HB3, UJ⟩
            case measure => simp [intOf]; omega
        · obtain rfl : i = j := by omega
          obtain ⟨i1, hi1⟩ : ∃ i1, i1 + 1 = i := ⟨i - 1, by omega⟩
          have HI1 := Lib.hid hi1
          have q9 : (i : Int) - 1 = (i1 : Int) := by omega
          have q9w : IntKind.i64.wrap (i1 : Int) = (i1 : Int) := by rw [IntKind.wrap_i64]; omega
          have q9b : i1 < b := by omega
          have q9a : a ≤ i1 := by have := HMA.out; omega
          have O0 : Hid (Ow encPr 39 wr B (.slice (some ⟨g, 0, none⟩) N cp) (P ++ ((Y.take (a - a) ++ x :: Y.drop (a - a)) ++ S))) := Lib.hid (by rw [Nat.sub_self]; exact HO.out.upd0 UI.out)
          have U0 : Hid (Upd [g] w wr) := Lib.hid (UI.out.mono (by simp))
          clear hi1 UI
          go_wp2_with fail
          go_loopw [13] (fun v wk => ∃ (k : Nat), v = .int .i64 k ∧ a ≤ k ∧ k ≤ i1 ∧ Hid (Ow encPr 39 wk B (.slice (some ⟨g, 0, none⟩) N cp) (P ++ ((Y.take (k - a) ++ x :: Y.drop (k - a)) ++ S))) ∧ Hid (Upd [g] w wk)) (fun v _ => i1 - (intOf v).toNat)
          case atStart => exact ⟨a, rfl, Nat.le_refl _, q9a, O0, U0⟩
          case round =>
            obtain ⟨k, rfl, hak, hk, OK, UK⟩ := hrel
            rename World => wk
            clear O0 U0
            by_cases hk1 : k < i1
            · have q1 : (k : Int) < (i1 : Int) := by omega
              obtain ⟨y, hy⟩ : ∃ y, Y[k - a]? = some y := ⟨_, List.getElem?_eq_getElem (by have := HY.out; have := HMA.out; omega)⟩
              obtain ⟨dy, ty⟩ := take_drop_at hy
              rw [show k - a + 1 = k + 1 - a by omega] at dy ty
              have HTY := Lib.hid ty
              have HP1 : Hid ((P ++ Y.take (k - a)).length = k) := Lib.hid (by rw [List.length_append, HA.out, List.length_take]; have := HY.out; have := HMA.out; omega)
              have OW : Hid (Ow encPr 39 wk B (.slice (some ⟨g, 0, none⟩) N cp) ((P ++ Y.take (k - a)) ++ x :: y :: (Y.drop (k + 1 - a) ++ S))) := Lib.hid (by
                have := OK.out
                rw [dy] at this
                simpa only [List.append_assoc, List.cons_append, List.nil_append] using this)
              have SP : Hid (swapL ((P ++ Y.take (k - a)) ++ x :: y :: (Y.drop (k + 1 - a) ++ S)) k (k + 1) = (P ++ Y.take (k - a)) ++ y :: x :: (Y.drop (k + 1 - a) ++ S)) := Lib.hid (by
                have := swapL_next (P ++ Y.take (k - a)) (Y.drop (k + 1 - a) ++ S) x y
                rwa [HP1.out] at this)
              generalize hrow : ((P ++ Y.take (k - a)) ++ x :: y :: (Y.drop (k + 1 - a) ++ S)) = row at OW SP
              obtain ⟨k1, hk1d⟩ : ∃ k1, k + 1 = k1 := ⟨_, rfl⟩
              rw [hk1d] at SP
              have hxi : row[k]? = some x := by
                have := get_mid (P ++ Y.take (k - a)) (y :: (Y.drop (k + 1 - a) ++ S)) x
                rw [HP1.out] at this
                rw [← hrow]
                exact this
              have hxj : row[k1]? = some y := by
                have := get_mid (P ++ Y.take (k - a) ++ [x]) (Y.drop (k + 1 - a) ++ S) y
                rw [show (P ++ Y.take (k - a) ++ [x]).length = k1 by rw [List.length_append, HP1.out]; exact hk1d] at this
                rw [← hrow]
                simpa only [List.append_assoc, List.cons_append, List.nil_append] using this
              have HN : Hid (row.length = N) := Lib.hid (by obtain ⟨A9, c9, e9, _⟩ := own_slice OW.out; injection e9 with _ e9; exact e9.symm)
              have t1 : (0 : Int) ≤ (k : Int) := by omega
              have t2 : (k : Int) < (N : Int) := by omega
              have t3 : (0 : Int) ≤ (k1 : Int) := by omega
              have t4 : (k1 : Int) < (N : Int) := by omega
              have t5 : (k : Int) + 1 = (k1 : Int) := by omega
              have t5w : IntKind.i64.wrap (k1 : Int) = (k1 : Int) := by rw [IntKind.wrap_i64]; omega
              have HK1 := Lib.hid hk1d
              clear hy dy ty OK hrow hk1d
              go_wp2_with fail
              -- data[k], data[k1] = data[k1], data[k] in a drawn region: hxi, hxj : the elements; OW : the row
              have HXI : Hid (row.getD (k) default = x) := Lib.hid (by rw [List.getD_eq_getElem?_getD, hxi]; rfl)
              have HXJ : Hid (row.getD (k1) default = y) := Lib.hid (by rw [List.getD_eq_getElem?_getD, hxj]; rfl)
              have HJL : Hid ((k1) < row.length) := Lib.hid (List.getElem?_eq_some_iff.1 hxj).1
              have O2n : Hid (wk.ownsRow B 39 2 (.slice (some ⟨g, 0, none⟩) N cp) N (flat encPr row)) := Lib.hid (by have := OW.out; unfold Ow at this; rw [HN.out] at this; exact this)
              have f1 : wk.cell? ⟨g, (k) * 2, none⟩ = some (.int .i64 x.1) := OW.out.at_ hxi 0 _ rfl
              have f2 : wk.cell? ⟨g, (k) * 2 + 1, none⟩ = some (.int .i64 x.2) := OW.out.at_ hxi 1 _ rfl
              have f3 : wk.cell? ⟨g, (k1) * 2, none⟩ = some (.int .i64 y.1) := OW.out.at_ hxj 0 _ rfl
              have f4 : wk.cell? ⟨g, (k1) * 2 + 1, none⟩ = some (.int .i64 y.2) := OW.out.at_ hxj 1 _ rfl
              have fz : ∀ k, wk.frozen? ⟨g, k, none⟩ = false := own_frozen O2n.out
              have fl : g < wk.heap.size := (own_lt O2n.out rfl).2
              have O3 : Hid (((wk.setCell ⟨g, (k) * 2, none⟩ (.int .i64 y.1)).setCell ⟨g, (k) * 2 + 1, none⟩ (.int .i64 y.2)).ownsRow B 39 2 (.slice (some ⟨g, 0, none⟩) N cp) N (flat encPr (row.set (k) y))) := Lib.hid (by rw [flat_set2]; exact own_set (own_set O2n.out _ _) _ _)
              have O3' : Hid (Ow encPr 39 ((wk.setCell ⟨g, (k) * 2, none⟩ (.int .i64 y.1)).setCell ⟨g, (k) * 2 + 1, none⟩ (.int .i64 y.2)) B (.slice (some ⟨g, 0, none⟩) N cp) (row.set (k) y)) := Lib.hid (by unfold Ow; rw [List.length_set, HN.out]; exact O3.out)
              obtain ⟨z, hz⟩ : ∃ z, (row.set (k) y)[k1]? = some z := ⟨_, List.getElem?_eq_getElem (by rw [List.length_set]; exact HJL.out)⟩
              have f5 : ((wk.setCell ⟨g, (k) * 2, none⟩ (.int .i64 y.1)).setCell ⟨g, (k) * 2 + 1, none⟩ (.int .i64 y.2)).cell? ⟨g, (k1) * 2, none⟩ = some (.int .i64 z.1) := O3'.out.at_ hz 0 _ rfl
              have f6 : ((wk.setCell ⟨g, (k) * 2, none⟩ (.int .i64 y.1)).setCell ⟨g, (k) * 2 + 1, none⟩ (.int .i64 y.2)).cell? ⟨g, (k1) * 2 + 1, none⟩ = some (.int .i64 z.2) := O3'.out.at_ hz 1 _ rfl
              have O4 : Hid ((((((wk.setCell ⟨g, (k) * 2, none⟩ (.int .i64 y.1)).setCell ⟨g, (k) * 2 + 1, none⟩ (.int .i64 y.2)).setCell ⟨g, (k1) * 2, none⟩ (.int .i64 x.1)).setCell ⟨g, (k1) * 2 + 1, none⟩ (.int .i64 x.2)).drew).ownsRow B 39 2 (.slice (some ⟨g, 0, none⟩) N cp) N (flat encPr ((row.set (k) y).set (k1) x))) := Lib.hid (own_upd0 (by rw [flat_set2]; exact own_set (own_set O3.out _ _) _ _) ((Upd.refl [] _).drew))
              have U4 : Hid (Upd [g] wk (((((wk.setCell ⟨g, (k) * 2, none⟩ (.int .i64 y.1)).setCell ⟨g, (k) * 2 + 1, none⟩ (.int .i64 y.2)).setCell ⟨g, (k1) * 2, none⟩ (.int .i64 x.1)).setCell ⟨g, (k1) * 2 + 1, none⟩ (.int .i64 x.2)).drew)) := Lib.hid ((((((Upd.refl [g] wk).setCell (.inl (by simp)) _).setCell (.inl (by simp)) _).setCell (.inl (by simp)) _).setCell (.inl (by simp)) _).drew)
              clear hxi hxj hz O3'
              go_region
              clear f1 f2 f3 f4 f5 f6 fz fl O2n O3
              generalize (((((wk.setCell ⟨g, (k) * 2, none⟩ (.int .i64 y.1)).setCell ⟨g, (k) * 2 + 1, none⟩ (.int .i64 y.2)).setCell ⟨g, (k1) * 2, none⟩ (.int .i64 x.1)).setCell ⟨g, (k1) * 2 + 1, none⟩ (.int .i64 x.2)).drew) = W4 at *
              have O5 : Hid (Ow encPr 39 W4 B (.slice (some ⟨g, 0, none⟩) N cp) (swapL row (k) (k1))) := Lib.hid (by
                unfold swapL
                rw [HXI.out, HXJ.out]
                unfold Ow
                rw [List.length_set, List.length_set, HN.out]
                exact O4.out)
              clear O4 HXI HXJ HJL
              have O6 : Hid (Ow encPr 39 W4 B (.slice (some ⟨g, 0, none⟩) N cp) (P ++ ((Y.take (k1 - a) ++ x :: Y.drop (k1 - a)) ++ S))) := Lib.hid (by
                have := O5.out
                rw [SP.out] at this
                have e := HTY.out
                rw [HK1.out] at e
                rw [e]
                simpa only [List.append_assoc, List.cons_append, List.nil_append] using this)
              have U6 : Hid (Upd [g] w W4) := Lib.hid (UK.out.trans U4.out)
              clear O5 U4 OW
              go_wp2_with fail
              go_roundw
              case rel => exact ⟨k1, by go_num, by omega, by omega, O6, U6⟩
              case measure => simp [intOf]; omega
            · obtain rfl : k = i1 := by omega
              have e : k - a = i - m := by have := HI1.out; have := HMA.out; omega
              have OE : Hid (Ow encPr 39 wk B (.slice (some ⟨g, 0, none⟩) N cp) (P ++ ((Y.take (i - m) ++ x :: Y.drop (i - m)) ++ S))) := Lib.hid (by rw [← e]; exact OK.out)
              clear OK e
              go_wp2_with fail
              go_end0
              exact ⟨rfl, _, one_in KY.out HB1.out HB2.out, OE.out, UK.out⟩
    · have d0 : ((ma : Int) == 1) = false := by simp; omega
      have HMA := Lib.hid hma
      obtain ⟨bm, hbm⟩ : ∃ bm, b - m = bm := ⟨_, rfl⟩
      have q10 : (b : Int) - (m : Int) = (bm : Int) := by omega
      have q10w : IntKind.i64.wrap (bm : Int) = (bm : Int) := by rw [IntKind.wrap_i64]; omega
      by_cases hb1 : bm = 1
      · subst hb1
        have HBM := Lib.hid hbm
        clear hbm hma
        obtain ⟨y, rfl⟩ : ∃ y, Y = [y] := by
          have hyl : Y.length = 1 := by have := HY.out; have := HBM.out; omega
          match Y, hyl with
          | [y], _ => exact ⟨y, rfl⟩
        go_wp2_with fail
        go_loopw [14, 15, 16] (fun v u t wr => ∃ (i j : Nat), v = .int .i64 i ∧ u = .int .i64 j ∧ a ≤ i ∧ i ≤ j ∧ j ≤ m ∧ Hid (Upto_ y X (i - a)) ∧ Hid (Over_ y X (j - a)) ∧ Hid (Upd [] w wr)) (fun v u _ _ => (intOf u).toNat - (intOf v).toNat)
        case atStart => exact ⟨a, m, rfl, rfl, Nat.le_refl _, by omega, Nat.le_refl _, Lib.hid (fun c hc => by omega), Lib.hid (fun c hc hl => by have := HX.out; omega), Lib.hid (.refl _ _)⟩
        case round =>
          obtain ⟨i, j, rfl, rfl, hi, hij, hjm, HB1, HB2, UI⟩ := hrel
          rename World => wr
          by_cases hlt : i < j
          · have q1 : (i : Int) < (j : Int) := by omega
            obtain ⟨h, hh⟩ : ∃ h : Nat, ((i : Int) + (j : Int)) / 2 = (h : Int) := ⟨((i + j) / 2 : Nat), by omega⟩
            have r1 : i ≤ h := by omega
            have r2 : h < j := by omega
            obtain ⟨x, hx⟩ : ∃ x, X.getD (h - a) default = x := ⟨_, rfl⟩
            have HXH := Lib.hid hx
            have OW := Lib.hid (HO.out.upd0 UI.out)
            have hI : Hid ((P ++ (X ++ ([y] ++ S)))[m]? = some y) := Lib.hid (by have := row_y (R := S) HA.out HX.out (Nat.le_refl m) (Y := [y]) (by simp); simpa using this)
            have hJ : Hid ((P ++ (X ++ ([y] ++ S)))[h]? = some x) := Lib.hid (by rw [← hx]; exact row_x HA.out (by omega) (by have := HX.out; omega))
            have t1 : (0 : Int) ≤ (h : Int) := by omega
            have t2 : (h : Int) < (N : Int) := by omega
            have t3 : (0 : Int) ≤ (m : Int) := by omega
            have t4 : (m : Int) < (N : Int) := by omega
            clear hx
            by_cases hc : y.1 < x.1
            · have dc : decide (cmpI y.1 x.1 < 0) = true := by rw [cmpI_lt]; simpa using hc
              have HC := Lib.hid hc
              clear hc
              have CS : Hid (∀ W, Upd [] wr.drew W → W.cell? ⟨g, m * 2, none⟩ = some (.int .i64 y.1) ∧ W.cell? ⟨g, m * 2 + 1, none⟩ = some (.int .i64 y.2) ∧ W.cell? ⟨g, h * 2, none⟩ = some (.int .i64 x.1) ∧ W.cell? ⟨g, h * 2 + 1, none⟩ = some (.int .i64 x.2)) := Lib.hid (fun W hW => by
                have ho := OW.out.upd0 ((Upd.refl [] wr).drew.trans hW)
                exact ⟨ho.at_ hI.out 0 _ rfl, ho.at_ hI.out 1 _ rfl, ho.at_ hJ.out 0 _ rfl, ho.at_ hJ.out 1 _ rfl⟩)
              go_wp2_with fail
              refine wp_invN [(9, .det (.int .i64 (cmpI y.1 x.1)))] [] (by kernel_rfl) (by kernel_rfl) (by kernel_rfl) ⟨lasts_det _, trivial⟩ ?_
              with_reducible apply wpV_light
              · simp only [lightOp]
              · intro W hU hF
                have f0 := CS.out W hU
                clear hU hF
                go_simp
                exact rfl
              simp only [Act.put, List.setIfInBounds_toArray, List.set_cons_zero, List.set_cons_succ]
              with_reducible apply wpV_light
              · simp only [lightOp]
              · intro W hU hF
                have f0 := CS.out W hU
                clear hU hF
                go_simp
                exact rfl
              simp only [Act.put, List.setIfInBounds_toArray, List.set_cons_zero, List.set_cons_succ]
              with_reducible apply wpV_light
              · simp only [lightOp]
              · intro W hU hF
                have f0 := CS.out W hU
                clear hU hF
                go_simp
                exact rfl
              simp only [Act.put, List.setIfInBounds_toArray, List.set_cons_zero, List.set_cons_succ]
              with_reducible apply wpV_light
              · simp only [lightOp]
              · intro W hU hF
                have f0 := CS.out W hU
                clear hU hF
                go_simp
                exact rfl
              simp only [Act.put, List.setIfInBounds_toArray, List.set_cons_zero, List.set_cons_succ]
              with_reducible apply wpV_light
              · simp only [lightOp]
              · intro W hU hF
                have f0 := CS.out W hU
                clear hU hF
                go_simp
                exact rfl
              simp only [Act.put, List.setIfInBounds_toArray, List.set_cons_zero, List.set_cons_succ]
              with_reducible apply wpV_light
              · simp only [lightOp]
              · intro W hU hF
                have f0 := CS.out W hU
                clear hU hF
                go_simp
                exact rfl
              simp only [Act.put, List.setIfInBounds_toArray, List.set_cons_zero, List.set_cons_succ]
              with_reducible apply wpV_light
              · simp only [lightOp]
              · intro W hU hF
                have f0 := CS.out W hU
                clear hU hF
                go_simp
                exact rfl
              simp only [Act.put, List.setIfInBounds_toArray, List.set_cons_zero, List.set_cons_succ]
              with_reducible apply wpV_light
              · simp only [lightOp]
              · intro W hU hF
                have f0 := CS.out W hU
                clear hU hF
                go_simp
                exact rfl
              simp only [Act.put, List.setIfInBounds_toArray, List.set_cons_zero, List.set_cons_succ]
              with_reducible apply wpV_light
              · simp only [lightOp]
              · intro W hU hF
                have f0 := CS.out W hU
                clear hU hF
                go_simp
                exact rfl
              simp only [Act.put, List.setIfInBounds_toArray, List.set_cons_zero, List.set_cons_succ]
              refine wpV_heavy (by simp only [lightOp]) (by rfl) (fun W hU hk hF K hK => ?_) ?_
              · go_wp2_with fail
                refine (bykey_ok y.1 y.2 x.1 x.2 W).mono ?_
                rintro e w5 ⟨rfl, u5⟩
                go_wp2_with fail
                exact hK.out _ _ (outV_new rfl rfl (by intro b hb; cases hb) u5)
              rintro _ rfl
              simp only [Act.put, List.setIfInBounds_toArray, List.set_cons_zero, List.set_cons_succ]
              with_reducible apply wpV_light
              · simp only [lightOp]
              · intro W hU hF
                have f0 := CS.out W hU
                clear hU hF
                go_simp
                exact rfl
              simp only [Act.put, List.setIfInBounds_toArray, List.set_cons_zero, List.set_cons_succ]
              with_reducible apply wpV_light
              · simp only [lightOp]
              · intro W hU hF
                have f0 := CS.out W hU
                clear hU hF
                go_simp
                exact rfl
              simp only [Act.put, List.setIfInBounds_toArray, List.set_cons_zero, List.set_cons_succ]
              refine wpV_end (fun W hU _ _ => ?_)
              have U2 : Hid (Upd [] wr W) := Lib.hid ((Upd.refl [] wr).drew.trans hU)
              clear hU CS
              refine wpT_end ?_
              have HB3 : Hid (Over_ y X (h - a)) := Lib.hid (fun c hc hl => by
                have k1 := kle_at KX.out (i := h - a) (j := c) (by omega) hl
                rw [HXH.out] at k1
                have := HC.out
                omega)
              have UJ := Lib.hid (UI.out.trans U2.out)
              go_wp2_with fail
              go_roundw
              case rel => exact ⟨i, h, rfl, by go_num, hi, by omega, by omega, HB1, HB3, UJ⟩
              case measure => simp [intOf]; omega
            · have dc : decide (cmpI y.1 x.1 < 0) = false := by rw [cmpI_lt]; simpa using hc
              have HC : Hid (x.1 ≤ y.1) := Lib.hid (by omega)
              clear hc
              have CS : Hid (∀ W, Upd [] wr.drew W → W.cell? ⟨g, m * 2, none⟩ = some (.int .i64 y.1) ∧ W.cell? ⟨g, m * 2 + 1, none⟩ = some (.int .i64 y.2) ∧ W.cell? ⟨g, h * 2, none⟩ = some (.int .i64 x.1) ∧ W.cell? ⟨g, h * 2 + 1, none⟩ = some (.int .i64 x.2)) := Lib.hid (fun W hW => by
                have ho := OW.out.upd0 ((Upd.refl [] wr).drew.trans hW)
                exact ⟨ho.at_ hI.out 0 _ rfl, ho.at_ hI.out 1 _ rfl, ho.at_ hJ.out 0 _ rfl, ho.at_ hJ.out 1 _ rfl⟩)
              go_wp2_with fail
              refine wp_invN [(9, .det (.int .i64 (cmpI y.1 x.1)))] [] (by kernel_rfl) (by kernel_rfl) (by kernel_rfl) ⟨lasts_det _, trivial⟩ ?_
              with_reducible apply wpV_light
              · simp only [lightOp]
              · intro W hU hF
                have f0 := CS.out W hU
                clear hU hF
                go_simp
                exact rfl
              simp only [Act.put, List.setIfInBounds_toArray, List.set_cons_zero, List.set_cons_succ]
              with_reducible apply wpV_light
              · simp only [lightOp]
              · intro W hU hF
                have f0 := CS.out W hU
                clear hU hF
                go_simp
                exact rfl
              simp only [Act.put, List.setIfInBounds_toArray, List.set_cons_zero, List.set_cons_succ]
              with_reducible apply wpV_light
              · simp only [lightOp]
              · intro W hU hF
                have f0 := CS.out W hU
                clear hU hF
                go_simp
                exact rfl
              simp only [Act.put, List.setIfInBounds_toArray, List.set_cons_zero, List.set_cons_succ]
              with_reducible apply wpV_light
              · simp only [lightOp]
              · intro W hU hF
                have f0 := CS.out W hU
                clear hU hF
                go_simp
                exact rfl
              simp only [Act.put, List.setIfInBounds_toArray, List.set_cons_zero, List.set_cons_succ]
              with_reducible apply wpV_light
              · simp only [lightOp]
              · intro W hU hF
                have f0 := CS.out W hU
                clear hU hF
                go_simp
                exact rfl
              simp only [Act.put, List.setIfInBounds_toArray, List.set_cons_zero, List.set_cons_succ]
              with_reducible apply wpV_light
              · simp only [lightOp]
              · intro W hU hF
                have f0 := CS.out W hU
                clear hU hF
                go_simp
                exact rfl
              simp only [Act.put, List.setIfInBounds_toArray, List.set_cons_zero, List.set_cons_succ]
              with_reducible apply wpV_light
              · simp only [lightOp]
              · intro W hU hF
                have f0 := CS.out W hU
                clear hU hF
                go_simp
                exact rfl
              simp only [Act.put, List.setIfInBounds_toArray, List.set_cons_zero, List.set_cons_succ]
              with_reducible apply wpV_light
              · simp only [lightOp]
              · intro W hU hF
                have f0 := CS.out W hU
                clear hU hF
                go_simp
                exact rfl
              simp only [Act.put, List.setIfInBounds_toArray, List.set_cons_zero, List.set_cons_succ]
              with_reducible apply wpV_light
              · simp only [lightOp]
              · intro W hU hF
                have f0 := CS.out W hU
                clear hU hF
                go_simp
                exact rfl
              simp only [Act.put, List.setIfInBounds_toArray, List.set_cons_zero, List.set_cons_succ]
              refine wpV_heavy (by simp only [lightOp]) (by rfl) (fun W hU hk hF K hK => ?_) ?_
              · go_wp2_with fail
                refine (bykey_ok y.1 y.2 x.1 x.2 W).mono ?_
                rintro e w5 ⟨rfl, u5⟩
                go_wp2_with fail
                exact hK.out _ _ (outV_new rfl rfl (by intro b hb; cases hb) u5)
              rintro _ rfl
              simp only [Act.put, List.setIfInBounds_toArray, List.set_cons_zero, List.set_cons_succ]
              with_reducible apply wpV_light
              · simp only [lightOp]
              · intro W hU hF
                have f0 := CS.out W hU
                clear hU hF
                go_simp
                exact rfl
              simp only [Act.put, List.setIfInBounds_toArray, List.set_cons_zero, List.set_cons_succ]
              with_reducible apply wpV_light
              · simp only [lightOp]
              · intro W hU hF
                have f0 := CS.out W hU
                clear hU hF
                go_simp
                exact rfl
              simp only [Act.put, List.setIfInBounds_toArray, List.set_cons_zero, List.set_cons_succ]
              refine wpV_end (fun W hU _ _ => ?_)
              have U2 : Hid (Upd [] wr W) := Lib.hid ((Upd.refl [] wr).drew.trans hU)
              clear hU CS
              refine wpT_end ?_
              have HB3 : Hid (Upto_ y X (h + 1 - a)) := Lib.hid (fun c hc => by
                have k1 := kle_at KX.out (i := c) (j := h - a) (by omega) (by have := HX.out; omega)
                rw [HXH.out] at k1
                have := HC.out
                omega)
              have UJ := Lib.hid (UI.out.trans U2.out)
              go_wp2_with fail
              go_roundw
              case rel => exact ⟨h + 1, j, by go_num, rfl, by omega, by omega, hjm, HB3, HB2, UJ⟩
              case measure => simp [intOf]; omega
          · obtain rfl : i = j := by omega
            have O0 : Hid (Ow encPr 39 wr B (.slice (some ⟨g, 0, none⟩) N cp) (P ++ ((X.take (m - a) ++ y :: X.drop (m - a)) ++ S))) := Lib.hid (by
              rw [List.take_of_length_le (by have := HX.out; omega), List.drop_of_length_le (by have := HX.out; omega)]
              have := HO.out.upd0 UI.out
              simpa only [List.append_assoc, List.cons_append, List.nil_append] using this)
            have U0 : Hid (Upd [g] w wr) := Lib.hid (UI.out.mono (by simp))
            clear UI
            go_wp2_with fail
            go_loopw [17] (fun v wk => ∃ (k : Nat), v = .int .i64 k ∧ i ≤ k ∧ k ≤ m ∧ Hid (Ow encPr 39 wk B (.slice (some ⟨g, 0, none⟩) N cp) (P ++ ((X.take (k - a) ++ y :: X.drop (k - a)) ++ S))) ∧ Hid (Upd [g] w wk)) (fun v _ => (intOf v).toNat)
            case atStart => exact ⟨m, rfl, hjm, Nat.le_refl _, O0, U0⟩
            case round =>
              obtain ⟨k1, rfl, hik, hk, OK, UK⟩ := hrel
              rename World => wk
              clear O0 U0
              by_cases hk1 : i < k1
              · have q1 : (i : Int) < (k1 : Int) := by omega
                obtain ⟨k, hk1d⟩ : ∃ k, k + 1 = k1 := ⟨k1 - 1, by omega⟩
                obtain ⟨x, hx⟩ : ∃ x, X[k - a]? = some x := ⟨_, List.getElem?_eq_getElem (by have := HX.out; omega)⟩
                obtain ⟨dx, tx⟩ := take_drop_at hx
                rw [show k - a + 1 = k1 - a by omega] at dx tx
                have HDX := Lib.hid dx
                have HP1 : Hid ((P ++ X.take (k - a)).length = k) := Lib.hid (by rw [List.length_append, HA.out, List.length_take]; have := HX.out; omega)
                have OW : Hid (Ow encPr 39 wk B (.slice (some ⟨g, 0, none⟩) N cp) ((P ++ X.take (k - a)) ++ x :: y :: (X.drop (k1 - a) ++ S))) := Lib.hid (by
                  have := OK.out
                  rw [tx] at this
                  simpa only [List.append_assoc, List.cons_append, List.nil_append] using this)
                have SP : Hid (swapL ((P ++ X.take (k - a)) ++ x :: y :: (X.drop (k1 - a) ++ S)) k1 k = (P ++ X.take (k - a)) ++ y :: x :: (X.drop (k1 - a) ++ S)) := Lib.hid (by
                  have := swapL_next (P ++ X.take (k - a)) (X.drop (k1 - a) ++ S) x y
                  rw [HP1.out, hk1d] at this
                  rw [swapL_comm]
                  exact this)
                generalize hrow : ((P ++ X.take (k - a)) ++ x :: y :: (X.drop (k1 - a) ++ S)) = row at OW SP
                have hxj : row[k]? = some x := by
                  have := get_mid (P ++ X.take (k - a)) (y :: (X.drop (k1 - a) ++ S)) x
                  rw [HP1.out] at this
                  rw [← hrow]
                  exact this
                have hxi : row[k1]? = some y := by
                  have := get_mid (P ++ X.take (k - a) ++ [x]) (X.drop (k1 - a) ++ S) y
                  rw [show (P ++ X.take (k - a) ++ [x]).length = k1 by rw [List.length_append, HP1.out]; exact hk1d] at this
                  rw [← hrow]
                  simpa only [List.append_assoc, List.cons_append, List.nil_append] using this
                have HN : Hid (row.length = N) := Lib.hid (by obtain ⟨A9, c9, e9, _⟩ := own_slice OW.out; injection e9 with _ e9; exact e9.symm)
                have t1 : (0 : Int) ≤ (k : Int) := by omega
                have t2 : (k : Int) < (N : Int) := by omega
                have t3 : (0 : Int) ≤ (k1 : Int) := by omega
                have t4 : (k1 : Int) < (N : Int) := by omega
                have t5 : (k1 : Int) - 1 = (k : Int) := by omega
                have t5w : IntKind.i64.wrap (k : Int) = (k : Int) := by rw [IntKind.wrap_i64]; omega
                have HK1 := Lib.hid hk1d
                have hki : i ≤ k := by omega
                have hkm : k ≤ m := by omega
                have hkk : k < k1 := by omega
                clear hx dx tx OK hrow hk1d
                go_wp2_with fail
                -- data[k1], data[k] = data[k], data[k1] in a drawn region: hxi, hxj : the elements; OW : the row
                have HXI : Hid (row.getD (k1) default = y) := Lib.hid (by rw [List.getD_eq_getElem?_getD, hxi]; rfl)
                have HXJ : Hid (row.getD (k) default = x) := Lib.hid (by rw [List.getD_eq_getElem?_getD, hxj]; rfl)
                have HJL : Hid ((k) < row.length) := Lib.hid (List.getElem?_eq_some_iff.1 hxj).1
                have O2n : Hid (wk.ownsRow B 39 2 (.slice (some ⟨g, 0, none⟩) N cp) N (flat encPr row)) := Lib.hid (by have := OW.out; unfold Ow at this; rw [HN.out] at this; exact this)
                have f1 : wk.cell? ⟨g, (k1) * 2, none⟩ = some (.int .i64 y.1) := OW.out.at_ hxi 0 _ rfl
                have f2 : wk.cell? ⟨g, (k1) * 2 + 1, none⟩ = some (.int .i64 y.2) := OW.out.at_ hxi 1 _ rfl
                have f3 : wk.cell? ⟨g, (k) * 2, none⟩ = some (.int .i64 x.1) := OW.out.at_ hxj 0 _ rfl
                have f4 : wk.cell? ⟨g, (k) * 2 + 1, none⟩ = some (.int .i64 x.2) := OW.out.at_ hxj 1 _ rfl
                have fz : ∀ k, wk.frozen? ⟨g, k, none⟩ = false := own_frozen O2n.out
                have fl : g < wk.heap.size := (own_lt O2n.out rfl).2
                have O3 : Hid (((wk.setCell ⟨g, (k1) * 2, none⟩ (.int .i64 x.1)).setCell ⟨g, (k1) * 2 + 1, none⟩ (.int .i64 x.2)).ownsRow B 39 2 (.slice (some ⟨g, 0, none⟩) N cp) N (flat encPr (row.set (k1) x))) := Lib.hid (by rw [flat_set2]; exact own_set (own_set O2n.out _ _) _ _)
                have O3' : Hid (Ow encPr 39 ((wk.setCell ⟨g, (k1) * 2, none⟩ (.int .i64 x.1)).setCell ⟨g, (k1) * 2 + 1, none⟩ (.int .i64 x.2)) B (.slice (some ⟨g, 0, none⟩) N cp) (row.set (k1) x)) := Lib.hid (by unfold Ow; rw [List.length_set, HN.out]; exact O3.out)
                obtain ⟨z, hz⟩ : ∃ z, (row.set (k1) x)[k]? = some z := ⟨_, List.getElem?_eq_getElem (by rw [List.length_set]; exact HJL.out)⟩
                have f5 : ((wk.setCell ⟨g, (k1) * 2, none⟩ (.int .i64 x.1)).setCell ⟨g, (k1) * 2 + 1, none⟩ (.int .i64 x.2)).cell? ⟨g, (k) * 2, none⟩ = some (.int .i64 z.1) := O3'.out.at_ hz 0 _ rfl
                have f6 : ((wk.setCell ⟨g, (k1) * 2, none⟩ (.int .i64 x.1)).setCell ⟨g, (k1) * 2 + 1, none⟩ (.int .i64 x.2)).cell? ⟨g, (k) * 2 + 1, none⟩ = some (.int .i64 z.2) := O3'.out.at_ hz 1 _ rfl
                have O4 : Hid ((((((wk.setCell ⟨g, (k1) * 2, none⟩ (.int .i64 x.1)).setCell ⟨g, (k1) * 2 + 1, none⟩ (.int .i64 x.2)).setCell ⟨g, (k) * 2, none⟩ (.int .i64 y.1)).setCell ⟨g, (k) * 2 + 1, none⟩ (.int .i64 y.2)).drew).ownsRow B 39 2 (.slice (some ⟨g, 0, none⟩) N cp) N (flat encPr ((row.set (k1) x).set (k) y))) := Lib.hid (own_upd0 (by rw [flat_set2]; exact own_set (own_set O3.out _ _) _ _) ((Upd.refl [] _).drew))
                have U4 : Hid (Upd [g] wk (((((wk.setCell ⟨g, (k1) * 2, none⟩ (.int .i64 x.1)).setCell ⟨g, (k1) * 2 + 1, none⟩ (.int .i64 x.2)).setCell ⟨g, (k) * 2, none⟩ (.int .i64 y.1)).setCell ⟨g, (k) * 2 + 1, none⟩ (.int .i64 y.2)).drew)) := Lib.hid ((((((Upd.refl [g] wk).setCell (.inl (by simp)) _).setCell (.inl (by simp)) _).setCell (.inl (by simp)) _).setCell (.inl (by simp)) _).drew)
                clear hxi hxj hz O3'
                go_region
                clear f1 f2 f3 f4 f5 f6 fz fl O2n O3
                generalize (((((wk.setCell ⟨g, (k1) * 2, none⟩ (.int .i64 x.1)).setCell ⟨g, (k1) * 2 + 1, none⟩ (.int .i64 x.2)).setCell ⟨g, (k) * 2, none⟩ (.int .i64 y.1)).setCell ⟨g, (k) * 2 + 1, none⟩ (.int .i64 y.2)).drew) = W4 at *
                have O5 : Hid (Ow encPr 39 W4 B (.slice (some ⟨g, 0, none⟩) N cp) (swapL row (k1) (k))) := Lib.hid (by
                  unfold swapL
                  rw [HXI.out, HXJ.out]
                  unfold Ow
                  rw [List.length_set, List.length_set, HN.out]
                  exact O4.out)
                clear O4 HXI HXJ HJL
                have O6 : Hid (Ow encPr 39 W4 B (.slice (some ⟨g, 0, none⟩) N cp) (P ++ ((X.take (k - a) ++ y :: X.drop (k - a)) ++ S))) := Lib.hid (by
                  have := O5.out
                  rw [SP.out] at this
                  rw [HDX.out]
                  simpa only [List.append_assoc, List.cons_append, List.nil_append] using this)
                have U6 : Hid (Upd [g] w W4) := Lib.hid (UK.out.trans U4.out)
                clear O5 U4 OW
                go_wp2_with fail
                go_roundw
                case rel => exact ⟨k, by go_num, hki, hkm, O6, U6⟩
                case measure => simp [intOf]; omega
              · obtain rfl : k1 = i := by omega
                go_wp2_with fail
                go_end0
                exact ⟨rfl, _, one_in' KX.out HB1.out HB2.out, OK.out, UK.out⟩
      · have d10 : ((bm : Int) == 1) = false := by simp; omega
        clear hma hbm
        have HBM := Lib.hid (show b - m = bm by omega)
        obtain ⟨mid, hmid⟩ : ∃ mid : Nat, ((a : Int) + (b : Int)) / 2 = (mid : Int) := ⟨((a + b) / 2 : Nat), by omega⟩
        have m1 : mid + mid ≤ a + b := by omega
        have m2 : a + b ≤ mid + mid + 1 := by omega
        obtain ⟨n, hnn⟩ : ∃ n, mid + m = n := ⟨_, rfl⟩
        have n0 : (mid : Int) + (m : Int) = (n : Int) := by omega
        have n0w : IntKind.i64.wrap (n : Int) = (n : Int) := by rw [IntKind.wrap_i64]; omega
        obtain ⟨p, hp⟩ : ∃ p, p + 1 = n := ⟨n - 1, by omega⟩
        have p0 : (n : Int) - 1 = (p : Int) := by omega
        have p0w : IntKind.i64.wrap (p : Int) = (p : Int) := by rw [IntKind.wrap_i64]; omega
        have HMID := Lib.hid hmid
        have HNN := Lib.hid hnn
        have HP := Lib.hid hp
        have hn2 : n ≤ 2000 := by omega
        have hp2 : p ≤ 2000 := by omega
        have hmb : mid ≤ N := by omega
        clear hnn hp
        go_upto_if 140 with fail
        go_cut [20, 21] from 138 to 146 (fun v u wx => ∃ s0 r0 : Nat, v = .int .i64 s0 ∧ u = .int .i64 r0 ∧ Hid (s0 ≤ r0 ∧ a ≤ s0 ∧ r0 ≤ m ∧ (∀ c, s0 ≤ c → c < r0 → m ≤ n - 1 - c ∧ n - 1 - c < b ∧ c ≤ n - 1) ∧ ((s0 = n - b ∧ r0 = mid ∧ mid < m ∧ a + b ≤ n) ∨ (s0 = a ∧ r0 = m ∧ m ≤ mid ∧ mid + mid ≤ a + b))) ∧ w = wx)
        case first =>
          by_cases hmm : mid < m
          · have dm : decide ((mid : Int) < (m : Int)) = true := by simp; omega
            obtain ⟨s0, hs0⟩ : ∃ s0, n - b = s0 := ⟨_, rfl⟩
            have HS0 := Lib.hid hs0
            have s00 : (n : Int) - (b : Int) = (s0 : Int) := by have := HNN.out; omega
            have s00w : IntKind.i64.wrap (s0 : Int) = (s0 : Int) := by rw [IntKind.wrap_i64]; omega
            have HALL : Hid (s0 ≤ mid ∧ a ≤ s0 ∧ mid ≤ m ∧ (∀ c, s0 ≤ c → c < mid → m ≤ n - 1 - c ∧ n - 1 - c < b ∧ c ≤ n - 1) ∧ ((s0 = n - b ∧ mid = mid ∧ mid < m ∧ a + b ≤ n) ∨ (s0 = a ∧ mid = m ∧ m ≤ mid ∧ mid + mid ≤ a + b))) := Lib.hid ⟨by have := HNN.out; omega, by have := HNN.out; omega, by omega, fun c hc1 hc2 => (by have := HNN.out; have := HS0.out; omega), .inl ⟨HS0.out.symm, rfl, hmm, by have := HNN.out; omega⟩⟩
            clear hs0
            go_wp2_with fail
            go_meet
            exact ⟨s0, mid, by go_num, rfl, Lib.hid (by simpa using HALL.out), rfl⟩
          · have dm : decide ((mid : Int) < (m : Int)) = false := by simp; omega
            have HALL : Hid (a ≤ m ∧ a ≤ a ∧ m ≤ m ∧ (∀ c, a ≤ c → c < m → m ≤ n - 1 - c ∧ n - 1 - c < b ∧ c ≤ n - 1) ∧ ((a = n - b ∧ m = mid ∧ mid < m ∧ a + b ≤ n) ∨ (a = a ∧ m = m ∧ m ≤ mid ∧ mid + mid ≤ a + b))) := Lib.hid ⟨by omega, Nat.le_refl _, Nat.le_refl _, fun c hc1 hc2 => (by have := HNN.out; omega), .inr ⟨rfl, rfl, by omega, m1⟩⟩
            go_wp2_with fail
            go_meet
            exact ⟨a, m, rfl, rfl, Lib.hid (by simpa using HALL.out), rfl⟩
        case rest =>
          obtain ⟨s0, r0, rfl, rfl, HALL, rfl⟩ := hcut
          have hsr0 : s0 ≤ r0 := HALL.out.1
          have hr0N : r0 ≤ N := by have := HALL.out.2.2.1; omega
          have hmr0 : r0 ≤ m := HALL.out.2.2.1
          have hm1b : a ≤ s0 := HALL.out.2.1
          have HMB : Hid (a < mid ∧ mid < b) := Lib.hid ⟨by omega, by omega⟩
          clear hmid m1 m2
          go_wp2_with fail
          -- s0, r0: where the search begins
          go_loopw [20, 21, 23] (fun v u t wr => ∃ (i j : Nat), v = .int .i64 i ∧ u = .int .i64 j ∧ s0 ≤ i ∧ i ≤ j ∧ j ≤ r0 ∧ Hid (Cut X Y a m (n - 1) s0 r0 i j) ∧ Hid (Upd [] w wr)) (fun v u _ _ => (intOf u).toNat - (intOf v).toNat)
          case atStart => exact ⟨s0, r0, rfl, rfl, Nat.le_refl _, hsr0, Nat.le_refl _, Lib.hid (Cut.start X Y a m (n - 1) s0 r0), Lib.hid (.refl _ _)⟩
          case round =>
            obtain ⟨i, j, rfl, rfl, hsi, hij, hjr, HC, UI⟩ := hrel
            rename World => wr
            by_cases hlt : i < j
            · have q1 : (i : Int) < (j : Int) := by omega
              obtain ⟨c, hh⟩ : ∃ c : Nat, ((i : Int) + (j : Int)) / 2 = (c : Int) := ⟨((i + j) / 2 : Nat), by omega⟩
              have r1 : i ≤ c := by omega
              have r2 : c < j := by omega
              have r3 := HALL.out.2.2.2.1 c (by omega) (by omega)
              obtain ⟨pc, hpc⟩ : ∃ pc, p - c = pc := ⟨_, rfl⟩
              have hn1 : n - 1 = p := by have := HP.out; omega
              rw [hn1, hpc] at r3
              obtain ⟨x, hx⟩ : ∃ x, X.getD (c - a) default = x := ⟨_, rfl⟩
              obtain ⟨y, hy⟩ : ∃ y, Y.getD (pc - m) default = y := ⟨_, rfl⟩
              have HXH := Lib.hid hx
              have HYH := Lib.hid hy
              have HPC := Lib.hid (show n - 1 - c = pc by omega)
              have OW := Lib.hid (HO.out.upd0 UI.out)
              have hca : a ≤ c ∧ c < m := ⟨by omega, by omega⟩
              have hI : Hid ((P ++ (X ++ (Y ++ S)))[pc]? = some y) := Lib.hid (by rw [← hy]; exact row_y HA.out HX.out r3.1 (by have := HY.out; omega))
              have hJ : Hid ((P ++ (X ++ (Y ++ S)))[c]? = some x) := Lib.hid (by rw [← hx]; exact row_x HA.out hca.1 (by have := HX.out; omega))
              have t1 : (0 : Int) ≤ (c : Int) := by omega
              have t2 : (c : Int) < (N : Int) := by omega
              have t3 : (0 : Int) ≤ (pc : Int) := by omega
              have t4 : (pc : Int) < (N : Int) := by omega
              have t5 : (p : Int) - (c : Int) = (pc : Int) := by omega
              have t5w : IntKind.i64.wrap (pc : Int) = (pc : Int) := by rw [IntKind.wrap_i64]; omega
              clear hx hy hpc hn1
              by_cases hc : y.1 < x.1
              · have dc : decide (cmpI y.1 x.1 < 0) = true := by rw [cmpI_lt]; simpa using hc
                have HC3 : Hid (Cut X Y a m (n - 1) s0 r0 i c) := Lib.hid (HC.out.right KX.out KY.out (b := b) (by have := HX.out; omega) (by have := HY.out; omega) hm1b hmr0 HALL.out.2.2.2.1 r1 r2 hjr hsi (by rw [HPC.out, HXH.out, HYH.out]; exact hc))
                clear hc
                have CS : Hid (∀ W, Upd [] wr.drew W → W.cell? ⟨g, pc * 2, none⟩ = some (.int .i64 y.1) ∧ W.cell? ⟨g, pc * 2 + 1, none⟩ = some (.int .i64 y.2) ∧ W.cell? ⟨g, c * 2, none⟩ = some (.int .i64 x.1) ∧ W.cell? ⟨g, c * 2 + 1, none⟩ = some (.int .i64 x.2)) := Lib.hid (fun W hW => by
                  have ho := OW.out.upd0 ((Upd.refl [] wr).drew.trans hW)
                  exact ⟨ho.at_ hI.out 0 _ rfl, ho.at_ hI.out 1 _ rfl, ho.at_ hJ.out 0 _ rfl, ho.at_ hJ.out 1 _ rfl⟩)
                go_wp2_with fail
                refine wp_invN [(11, .det (.int .i64 (cmpI y.1 x.1)))] [] (by kernel_rfl) (by kernel_rfl) (by kernel_rfl) ⟨lasts_det _, trivial⟩ ?_
                with_reducible apply wpV_light
                · simp only [lightOp]
                · intro W hU hF
                  have f0 := CS.out W hU
                  clear hU hF
                  go_simp
                  exact rfl
                simp only [Act.put, List.setIfInBounds_toArray, List.set_cons_zero, List.set_cons_succ]
                with_reducible apply wpV_light
                · simp only [lightOp]
                · intro W hU hF
                  have f0 := CS.out W hU
                  clear hU hF
                  go_simp
                  exact rfl
                simp only [Act.put, List.setIfInBounds_toArray, List.set_cons_zero, List.set_cons_succ]
                with_reducible apply wpV_light
                · simp only [lightOp]
                · intro W hU hF
                  have f0 := CS.out W hU
                  clear hU hF
                  go_simp
                  exact rfl
                simp only [Act.put, List.setIfInBounds_toArray, List.set_cons_zero, List.set_cons_succ]
                with_reducible apply wpV_light
                · simp only [lightOp]
                · intro W hU hF
                  have f0 := CS.out W hU
                  clear hU hF
                  go_simp
                  exact rfl
                simp only [Act.put, List.setIfInBounds_toArray, List.set_cons_zero, List.set_cons_succ]
                with_reducible apply wpV_light
                · simp only [lightOp]
                · intro W hU hF
                  have f0 := CS.out W hU
                  clear hU hF
                  go_simp
                  exact rfl
                simp only [Act.put, List.setIfInBounds_toArray, List.set_cons_zero, List.set_cons_succ]
                with_reducible apply wpV_light
                · simp only [lightOp]
                · intro W hU hF
                  have f0 := CS.out W hU
                  clear hU hF
                  go_simp
                  exact rfl
                simp only [Act.put, List.setIfInBounds_toArray, List.set_cons_zero, List.set_cons_succ]
                with_reducible apply wpV_light
                · simp only [lightOp]
                · intro W hU hF
                  have f0 := CS.out W hU
                  clear hU hF
                  go_simp
                  exact rfl
                simp only [Act.put, List.setIfInBounds_toArray, List.set_cons_zero, List.set_cons_succ]
                with_reducible apply wpV_light
                · simp only [lightOp]
                · intro W hU hF
                  have f0 := CS.out W hU
                  clear hU hF
                  go_simp
                  exact rfl
                simp only [Act.put, List.setIfInBounds_toArray, List.set_cons_zero, List.set_cons_succ]
                with_reducible apply wpV_light
                · simp only [lightOp]
                · intro W hU hF
                  have f0 := CS.out W hU
                  clear hU hF
                  go_simp
                  exact rfl
                simp only [Act.put, List.setIfInBounds_toArray, List.set_cons_zero, List.set_cons_succ]
                with_reducible apply wpV_light
                · simp only [lightOp]
                · intro W hU hF
                  have f0 := CS.out W hU
                  clear hU hF
                  go_simp
                  exact rfl
                simp only [Act.put, List.setIfInBounds_toArray, List.set_cons_zero, List.set_cons_succ]
                with_reducible apply wpV_light
                · simp only [lightOp]
                · intro W hU hF
                  have f0 := CS.out W hU
                  clear hU hF
                  go_simp
                  exact rfl
                simp only [Act.put, List.setIfInBounds_toArray, List.set_cons_zero, List.set_cons_succ]
                refine wpV_heavy (by simp only [lightOp]) (by rfl) (fun W hU hk hF K hK => ?_) ?_
                · go_wp2_with fail
                  refine (bykey_ok y.1 y.2 x.1 x.2 W).mono ?_
                  rintro e w5 ⟨rfl, u5⟩
                  go_wp2_with fail
                  exact hK.out _ _ (outV_new rfl rfl (by intro b hb; cases hb) u5)
                rintro _ rfl
                simp only [Act.put, List.setIfInBounds_toArray, List.set_cons_zero, List.set_cons_succ]
                with_reducible apply wpV_light
                · simp only [lightOp]
                · intro W hU hF
                  have f0 := CS.out W hU
                  clear hU hF
                  go_simp
                  exact rfl
                simp only [Act.put, List.setIfInBounds_toArray, List.set_cons_zero, List.set_cons_succ]
                with_reducible apply wpV_light
                · simp only [lightOp]
                · intro W hU hF
                  have f0 := CS.out W hU
                  clear hU hF
                  go_simp
                  exact rfl
                simp only [Act.put, List.setIfInBounds_toArray, List.set_cons_zero, List.set_cons_succ]
                refine wpV_end (fun W hU _ _ => ?_)
                have U2 : Hid (Upd [] wr W) := Lib.hid ((Upd.refl [] wr).drew.trans hU)
                clear hU CS
                refine wpT_end ?_
                have UJ := Lib.hid (UI.out.trans U2.out)
                go_wp2_with fail
                go_roundw
                case rel => exact ⟨i, c, rfl, by go_num, hsi, r1, by omega, HC3, UJ⟩
                case measure => simp [intOf]; omega
              · have dc : decide (cmpI y.1 x.1 < 0) = false := by rw [cmpI_lt]; simpa using hc
                have HC3 : Hid (Cut X Y a m (n - 1) s0 r0 (c + 1) j) := Lib.hid (HC.out.left KX.out KY.out (b := b) (by have := HX.out; omega) (by have := HY.out; omega) hm1b hmr0 HALL.out.2.2.2.1 r1 r2 hjr hsi (by rw [HPC.out, HXH.out, HYH.out]; omega))
                clear hc
                have CS : Hid (∀ W, Upd [] wr.drew W → W.cell? ⟨g, pc * 2, none⟩ = some (.int .i64 y.1) ∧ W.cell? ⟨g, pc * 2 + 1, none⟩ = some (.int .i64 y.2) ∧ W.cell? ⟨g, c * 2, none⟩ = some (.int .i64 x.1) ∧ W.cell? ⟨g, c * 2 + 1, none⟩ = some (.int .i64 x.2)) := Lib.hid (fun W hW => by
                  have ho := OW.out.upd0 ((Upd.refl [] wr).drew.trans hW)
                  exact ⟨ho.at_ hI.out 0 _ rfl, ho.at_ hI.out 1 _ rfl, ho.at_ hJ.out 0 _ rfl, ho.at_ hJ.out 1 _ rfl⟩)
                go_wp2_with fail
                refine wp_invN [(11, .det (.int .i64 (cmpI y.1 x.1)))] [] (by kernel_rfl) (by kernel_rfl) (by kernel_rfl) ⟨lasts_det _, trivial⟩ ?_
                with_reducible apply wpV_light
                · simp only [lightOp]
                · intro W hU hF
                  have f0 := CS.out W hU
                  clear hU hF
                  go_simp
                  exact rfl
                simp only [Act.put, List.setIfInBounds_toArray, List.set_cons_zero, List.set_cons_succ]
                with_reducible apply wpV_light
                · simp only [lightOp]
                · intro W hU hF
                  have f0 := CS.out W hU
                  clear hU hF
                  go_simp
                  exact rfl
                simp only [Act.put, List.setIfInBounds_toArray, List.set_cons_zero, List.set_cons_succ]
                with_reducible apply wpV_light
                · simp only [lightOp]
                · intro W hU hF
                  have f0 := CS.out W hU
                  clear hU hF
                  go_simp
                  exact rfl
                simp only [Act.put, List.setIfInBounds_toArray, List.set_cons_zero, List.set_cons_succ]
                with_reducible apply wpV_light
                · simp only [lightOp]
                · intro W hU hF
                  have f0 := CS.out W hU
                  clear hU hF
                  go_simp
                  exact rfl
                simp only [Act.put, List.setIfInBounds_toArray, List.set_cons_zero, List.set_cons_succ]
                with_reducible apply wpV_light
                · simp only [lightOp]
                · intro W hU hF
                  have f0 := CS.out W hU
                  clear hU hF
                  go_simp
                  exact rfl
                simp only [Act.put, List.setIfInBounds_toArray, List.set_cons_zero, List.set_cons_succ]
                with_reducible apply wpV_light
                · simp only [lightOp]
                · intro W hU hF
                  have f0 := CS.out W hU
                  clear hU hF
                  go_simp
                  exact rfl
                simp only [Act.put, List.setIfInBounds_toArray, List.set_cons_zero, List.set_cons_succ]
                with_reducible apply wpV_light
                · simp only [lightOp]
                · intro W hU hF
                  have f0 := CS.out W hU
                  clear hU hF
                  go_simp
                  exact rfl
                simp only [Act.put, List.setIfInBounds_toArray, List.set_cons_zero, List.set_cons_succ]
                with_reducible apply wpV_light
                · simp only [lightOp]
                · intro W hU hF
                  have f0 := CS.out W hU
                  clear hU hF
                  go_simp
                  exact rfl
                simp only [Act.put, List.setIfInBounds_toArray, List.set_cons_zero, List.set_cons_succ]
                with_reducible apply wpV_light
                · simp only [lightOp]
                · intro W hU hF
                  have f0 := CS.out W hU
                  clear hU hF
                  go_simp
                  exact rfl
                simp only [Act.put, List.setIfInBounds_toArray, List.set_cons_zero, List.set_cons_succ]
                with_reducible apply wpV_light
                · simp only [lightOp]
                · intro W hU hF
                  have f0 := CS.out W hU
                  clear hU hF
                  go_simp
                  exact rfl
                simp only [Act.put, List.setIfInBounds_toArray, List.set_cons_zero, List.set_cons_succ]
                with_reducible apply wpV_light
                · simp only [lightOp]
                · intro W hU hF
                  have f0 := CS.out W hU
                  clear hU hF
                  go_simp
                  exact rfl
                simp only [Act.put, List.setIfInBounds_toArray, List.set_cons_zero, List.set_cons_succ]
                refine wpV_heavy (by simp only [lightOp]) (by rfl) (fun W hU hk hF K hK => ?_) ?_
                · go_wp2_with fail
                  refine (bykey_ok y.1 y.2 x.1 x.2 W).mono ?_
                  rintro e w5 ⟨rfl, u5⟩
                  go_wp2_with fail
                  exact hK.out _ _ (outV_new rfl rfl (by intro b hb; cases hb) u5)
                rintro _ rfl
                simp only [Act.put, List.setIfInBounds_toArray, List.set_cons_zero, List.set_cons_succ]
                with_reducible apply wpV_light
                · simp only [lightOp]
                · intro W hU hF
                  have f0 := CS.out W hU
                  clear hU hF
                  go_simp
                  exact rfl
                simp only [Act.put, List.setIfInBounds_toArray, List.set_cons_zero, List.set_cons_succ]
                with_reducible apply wpV_light
                · simp only [lightOp]
                · intro W hU hF
                  have f0 := CS.out W hU
                  clear hU hF
                  go_simp
                  exact rfl
                simp only [Act.put, List.setIfInBounds_toArray, List.set_cons_zero, List.set_cons_succ]
                refine wpV_end (fun W hU _ _ => ?_)
                have U2 : Hid (Upd [] wr W) := Lib.hid ((Upd.refl [] wr).drew.trans hU)
                clear hU CS
                refine wpT_end ?_
                have UJ := Lib.hid (UI.out.trans U2.out)
                go_wp2_with fail
                go_roundw
                case rel => exact ⟨c + 1, j, by go_num, rfl, by omega, by omega, hjr, HC3, UJ⟩
                case measure => simp [intOf]; omega
            · obtain rfl : i = j := by omega
              have CUTS := Lib.hid (HC.out.cuts (b := b) (mid := mid) KX.out KY.out (by have := HX.out; omega) (by have := HY.out; omega) HNN.out.symm h1 h2 hsi hjr HALL.out.2.2.2.2)
              clear HC
              obtain ⟨en, hen⟩ : ∃ en, n - i = en := ⟨_, rfl⟩
              have e0 : (n : Int) - (i : Int) = (en : Int) := by have := HNN.out; omega
              have e0w : IntKind.i64.wrap (en : Int) = (en : Int) := by rw [IntKind.wrap_i64]; omega
              have HE : Hid (a ≤ i ∧ i ≤ m ∧ m ≤ en ∧ en ≤ b ∧ i + en = n) := Lib.hid (by
                have h3 := HALL.out.2.2.2.2
                have h4 := HNN.out
                rcases h3 with ⟨u1, u2, u3, u4⟩ | ⟨u1, u2, u3, u4⟩ <;> omega)
              rw [hen] at CUTS
              obtain ⟨X1, X2, Y1, Y2, g1, g2, g3, g4, g5, g6, g7, g8⟩ := cut_split HX.out HY.out HE.out.1 HE.out.2.1 HE.out.2.2.1 HE.out.2.2.2.1 CUTS.out.1 CUTS.out.2
              have G1 := Lib.hid g1
              have G2 := Lib.hid g2
              have GL : Hid (a + X1.length = i ∧ i + X2.length = m ∧ m + Y1.length = en ∧ en + Y2.length = b ∧ mid + m = n ∧ i + en = n) := Lib.hid ⟨g3, g4, g5, g6, HNN.out, HE.out.2.2.2.2⟩
              have G7 := Lib.hid g7
              have G8 := Lib.hid g8
              have OA : Hid (Ow encPr 39 wr B (.slice (some ⟨g, 0, none⟩) N cp) ((P ++ X1) ++ (X2 ++ (Y1 ++ (Y2 ++ S))))) := Lib.hid (by
                have := HO.out.upd0 UI.out
                rw [← g1, ← g2] at this
                simpa only [List.append_assoc] using this)
              have KX1 : Hid (Kle X1 ∧ Kle X2) := Lib.hid (by have := KX.out; rw [← g1] at this; exact ⟨(kle_append.1 this).1, (kle_append.1 this).2.1⟩)
              have KY1 : Hid (Kle Y1 ∧ Kle Y2) := Lib.hid (by have := KY.out; rw [← g2] at this; exact ⟨(kle_append.1 this).1, (kle_append.1 this).2.1⟩)
              have UA : Hid (Upd [g] w wr) := Lib.hid (UI.out.mono (by simp))
              have HF := Lib.hid hf
              clear g1 g2 g3 g4 g5 g6 g7 g8 hen CUTS hf
              go_upto_region 39 with fail
              go_cut [185] from 178 to 185 (fun t wx => t = .bool (decide (i < m ∧ m < en)) ∧ wr = wx)
              case first =>
                by_cases c1 : i < m
                · have dc1 : decide ((i : Int) < (m : Int)) = true := by simp; omega
                  by_cases c2 : m < en
                  · have dc2 : decide ((m : Int) < (en : Int)) = true := by simp; omega
                    have D : Hid (decide (i < m ∧ m < en) = true) := Lib.hid (decide_eq_true ⟨c1, c2⟩)
                    go_wp2_with fail
                    go_meet
                    exact ⟨by rw [D.out], rfl⟩
                  · have dc2 : decide ((m : Int) < (en : Int)) = false := by simp; omega
                    have D : Hid (decide (i < m ∧ m < en) = false) := Lib.hid (decide_eq_false (fun h => c2 h.2))
                    go_wp2_with fail
                    go_meet
                    exact ⟨by rw [D.out], rfl⟩
                · have dc1 : decide ((i : Int) < (m : Int)) = false := by simp; omega
                  have D : Hid (decide (i < m ∧ m < en) = false) := Lib.hid (decide_eq_false (fun h => c1 h.1))
                  go_wp2_with fail
                  go_meet
                  exact ⟨by rw [D.out], rfl⟩
              case rest =>
              obtain ⟨rfl, rfl⟩ := hcut
              obtain ⟨T, hT⟩ : ∃ T, decide (i < m ∧ m < en) = T := ⟨_, rfl⟩
              rw [hT]
              have HTT := Lib.hid hT
              clear hT
              go_upto_if 185 with fail
              go_cut [] from 186 to 191 (fun wx => Hid (Ow encPr 39 wx B (.slice (some ⟨g, 0, none⟩) N cp) (P ++ (X1 ++ (Y1 ++ (X2 ++ (Y2 ++ S)))))) ∧ Hid (Upd [g] w wx))
              case first =>
                cases T with
                | true =>
                  obtain ⟨c1, c2⟩ : i < m ∧ m < en := of_decide_eq_true HTT.out
                  go_wp2_with fail
                  refine (rot_ok B g N cp (P ++ X1) X2 Y1 (Y2 ++ S) i m en wr OA.out (row_len OA.out) (by rw [List.length_append, HA.out]; exact GL.out.1) GL.out.2.1 GL.out.2.2.1 c1 c2 hN).mono ?_
                  rintro e w1 ⟨rfl, o1, u1⟩
                  have OB : Hid (Ow encPr 39 w1 B (.slice (some ⟨g, 0, none⟩) N cp) (P ++ (X1 ++ (Y1 ++ (X2 ++ (Y2 ++ S)))))) := Lib.hid (by simpa only [List.append_assoc] using o1)
                  have UB := Lib.hid (UA.out.trans u1)
                  clear o1 u1
                  go_wp2_with fail
                  go_meet
                  exact ⟨OB, UB⟩
                | false =>
                  have OB : Hid (Ow encPr 39 wr B (.slice (some ⟨g, 0, none⟩) N cp) (P ++ (X1 ++ (Y1 ++ (X2 ++ (Y2 ++ S)))))) := Lib.hid (by
                    have c := of_decide_eq_false HTT.out
                    have gl := GL.out
                    have := OA.out
                    by_cases c1 : i < m
                    · have e : Y1 = [] := len0 (by have : ¬ m < en := fun h => c ⟨c1, h⟩; omega)
                      rw [e] at this ⊢
                      simpa only [List.append_assoc, List.nil_append] using this
                    · have e : X2 = [] := len0 (by omega)
                      rw [e] at this ⊢
                      simpa only [List.append_assoc, List.nil_append] using this)
                  go_wp2_with fail
                  go_meet
                  exact ⟨OB, UA⟩
              case rest =>
                obtain ⟨OB, UB⟩ := hcut
                rename World => wb
                clear OA UA
                go_upto_region 41 with fail
                go_cut [199] from 192 to 199 (fun t wx => t = .bool (decide (a < i ∧ i < mid)) ∧ wb = wx)
                case first =>
                  by_cases c1 : a < i
                  · have dc1 : decide ((a : Int) < (i : Int)) = true := by simp; omega
                    by_cases c2 : i < mid
                    · have dc2 : decide ((i : Int) < (mid : Int)) = true := by simp; omega
                      have D : Hid (decide (a < i ∧ i < mid) = true) := Lib.hid (decide_eq_true ⟨c1, c2⟩)
                      go_wp2_with fail
                      go_meet
                      exact ⟨by rw [D.out], rfl⟩
                    · have dc2 : decide ((i : Int) < (mid : Int)) = false := by simp; omega
                      have D : Hid (decide (a < i ∧ i < mid) = false) := Lib.hid (decide_eq_false (fun h => c2 h.2))
                      go_wp2_with fail
                      go_meet
                      exact ⟨by rw [D.out], rfl⟩
                  · have dc1 : decide ((a : Int) < (i : Int)) = false := by simp; omega
                    have D : Hid (decide (a < i ∧ i < mid) = false) := Lib.hid (decide_eq_false (fun h => c1 h.1))
                    go_wp2_with fail
                    go_meet
                    exact ⟨by rw [D.out], rfl⟩
                case rest =>
                obtain ⟨rfl, rfl⟩ := hcut
                obtain ⟨T', hT⟩ : ∃ T, decide (a < i ∧ i < mid) = T := ⟨_, rfl⟩
                rw [hT]
                have HTU := Lib.hid hT
                clear hT
                go_upto_if 199 with fail
                go_cut [] from 200 to 205 (fun wx => ∃ Z1, Hid (SortOf (X1 ++ Y1) Z1) ∧ Hid (Ow encPr 39 wx B (.slice (some ⟨g, 0, none⟩) N cp) (P ++ (Z1 ++ (X2 ++ (Y2 ++ S))))) ∧ Hid (Upd [g] w wx))
                case first =>
                  cases T' with
                  | true =>
                    obtain ⟨c3, c4⟩ : a < i ∧ i < mid := of_decide_eq_true HTU.out
                    go_wp2_with fail
                    refine (IH.out P X1 Y1 (X2 ++ (Y2 ++ S)) a i mid wb (by have := HF.out; have := HMB.out; omega) OB.out (row_len OB.out) HA.out GL.out.1 (by have := GL.out; omega) c3 c4 KX1.out.1 KY1.out.1).mono ?_
                    rintro e w2 ⟨rfl, Z1, z1, o2, u2⟩
                    have HZ1 := Lib.hid z1
                    have OC := Lib.hid o2
                    have UC := Lib.hid (UB.out.trans u2)
                    clear z1 o2 u2
                    go_wp2_with fail
                    go_meet
                    exact ⟨Z1, HZ1, OC, UC⟩
                  | false =>
                    have HZ1 : Hid (SortOf (X1 ++ Y1) (X1 ++ Y1)) := Lib.hid (sort_one KX1.out.1 KY1.out.1 (by
                      have c := of_decide_eq_false HTU.out
                      have gl := GL.out
                      by_cases c1 : a < i
                      · exact .inr (len0 (by have : ¬ i < mid := fun h => c ⟨c1, h⟩; omega))
                      · exact .inl (len0 (by omega))))
                    have OC : Hid (Ow encPr 39 wb B (.slice (some ⟨g, 0, none⟩) N cp) (P ++ ((X1 ++ Y1) ++ (X2 ++ (Y2 ++ S))))) := Lib.hid (by rw [List.append_assoc]; exact OB.out)
                    go_wp2_with fail
                    go_meet
                    exact ⟨_, HZ1, OC, UB⟩
                case rest =>
                  obtain ⟨Z1, HZ1, OC, UC⟩ := hcut
                  rename World => wd
                  clear OB UB
                  have HZL : Hid ((P ++ Z1).length = mid) := Lib.hid (by rw [List.length_append, HA.out, HZ1.out.2.length_eq, List.length_append]; have := GL.out; omega)
                  by_cases c5 : mid < en
                  · have dc5 : decide ((mid : Int) < (en : Int)) = true := by simp; omega
                    by_cases c6 : en < b
                    · have dc6 : decide ((en : Int) < (b : Int)) = true := by simp; omega
                      have OD : Hid (Ow encPr 39 wd B (.slice (some ⟨g, 0, none⟩) N cp) ((P ++ Z1) ++ (X2 ++ (Y2 ++ S)))) := Lib.hid (by rw [List.append_assoc]; exact OC.out)
                      go_wp2_with fail
                      refine (IH.out (P ++ Z1) X2 Y2 S mid en b wd (by have := HF.out; have := HMB.out; omega) OD.out (row_len OD.out) HZL.out (by have := GL.out; omega) (by have := GL.out; omega) c5 c6 KX1.out.2 KY1.out.2).mono ?_
                      rintro e w3 ⟨rfl, Z2, z2, o3, u3⟩
                      have HZ2 := Lib.hid z2
                      have OE := Lib.hid o3
                      have UE := Lib.hid (UC.out.trans u3)
                      clear z2 o3 u3
                      go_wp2_with fail
                      go_end0
                      refine ⟨rfl, Z1 ++ Z2, ?_, by have := OE.out; simpa only [List.append_assoc] using this, UE.out⟩
                      have := kle_halves HZ1.out.1 HZ2.out.1 HZ1.out.2 HZ2.out.2 (by rw [G1.out]; exact KX.out) (by rw [G2.out]; exact KY.out) G7.out G8.out
                      rw [G1.out, G2.out] at this
                      exact this
                    · have dc6 : decide ((en : Int) < (b : Int)) = false := by simp; omega
                      have HZ2 : Hid (SortOf (X2 ++ Y2) (X2 ++ Y2)) := Lib.hid (sort_one KX1.out.2 KY1.out.2 (.inr (len0 (by have := GL.out; omega))))
                      go_wp2_with fail
                      go_end0
                      refine ⟨rfl, Z1 ++ (X2 ++ Y2), ?_, by have := OC.out; simpa only [List.append_assoc] using this, UC.out⟩
                      have := kle_halves HZ1.out.1 HZ2.out.1 HZ1.out.2 HZ2.out.2 (by rw [G1.out]; exact KX.out) (by rw [G2.out]; exact KY.out) G7.out G8.out
                      rw [G1.out, G2.out] at this
                      exact this
                  · have dc5 : decide ((mid : Int) < (en : Int)) = false := by simp; omega
                    have HZ2 : Hid (SortOf (X2 ++ Y2) (X2 ++ Y2)) := Lib.hid (sort_one KX1.out.2 KY1.out.2 (.inl (len0 (by have := GL.out; omega))))
                    go_wp2_with fail
                    go_end0
                    refine ⟨rfl, Z1 ++ (X2 ++ Y2), ?_, by have := OC.out; simpa only [List.append_assoc] using this, UC.out⟩
                    have := kle_halves HZ1.out.1 HZ2.out.1 HZ1.out.2 HZ2.out.2 (by rw [G1.out]; exact KX.out) (by rw [G2.out]; exact KY.out) G7.out G8.out
                    rw [G1.out, G2.out] at this
                    exact this
end Go.Proofs.YthdjbflbhgbckaaDoor

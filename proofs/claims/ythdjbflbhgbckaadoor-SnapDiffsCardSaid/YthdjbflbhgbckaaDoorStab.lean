/-
  The library's stable sort at pairs, sorted by keys: insertion, by contracts.
-/
import Derived.Test.YthdjbflbhgbckaaDoorStabP
import Derived.Test.YthdjbflbhgbckaaDoorFlat
import Derived.Test.YthdjbflbhgbckaaDoorArg
import Derived.Test.YthdjbflbhgbckaaDoorCmp
import Derived.Test.YthdjbflbhgbckaaDoorAppV
import Derived.Test.YthdjbflbhgbckaaDoorDrawK
import Derived.IntWalk
import Derived.BigRegion
set_option linter.unusedVariables false
namespace Go.Proofs.YthdjbflbhgbckaaDoor
open Go.RowKit Stab
attribute [local go_sem] litStep_value

def encPr : Enc (Int × Int) := encII .i64 .i64
theorem elem_pair : Elem Tryd.prog 22 39 2 16 := .mk' (z := ((Tryd.prog.info? 39).bind (·.zero)).getD undef) Tryd.underlying22 (by kernel_rfl) (by kernel_rfl) (by omega)
theorem flat_set2 : ∀ (L : PL) (k : Nat) (t : Int × Int), flat encPr (L.set k t) = ((flat encPr L).set (k * 2) (.int .i64 t.1)).set (k * 2 + 1) (.int .i64 t.2)
  | [], k, t => by simp [flat]
  | a :: L, 0, t => by simp [flat, encPr, encII]
  | a :: L, k + 1, t => by
    have := flat_set2 L k t
    unfold flat at this ⊢
    rw [List.set_cons_succ, List.flatMap_cons, List.flatMap_cons, this]
    rw [show (k + 1) * 2 = k * 2 + 2 by omega, show k * 2 + 2 + 1 = k * 2 + 1 + 2 by omega]
    rfl
theorem nil_or_snoc {α : Type} (l : List α) : l = [] ∨ ∃ m x, l = m ++ [x] := by
  rcases h : l.reverse with _ | ⟨x, m⟩
  · exact .inl (by simpa using h)
  · exact .inr ⟨m.reverse, x, by rw [← List.reverse_reverse l, h]; simp⟩
theorem get_mid {α : Type} (A B : List α) (x : α) : (A ++ x :: B)[A.length]? = some x := by simp
set_option maxRecDepth 100000 in
theorem bykey_ok (a b c d : Int) (w : World) : Calls Tryd.prog 25 #[.agg #[.int .i64 a, .int .i64 b], .agg #[.int .i64 c, .int .i64 d]] w fun e w' => e = .returned (.int .i64 (cmpI a c)) ∧ Upd [] w w' := by
  go_enter Tryd.func25, Tryd.ntmps25
  go_wp2_with fail
  refine (compare_ok a c _).mono ?_; rintro e w1 ⟨rfl, rfl⟩
  go_wp2_with fail
  go_ret
  exact ⟨rfl, ((Upd.refl [] w).alloc _).alloc _⟩
theorem cmpI_lt {a b : Int} : (decide (cmpI a b < 0)) = decide (a < b) := by
  unfold cmpI
  by_cases h : a < b
  · simp [h]
  · rw [if_neg h, decide_eq_false h]
    split <;> decide
def byK : Value := .func (.func 25) #[] #[]
/-- What a step of the sort leaves. -/
def SortPost (B : Nat) (v : Value) (A : PL) (Q : PL → Prop) (S : PL) (w : World) (e : Ending) (w' : World) : Prop := e = .returned (.tuple #[]) ∧ ∃ Z, Q Z ∧ Ow encPr 39 w' B v (A ++ Z ++ S) ∧ Upd v.ownBlock.toList w w'
def SortOf (X Z : PL) : Prop := Kle Z ∧ Z.Perm X

set_option maxRecDepth 100000 in
set_option maxHeartbeats 8000000 in
theorem ins_ok (B g N cp : Nat) (P X S : PL) (a b : Nat) (w : World) (ho : Ow encPr 39 w B (.slice (some ⟨g, 0, none⟩) N cp) (P ++ X ++ S)) (hn : (P ++ X ++ S).length = N) (ha : P.length = a) (hb : a + X.length = b) (hN : N ≤ 1000) :
    Calls Tryd.prog 57 #[.slice (some ⟨g, 0, none⟩) N cp, .int .i64 a, .int .i64 b, byK] w fun e w' => SortPost B (.slice (some ⟨g, 0, none⟩) N cp) P (SortOf X) S w e w' := by
  have HO := Lib.hid ho
  have HN0 := Lib.hid hn
  have HA := Lib.hid ha
  have HB := Lib.hid hb
  have hbN : b ≤ N := by rw [← hn, ← hb, ← ha, List.length_append, List.length_append]; omega
  have hab : a ≤ b := by omega
  have ent : ∀ args w, (callFunc 25 args).run Tryd.prog w = .ok (.enter 25 args) w := fun args w => rfl
  clear ho hn ha hb
  unfold byK
  go_enter Tryd.func57, Tryd.ntmps57
  go_wp2_with fail
  go_loopw [8, 9] (fun v v9 wr => ∃ (i : Nat) (Z : PL), v = .int .i64 i ∧ a + 1 ≤ i ∧ (i ≤ b ∨ i = a + 1) ∧ Hid (SortOf (X.take (i - a)) Z) ∧ Hid (Ow encPr 39 wr B (.slice (some ⟨g, 0, none⟩) N cp) (P ++ (Z ++ (X.drop (i - a) ++ S)))) ∧ Hid (Upd [g] w wr)) (fun v _ _ => b + 1 - (intOf v).toNat)
  case atStart => exact ⟨a + 1, X.take 1, by go_num, by omega, .inr rfl, Lib.hid ⟨by
      cases X with
      | nil => exact Kle.nil
      | cons x X => exact Kle.one x, by rw [Nat.add_sub_cancel_left]⟩, Lib.hid (by rw [Nat.add_sub_cancel_left, ← List.append_assoc (X.take 1), List.take_append_drop, ← List.append_assoc]; exact HO.out), Lib.hid (.refl _ _)⟩
  case round =>
    obtain ⟨i, Z, rfl, hi1, hi2, HZ, OZ, UZ⟩ := hrel
    rename World => wr
    by_cases hib : i < b
    · obtain ⟨x, hx⟩ : ∃ x, X[i - a]? = some x := ⟨_, List.getElem?_eq_getElem (by have := HB.out; omega)⟩
      have hdr : X.drop (i - a) = x :: X.drop (i + 1 - a) := by
        obtain ⟨h1, h2⟩ := List.getElem?_eq_some_iff.1 hx
        rw [List.drop_eq_getElem_cons h1, h2, show i - a + 1 = i + 1 - a by omega]
      have htk : X.take (i + 1 - a) = X.take (i - a) ++ [x] := by
        obtain ⟨h1, h2⟩ := List.getElem?_eq_some_iff.1 hx
        rw [show i + 1 - a = i - a + 1 by omega, List.take_succ_eq_append_getElem h1, h2]
      obtain ⟨T, hT⟩ : ∃ T, X.drop (i + 1 - a) ++ S = T := ⟨_, rfl⟩
      have HT := Lib.hid hT
      have HTK := Lib.hid htk
      have hzl : Z.length = i - a := by rw [HZ.out.2.length_eq, List.length_take]; have := HB.out; omega
      have OZ' : Hid (Ow encPr 39 wr B (.slice (some ⟨g, 0, none⟩) N cp) (P ++ (Z ++ (x :: ([] ++ T))))) := Lib.hid (by have := OZ.out; rw [hdr, List.cons_append, hT] at this; exact this)
      have HZL := Lib.hid hzl
      clear hx hdr htk hT hzl OZ
      go_wp2_with fail
      go_loopw [9] (fun v wr' => ∃ (j : Nat) (Y1 Y2 : PL), v = .int .i64 j ∧ j = a + Y1.length ∧ j ≤ i ∧ Hid (Y1 ++ Y2 = Z) ∧ Hid (∀ y ∈ Y2, x.1 < y.1) ∧ Hid (Ow encPr 39 wr' B (.slice (some ⟨g, 0, none⟩) N cp) (P ++ (Y1 ++ (x :: (Y2 ++ T))))) ∧ Hid (Upd [g] w wr')) (fun v _ => (intOf v).toNat)
      case atStart => exact ⟨i, Z, [], rfl, by rw [HZL.out]; omega, Nat.le_refl _, Lib.hid (by simp), Lib.hid (fun y hy => by cases hy), OZ', UZ⟩
      case round =>
        obtain ⟨j, Y1, Y2, rfl, hj, hji, HY, HG, OY, UY⟩ := hrel
        rename World => wy
        have HJ := Lib.hid hj
        clear OZ' UZ hj
        rcases nil_or_snoc Y1 with rfl | ⟨Y, y, rfl⟩
        · obtain rfl : a = j := by have := HJ.out; simp at this; omega
          have d1 : decide ((a : Int) < (a : Int)) = false := by simp
          have CS : Hid (∀ W, Upd [] wy.drew W → Upd [] wy W) := Lib.hid (fun W hW => (Upd.refl [] wy).drew.trans hW)
          go_wp2_with fail
          refine wp_invN [] [] (by kernel_rfl) (by kernel_rfl) (by kernel_rfl) trivial ?_
          with_reducible apply wpV_light
          · simp only [lightOp]
          · intro W hU hF
            clear hU hF
            go_simp
            exact rfl
          simp only [Act.put, List.setIfInBounds_toArray, List.set_cons_zero, List.set_cons_succ]
          with_reducible apply wpV_light
          · simp only [lightOp]
          · intro W hU hF
            clear hU hF
            go_simp
            exact rfl
          simp only [Act.put, List.setIfInBounds_toArray, List.set_cons_zero, List.set_cons_succ]
          with_reducible apply wpV_light
          · simp only [lightOp]
          · intro W hU hF
            clear hU hF
            go_simp
            exact rfl
          simp only [Act.put, List.setIfInBounds_toArray, List.set_cons_zero, List.set_cons_succ]
          with_reducible apply wpV_light
          · simp only [lightOp]
          · intro W hU hF
            clear hU hF
            go_simp
            exact rfl
          simp only [Act.put, List.setIfInBounds_toArray, List.set_cons_zero, List.set_cons_succ]
          refine wpV_skip (by rfl) (by simp only [lightOp]) ?_
          simp only [Act.put, List.setIfInBounds_toArray, List.set_cons_zero, List.set_cons_succ]
          refine wpV_skip (by rfl) (by simp only [lightOp]) ?_
          simp only [Act.put, List.setIfInBounds_toArray, List.set_cons_zero, List.set_cons_succ]
          refine wpV_skip (by rfl) (by simp only [lightOp]) ?_
          simp only [Act.put, List.setIfInBounds_toArray, List.set_cons_zero, List.set_cons_succ]
          refine wpV_skip (by rfl) (by simp only [lightOp]) ?_
          simp only [Act.put, List.setIfInBounds_toArray, List.set_cons_zero, List.set_cons_succ]
          refine wpV_skip (by rfl) (by simp only [lightOp]) ?_
          simp only [Act.put, List.setIfInBounds_toArray, List.set_cons_zero, List.set_cons_succ]
          refine wpV_skip (by rfl) (by simp only [lightOp]) ?_
          simp only [Act.put, List.setIfInBounds_toArray, List.set_cons_zero, List.set_cons_succ]
          refine wpV_skip (by rfl) (by simp only [lightOp]) ?_
          simp only [Act.put, List.setIfInBounds_toArray, List.set_cons_zero, List.set_cons_succ]
          refine wpV_skip (by rfl) (by simp only [lightOp]) ?_
          simp only [Act.put, List.setIfInBounds_toArray, List.set_cons_zero, List.set_cons_succ]
          refine wpV_skip (by rfl) (by simp only [lightOp]) ?_
          simp only [Act.put, List.setIfInBounds_toArray, List.set_cons_zero, List.set_cons_succ]
          refine wpV_skip (by rfl) (by simp only [lightOp]) ?_
          simp only [Act.put, List.setIfInBounds_toArray, List.set_cons_zero, List.set_cons_succ]
          refine wpV_heavySkip (by simp only [lightOp]) (by rfl) (fun W hU hk => outV_new rfl trivial (by intro b hb; cases hb) (.refl _ _)) ?_
          rintro _ trivial
          simp only [Act.put, List.setIfInBounds_toArray, List.set_cons_zero, List.set_cons_succ]
          refine wpV_skip (by rfl) (by simp only [lightOp]) ?_
          simp only [Act.put, List.setIfInBounds_toArray, List.set_cons_zero, List.set_cons_succ]
          with_reducible apply wpV_light
          · simp only [lightOp]
          · intro W hU hF
            clear hU hF
            go_simp
            exact rfl
          simp only [Act.put, List.setIfInBounds_toArray, List.set_cons_zero, List.set_cons_succ]
          refine wpV_end (fun W hU _ _ => ?_)
          have U2 : Hid (Upd [] wy W) := Lib.hid ((Upd.refl [] wy).drew.trans hU)
          clear hU CS
          refine wpT_end ?_
          have HQ : Hid (SortOf (X.take (i + 1 - a)) ([] ++ x :: Y2)) := Lib.hid ⟨kle_mid (by rw [HY.out]; exact HZ.out.1) (by simp) (fun y hy => by have := HG.out y hy; omega), by rw [HTK.out]; exact perm_mid.trans ((HY.out ▸ HZ.out.2).append_right [x])⟩
          have OR : Hid (Ow encPr 39 W B (.slice (some ⟨g, 0, none⟩) N cp) (P ++ (([] ++ x :: Y2) ++ (X.drop (i + 1 - a) ++ S)))) := Lib.hid (by rw [HT.out]; have := OY.out.upd0 U2.out; simpa only [List.append_assoc, List.cons_append, List.nil_append] using this)
          have UR : Hid (Upd [g] w W) := Lib.hid (UY.out.trans (U2.out.mono (by simp)))
          go_wp2_with fail
          go_roundw
          case rel => exact ⟨i + 1, [] ++ x :: Y2, by go_num, by omega, by omega, HQ, OR, UR⟩
          case measure => simp [intOf]; omega
        · obtain ⟨jj, hjj⟩ : ∃ jj, a + Y.length = jj := ⟨_, rfl⟩
          have hj2 : jj + 1 = j := by have := HJ.out; rw [List.length_append] at this; simp at this; omega
          have HA2 : Hid ((P ++ Y).length = jj) := Lib.hid (by rw [List.length_append, HA.out]; exact hjj)
          have OY' : Hid (Ow encPr 39 wy B (.slice (some ⟨g, 0, none⟩) N cp) ((P ++ Y) ++ y :: x :: (Y2 ++ T))) := Lib.hid (by have := OY.out; simpa only [List.append_assoc, List.cons_append, List.nil_append] using this)
          have hxj : ((P ++ Y) ++ y :: x :: (Y2 ++ T))[jj]? = some y := by have := get_mid (P ++ Y) (x :: (Y2 ++ T)) y; rwa [HA2.out] at this
          have hxi : ((P ++ Y) ++ y :: x :: (Y2 ++ T))[j]? = some x := by
            have := get_mid (P ++ Y ++ [y]) (Y2 ++ T) x
            rw [show (P ++ Y ++ [y]).length = j by rw [List.length_append, HA2.out]; exact hj2] at this
            simpa only [List.append_assoc, List.cons_append, List.nil_append] using this
          have HXI0 := Lib.hid hxi
          have HXJ0 := Lib.hid hxj
          have CS : Hid (∀ W, Upd [] wy.drew W → W.cell? ⟨g, j * 2, none⟩ = some (.int .i64 x.1) ∧ W.cell? ⟨g, j * 2 + 1, none⟩ = some (.int .i64 x.2) ∧ W.cell? ⟨g, jj * 2, none⟩ = some (.int .i64 y.1) ∧ W.cell? ⟨g, jj * 2 + 1, none⟩ = some (.int .i64 y.2)) := Lib.hid (fun W hW => by
            have ho := OY'.out.upd0 ((Upd.refl [] wy).drew.trans hW)
            exact ⟨ho.at_ HXI0.out 0 _ rfl, ho.at_ HXI0.out 1 _ rfl, ho.at_ HXJ0.out 0 _ rfl, ho.at_ HXJ0.out 1 _ rfl⟩)
          have haj : a ≤ jj := by omega
          clear hxi hxj hjj
          have d1 : decide ((a : Int) < (j : Int)) = true := by simp; omega
          have q8 : (a : Int) < (j : Int) := by omega
          have q9 : a < j := by omega
          have q1 : (0 : Int) ≤ (j : Int) := by omega
          have q2 : (j : Int) < (N : Int) := by omega
          have q3 : (0 : Int) ≤ (jj : Int) := by omega
          have q4 : (jj : Int) < (N : Int) := by omega
          have q5 : (j : Int) - 1 = (jj : Int) := by omega
          have q5w : IntKind.i64.wrap (jj : Int) = (jj : Int) := by rw [IntKind.wrap_i64]; omega
          by_cases hlt : x.1 < y.1
          · have dc : decide (cmpI x.1 y.1 < 0) = true := by rw [cmpI_lt]; simpa using hlt
            have HLT := Lib.hid hlt
            clear hlt
            go_wp2_with fail
            refine wp_invN [(14, .det (.int .i64 (cmpI x.1 y.1)))] [] (by kernel_rfl) (by kernel_rfl) (by kernel_rfl) ⟨lasts_det _, trivial⟩ ?_
            with_reducible apply wpV_light
            · simp only [lightOp]
            · intro W hU hF
              have f0 := CS.out W hU
              clear hU hF
              go_simp
              exact rfl
            simp only [Act.put, List.setIfInBounds_toArray, List.set_cons_zero, List.set_cons_succ]
            with_reducible apply wpV_light
            · simp only [lightOp]
            · intro W hU hF
              have f0 := CS.out W hU
              clear hU hF
              go_simp
              exact rfl
            simp only [Act.put, List.setIfInBounds_toArray, List.set_cons_zero, List.set_cons_succ]
            with_reducible apply wpV_light
            · simp only [lightOp]
            · intro W hU hF
              have f0 := CS.out W hU
              clear hU hF
              go_simp
              exact rfl
            simp only [Act.put, List.setIfInBounds_toArray, List.set_cons_zero, List.set_cons_succ]
            with_reducible apply wpV_light
            · simp only [lightOp]
            · intro W hU hF
              have f0 := CS.out W hU
              clear hU hF
              go_simp
              exact rfl
            simp only [Act.put, List.setIfInBounds_toArray, List.set_cons_zero, List.set_cons_succ]
            with_reducible apply wpV_light
            · simp only [lightOp]
            · intro W hU hF
              have f0 := CS.out W hU
              clear hU hF
              go_simp
              exact rfl
            simp only [Act.put, List.setIfInBounds_toArray, List.set_cons_zero, List.set_cons_succ]
            with_reducible apply wpV_light
            · simp only [lightOp]
            · intro W hU hF
              have f0 := CS.out W hU
              clear hU hF
              go_simp
              exact rfl
            simp only [Act.put, List.setIfInBounds_toArray, List.set_cons_zero, List.set_cons_succ]
            with_reducible apply wpV_light
            · simp only [lightOp]
            · intro W hU hF
              have f0 := CS.out W hU
              clear hU hF
              go_simp
              exact rfl
            simp only [Act.put, List.setIfInBounds_toArray, List.set_cons_zero, List.set_cons_succ]
            with_reducible apply wpV_light
            · simp only [lightOp]
            · intro W hU hF
              have f0 := CS.out W hU
              clear hU hF
              go_simp
              exact rfl
            simp only [Act.put, List.setIfInBounds_toArray, List.set_cons_zero, List.set_cons_succ]
            with_reducible apply wpV_light
            · simp only [lightOp]
            · intro W hU hF
              have f0 := CS.out W hU
              clear hU hF
              go_simp
              exact rfl
            simp only [Act.put, List.setIfInBounds_toArray, List.set_cons_zero, List.set_cons_succ]
            with_reducible apply wpV_light
            · simp only [lightOp]
            · intro W hU hF
              have f0 := CS.out W hU
              clear hU hF
              go_simp
              exact rfl
            simp only [Act.put, List.setIfInBounds_toArray, List.set_cons_zero, List.set_cons_succ]
            with_reducible apply wpV_light
            · simp only [lightOp]
            · intro W hU hF
              have f0 := CS.out W hU
              clear hU hF
              go_simp
              exact rfl
            simp only [Act.put, List.setIfInBounds_toArray, List.set_cons_zero, List.set_cons_succ]
            with_reducible apply wpV_light
            · simp only [lightOp]
            · intro W hU hF
              have f0 := CS.out W hU
              clear hU hF
              go_simp
              exact rfl
            simp only [Act.put, List.setIfInBounds_toArray, List.set_cons_zero, List.set_cons_succ]
            with_reducible apply wpV_light
            · simp only [lightOp]
            · intro W hU hF
              have f0 := CS.out W hU
              clear hU hF
              go_simp
              exact rfl
            simp only [Act.put, List.setIfInBounds_toArray, List.set_cons_zero, List.set_cons_succ]
            with_reducible apply wpV_light
            · simp only [lightOp]
            · intro W hU hF
              have f0 := CS.out W hU
              clear hU hF
              go_simp
              exact rfl
            simp only [Act.put, List.setIfInBounds_toArray, List.set_cons_zero, List.set_cons_succ]
            refine wpV_heavy (by simp only [lightOp]) (by rfl) (fun W hU hk hF K hK => ?_) ?_
            · go_wp2_with fail
              refine (bykey_ok x.1 x.2 y.1 y.2 W).mono ?_
              rintro e w5 ⟨rfl, u5⟩
              go_wp2_with fail
              exact hK.out _ _ (outV_new rfl rfl (by intro b hb; cases hb) u5)
            rintro _ rfl
            simp only [Act.put, List.setIfInBounds_toArray, List.set_cons_zero, List.set_cons_succ]
            with_reducible apply wpV_light
            · simp only [lightOp]
            · intro W hU hF
              have f0 := CS.out W hU
              clear hU hF
              go_simp
              exact rfl
            simp only [Act.put, List.setIfInBounds_toArray, List.set_cons_zero, List.set_cons_succ]
            with_reducible apply wpV_light
            · simp only [lightOp]
            · intro W hU hF
              have f0 := CS.out W hU
              clear hU hF
              go_simp
              exact rfl
            simp only [Act.put, List.setIfInBounds_toArray, List.set_cons_zero, List.set_cons_succ]
            refine wpV_end (fun W hU _ _ => ?_)
            have U2 : Hid (Upd [] wy W) := Lib.hid ((Upd.refl [] wy).drew.trans hU)
            clear hU CS
            refine wpT_end ?_
            have OW := Lib.hid (OY'.out.upd0 U2.out)
            have UW : Hid (Upd [g] w W) := Lib.hid (UY.out.trans (U2.out.mono (by simp)))
            have HN : Hid (((P ++ Y) ++ y :: x :: (Y2 ++ T)).length = N) := Lib.hid (by have h := own_len OW.out; obtain ⟨A9, c9, e9, _⟩ := own_slice OW.out; injection e9 with _ e9; exact e9.symm)
            have hxi := HXI0.out
            have hxj := HXJ0.out
            clear U2 OY OY' UY dc
            rename World => wq
            go_wp2_with fail
            -- data[j], data[jj] = data[jj], data[j] in a drawn region: hxi, hxj : the elements; OW : the row
            have HXI : Hid ((P ++ Y ++ y :: x :: (Y2 ++ T)).getD (j) default = x) := Lib.hid (by rw [List.getD_eq_getElem?_getD, hxi]; rfl)
            have HXJ : Hid ((P ++ Y ++ y :: x :: (Y2 ++ T)).getD (jj) default = y) := Lib.hid (by rw [List.getD_eq_getElem?_getD, hxj]; rfl)
            have HJL : Hid ((jj) < (P ++ Y ++ y :: x :: (Y2 ++ T)).length) := Lib.hid (List.getElem?_eq_some_iff.1 hxj).1
            have O2n : Hid (wq.ownsRow B 39 2 (.slice (some ⟨g, 0, none⟩) N cp) N (flat encPr (P ++ Y ++ y :: x :: (Y2 ++ T)))) := Lib.hid (by have := OW.out; unfold Ow at this; rw [HN.out] at this; exact this)
            have f1 : wq.cell? ⟨g, (j) * 2, none⟩ = some (.int .i64 x.1) := OW.out.at_ hxi 0 _ rfl
            have f2 : wq.cell? ⟨g, (j) * 2 + 1, none⟩ = some (.int .i64 x.2) := OW.out.at_ hxi 1 _ rfl
            have f3 : wq.cell? ⟨g, (jj) * 2, none⟩ = some (.int .i64 y.1) := OW.out.at_ hxj 0 _ rfl
            have f4 : wq.cell? ⟨g, (jj) * 2 + 1, none⟩ = some (.int .i64 y.2) := OW.out.at_ hxj 1 _ rfl
            have fz : ∀ k, wq.frozen? ⟨g, k, none⟩ = false := own_frozen O2n.out
            have fl : g < wq.heap.size := (own_lt O2n.out rfl).2
            have O3 : Hid (((wq.setCell ⟨g, (j) * 2, none⟩ (.int .i64 y.1)).setCell ⟨g, (j) * 2 + 1, none⟩ (.int .i64 y.2)).ownsRow B 39 2 (.slice (some ⟨g, 0, none⟩) N cp) N (flat encPr ((P ++ Y ++ y :: x :: (Y2 ++ T)).set (j) y))) := Lib.hid (by rw [flat_set2]; exact own_set (own_set O2n.out _ _) _ _)
            have O3' : Hid (Ow encPr 39 ((wq.setCell ⟨g, (j) * 2, none⟩ (.int .i64 y.1)).setCell ⟨g, (j) * 2 + 1, none⟩ (.int .i64 y.2)) B (.slice (some ⟨g, 0, none⟩) N cp) ((P ++ Y ++ y :: x :: (Y2 ++ T)).set (j) y)) := Lib.hid (by unfold Ow; rw [List.length_set, HN.out]; exact O3.out)
            obtain ⟨z, hz⟩ : ∃ z, ((P ++ Y ++ y :: x :: (Y2 ++ T)).set (j) y)[jj]? = some z := ⟨_, List.getElem?_eq_getElem (by rw [List.length_set]; exact HJL.out)⟩
            have f5 : ((wq.setCell ⟨g, (j) * 2, none⟩ (.int .i64 y.1)).setCell ⟨g, (j) * 2 + 1, none⟩ (.int .i64 y.2)).cell? ⟨g, (jj) * 2, none⟩ = some (.int .i64 z.1) := O3'.out.at_ hz 0 _ rfl
            have f6 : ((wq.setCell ⟨g, (j) * 2, none⟩ (.int .i64 y.1)).setCell ⟨g, (j) * 2 + 1, none⟩ (.int .i64 y.2)).cell? ⟨g, (jj) * 2 + 1, none⟩ = some (.int .i64 z.2) := O3'.out.at_ hz 1 _ rfl
            have O4 : Hid ((((((wq.setCell ⟨g, (j) * 2, none⟩ (.int .i64 y.1)).setCell ⟨g, (j) * 2 + 1, none⟩ (.int .i64 y.2)).setCell ⟨g, (jj) * 2, none⟩ (.int .i64 x.1)).setCell ⟨g, (jj) * 2 + 1, none⟩ (.int .i64 x.2)).drew).ownsRow B 39 2 (.slice (some ⟨g, 0, none⟩) N cp) N (flat encPr (((P ++ Y ++ y :: x :: (Y2 ++ T)).set (j) y).set (jj) x))) := Lib.hid (own_upd0 (by rw [flat_set2]; exact own_set (own_set O3.out _ _) _ _) ((Upd.refl [] _).drew))
            have U4 : Hid (Upd [g] wq (((((wq.setCell ⟨g, (j) * 2, none⟩ (.int .i64 y.1)).setCell ⟨g, (j) * 2 + 1, none⟩ (.int .i64 y.2)).setCell ⟨g, (jj) * 2, none⟩ (.int .i64 x.1)).setCell ⟨g, (jj) * 2 + 1, none⟩ (.int .i64 x.2)).drew)) := Lib.hid ((((((Upd.refl [g] wq).setCell (.inl (by simp)) _).setCell (.inl (by simp)) _).setCell (.inl (by simp)) _).setCell (.inl (by simp)) _).drew)
            clear hxi hxj hz O3'
            go_region
            clear f1 f2 f3 f4 f5 f6 fz fl O2n O3
            generalize (((((wq.setCell ⟨g, (j) * 2, none⟩ (.int .i64 y.1)).setCell ⟨g, (j) * 2 + 1, none⟩ (.int .i64 y.2)).setCell ⟨g, (jj) * 2, none⟩ (.int .i64 x.1)).setCell ⟨g, (jj) * 2 + 1, none⟩ (.int .i64 x.2)).drew) = W4 at *
            have O5 : Hid (Ow encPr 39 W4 B (.slice (some ⟨g, 0, none⟩) N cp) (swapL (P ++ Y ++ y :: x :: (Y2 ++ T)) (j) (jj))) := Lib.hid (by
              unfold swapL
              rw [HXI.out, HXJ.out]
              unfold Ow
              rw [List.length_set, List.length_set, HN.out]
              exact O4.out)
            clear O4 HXI HXJ HJL
            have O6 : Hid (Ow encPr 39 W4 B (.slice (some ⟨g, 0, none⟩) N cp) (P ++ (Y ++ (x :: ((y :: Y2) ++ T))))) := Lib.hid (by
              have := O5.out
              have e := swapL_next (P ++ Y) (Y2 ++ T) y x
              rw [HA2.out, hj2] at e
              rw [swapL_comm, e] at this
              simpa only [List.append_assoc, List.cons_append, List.nil_append] using this)
            have U6 : Hid (Upd [g] w W4) := Lib.hid (UW.out.trans U4.out)
            have HY6 : Hid (Y ++ (y :: Y2) = Z) := Lib.hid (by rw [← HY.out]; simp)
            have HG6 : Hid (∀ z ∈ y :: Y2, x.1 < z.1) := Lib.hid (fun z hz => by
              rcases List.mem_cons.1 hz with rfl | hz
              · exact HLT.out
              · exact HG.out z hz)
            have HJ6 : Hid (jj = a + Y.length) := Lib.hid (by have := HJ.out; rw [List.length_append] at this; simp at this; omega)
            clear O5 U4 OW UW
            go_wp2_with fail
            go_roundw
            case rel => exact ⟨jj, Y, y :: Y2, by go_num, HJ6.out, by omega, HY6, HG6, O6, U6⟩
            case measure => simp [intOf]; omega
          · have dc : decide (cmpI x.1 y.1 < 0) = false := by rw [cmpI_lt]; simpa using hlt
            have HLT : Hid (y.1 ≤ x.1) := Lib.hid (by omega)
            clear hlt
            go_wp2_with fail
            refine wp_invN [(14, .det (.int .i64 (cmpI x.1 y.1)))] [] (by kernel_rfl) (by kernel_rfl) (by kernel_rfl) ⟨lasts_det _, trivial⟩ ?_
            with_reducible apply wpV_light
            · simp only [lightOp]
            · intro W hU hF
              have f0 := CS.out W hU
              clear hU hF
              go_simp
              exact rfl
            simp only [Act.put, List.setIfInBounds_toArray, List.set_cons_zero, List.set_cons_succ]
            with_reducible apply wpV_light
            · simp only [lightOp]
            · intro W hU hF
              have f0 := CS.out W hU
              clear hU hF
              go_simp
              exact rfl
            simp only [Act.put, List.setIfInBounds_toArray, List.set_cons_zero, List.set_cons_succ]
            with_reducible apply wpV_light
            · simp only [lightOp]
            · intro W hU hF
              have f0 := CS.out W hU
              clear hU hF
              go_simp
              exact rfl
            simp only [Act.put, List.setIfInBounds_toArray, List.set_cons_zero, List.set_cons_succ]
            with_reducible apply wpV_light
            · simp only [lightOp]
            · intro W hU hF
              have f0 := CS.out W hU
              clear hU hF
              go_simp
              exact rfl
            simp only [Act.put, List.setIfInBounds_toArray, List.set_cons_zero, List.set_cons_succ]
            with_reducible apply wpV_light
            · simp only [lightOp]
            · intro W hU hF
              have f0 := CS.out W hU
              clear hU hF
              go_simp
              exact rfl
            simp only [Act.put, List.setIfInBounds_toArray, List.set_cons_zero, List.set_cons_succ]
            with_reducible apply wpV_light
            · simp only [lightOp]
            · intro W hU hF
              have f0 := CS.out W hU
              clear hU hF
              go_simp
              exact rfl
            simp only [Act.put, List.setIfInBounds_toArray, List.set_cons_zero, List.set_cons_succ]
            with_reducible apply wpV_light
            · simp only [lightOp]
            · intro W hU hF
              have f0 := CS.out W hU
              clear hU hF
              go_simp
              exact rfl
            simp only [Act.put, List.setIfInBounds_toArray, List.set_cons_zero, List.set_cons_succ]
            with_reducible apply wpV_light
            · simp only [lightOp]
            · intro W hU hF
              have f0 := CS.out W hU
              clear hU hF
              go_simp
              exact rfl
            simp only [Act.put, List.setIfInBounds_toArray, List.set_cons_zero, List.set_cons_succ]
            with_reducible apply wpV_light
            · simp only [lightOp]
            · intro W hU hF
              have f0 := CS.out W hU
              clear hU hF
              go_simp
              exact rfl
            simp only [Act.put, List.setIfInBounds_toArray, List.set_cons_zero, List.set_cons_succ]
            with_reducible apply wpV_light
            · simp only [lightOp]
            · intro W hU hF
              have f0 := CS.out W hU
              clear hU hF
              go_simp
              exact rfl
            simp only [Act.put, List.setIfInBounds_toArray, List.set_cons_zero, List.set_cons_succ]
            with_reducible apply wpV_light
            · simp only [lightOp]
            · intro W hU hF
              have f0 := CS.out W hU
              clear hU hF
              go_simp
              exact rfl
            simp only [Act.put, List.setIfInBounds_toArray, List.set_cons_zero, List.set_cons_succ]
            with_reducible apply wpV_light
            · simp only [lightOp]
            · intro W hU hF
              have f0 := CS.out W hU
              clear hU hF
              go_simp
              exact rfl
            simp only [Act.put, List.setIfInBounds_toArray, List.set_cons_zero, List.set_cons_succ]
            with_reducible apply wpV_light
            · simp only [lightOp]
            · intro W hU hF
              have f0 := CS.out W hU
              clear hU hF
              go_simp
              exact rfl
            simp only [Act.put, List.setIfInBounds_toArray, List.set_cons_zero, List.set_cons_succ]
            with_reducible apply wpV_light
            · simp only [lightOp]
            · intro W hU hF
              have f0 := CS.out W hU
              clear hU hF
              go_simp
              exact rfl
            simp only [Act.put, List.setIfInBounds_toArray, List.set_cons_zero, List.set_cons_succ]
            refine wpV_heavy (by simp only [lightOp]) (by rfl) (fun W hU hk hF K hK => ?_) ?_
            · go_wp2_with fail
              refine (bykey_ok x.1 x.2 y.1 y.2 W).mono ?_
              rintro e w5 ⟨rfl, u5⟩
              go_wp2_with fail
              exact hK.out _ _ (outV_new rfl rfl (by intro b hb; cases hb) u5)
            rintro _ rfl
            simp only [Act.put, List.setIfInBounds_toArray, List.set_cons_zero, List.set_cons_succ]
            with_reducible apply wpV_light
            · simp only [lightOp]
            · intro W hU hF
              have f0 := CS.out W hU
              clear hU hF
              go_simp
              exact rfl
            simp only [Act.put, List.setIfInBounds_toArray, List.set_cons_zero, List.set_cons_succ]
            with_reducible apply wpV_light
            · simp only [lightOp]
            · intro W hU hF
              have f0 := CS.out W hU
              clear hU hF
              go_simp
              exact rfl
            simp only [Act.put, List.setIfInBounds_toArray, List.set_cons_zero, List.set_cons_succ]
            refine wpV_end (fun W hU _ _ => ?_)
            have U2 : Hid (Upd [] wy W) := Lib.hid ((Upd.refl [] wy).drew.trans hU)
            clear hU CS
            refine wpT_end ?_
            have LOW : Hid (∀ z ∈ Y ++ [y], z.1 ≤ x.1) := Lib.hid (fun z hz => by
              have h1 := HZ.out.1
              rw [← HY.out, List.append_assoc] at h1
              have := kle_last h1 z hz
              have := HLT.out
              omega)
            have HQ : Hid (SortOf (X.take (i + 1 - a)) ((Y ++ [y]) ++ x :: Y2)) := Lib.hid ⟨kle_mid (by rw [HY.out]; exact HZ.out.1) LOW.out (fun y hy => by have := HG.out y hy; omega), by rw [HTK.out]; exact perm_mid.trans ((HY.out ▸ HZ.out.2).append_right [x])⟩
            have OR : Hid (Ow encPr 39 W B (.slice (some ⟨g, 0, none⟩) N cp) (P ++ (((Y ++ [y]) ++ x :: Y2) ++ (X.drop (i + 1 - a) ++ S)))) := Lib.hid (by rw [HT.out]; have := OY.out.upd0 U2.out; simpa only [List.append_assoc, List.cons_append, List.nil_append] using this)
            have UR : Hid (Upd [g] w W) := Lib.hid (UY.out.trans (U2.out.mono (by simp)))
            go_wp2_with fail
            go_roundw
            case rel => exact ⟨i + 1, (Y ++ [y]) ++ x :: Y2, by go_num, by omega, by omega, HQ, OR, UR⟩
            case measure => simp [intOf]; omega
    · go_wp2_with fail
      go_end0
      have h1 : X.take (i - a) = X := List.take_of_length_le (by have := HB.out; omega)
      have h2 : X.drop (i - a) = [] := List.drop_of_length_le (by have := HB.out; omega)
      refine ⟨rfl, Z, by have := HZ.out; rwa [h1] at this, ?_, by simpa [Value.ownBlock] using UZ.out⟩
      have := OZ.out
      rw [h2, List.nil_append] at this
      rw [List.append_assoc]
      exact this
end Go.Proofs.YthdjbflbhgbckaaDoor

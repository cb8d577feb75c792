/-
  The library's stable sort at pairs: two rows change places; a rotation.
-/
import Derived.Test.YthdjbflbhgbckaaDoorStab
set_option linter.unusedVariables false
namespace Go.Proofs.YthdjbflbhgbckaaDoor
open Go.RowKit Stab
attribute [local go_sem] litStep_value


theorem take_drop_at {l : PL} {i : Nat} {x : Int × Int} (h : l[i]? = some x) : l.drop i = x :: l.drop (i + 1) ∧ l.take (i + 1) = l.take i ++ [x] := by
  obtain ⟨h1, h2⟩ := List.getElem?_eq_some_iff.1 h
  exact ⟨by rw [List.drop_eq_getElem_cons h1, h2], by rw [List.take_succ_eq_append_getElem h1, h2]⟩
theorem len_mid {l : PL} {i n : Nat} (h : l.length = n) (hi : i ≤ n) : (l.take i).length = i := by rw [List.length_take]; omega
set_option maxRecDepth 100000 in
set_option maxHeartbeats 8000000 in
theorem swapr_ok (B g N cp : Nat) (P X M Y S : PL) (a b n : Nat) (w : World) (ho : Ow encPr 39 w B (.slice (some ⟨g, 0, none⟩) N cp) (P ++ (X ++ (M ++ (Y ++ S))))) (hn : (P ++ (X ++ (M ++ (Y ++ S)))).length = N) (ha : P.length = a) (hx : X.length = n) (hy : Y.length = n) (hb : a + n + M.length = b) (hN : N ≤ 1000) :
    Calls Tryd.prog 65 #[.slice (some ⟨g, 0, none⟩) N cp, .int .i64 a, .int .i64 b, .int .i64 n, byK] w fun e w' => e = .returned (.tuple #[]) ∧ Ow encPr 39 w' B (.slice (some ⟨g, 0, none⟩) N cp) (P ++ (Y ++ (M ++ (X ++ S)))) ∧ Upd [g] w w' := by
  have HO := Lib.hid ho
  have HA := Lib.hid ha
  have HX := Lib.hid hx
  have HY := Lib.hid hy
  have HB := Lib.hid hb
  have hlen : a + n + n ≤ N ∧ b + n ≤ N ∧ a + n ≤ b := by
    simp only [List.length_append] at hn
    omega
  obtain ⟨hl1, hl2, hl3⟩ := hlen
  clear ho hn ha hx hy hb
  unfold byK
  go_enter Tryd.func65, Tryd.ntmps65
  go_wp2_with fail
  go_loopw [10] (fun v wr => ∃ (i : Nat), v = .int .i64 i ∧ i ≤ n ∧ Hid (Ow encPr 39 wr B (.slice (some ⟨g, 0, none⟩) N cp) (P ++ (Y.take i ++ (X.drop i ++ (M ++ (X.take i ++ (Y.drop i ++ S))))))) ∧ Hid (Upd [g] w wr)) (fun v _ => n - (intOf v).toNat)
  case atStart => exact ⟨0, rfl, by omega, Lib.hid (by simpa using HO.out), Lib.hid (.refl _ _)⟩
  case round =>
    obtain ⟨i, rfl, hi, OI, UI⟩ := hrel
    rename World => wr
    by_cases hin : i < n
    · obtain ⟨x, hx⟩ : ∃ x, X[i]? = some x := ⟨_, List.getElem?_eq_getElem (by rw [HX.out]; exact hin)⟩
      obtain ⟨y, hy⟩ : ∃ y, Y[i]? = some y := ⟨_, List.getElem?_eq_getElem (by rw [HY.out]; exact hin)⟩
      obtain ⟨dx, tx⟩ := take_drop_at hx
      obtain ⟨dy, ty⟩ := take_drop_at hy
      obtain ⟨ai, hai⟩ : ∃ ai, a + i = ai := ⟨_, rfl⟩
      obtain ⟨bi, hbi⟩ : ∃ bi, b + i = bi := ⟨_, rfl⟩
      have HP1 : Hid ((P ++ Y.take i).length = ai) := Lib.hid (by rw [List.length_append, HA.out, len_mid HY.out hi]; exact hai)
      have HM1 : Hid (ai + 1 + (X.drop (i + 1) ++ (M ++ X.take i)).length = bi) := Lib.hid (by
        rw [List.length_append, List.length_append, List.length_drop, len_mid HX.out hi, HX.out]
        have := HB.out
        omega)
      have OW : Hid (Ow encPr 39 wr B (.slice (some ⟨g, 0, none⟩) N cp) ((P ++ Y.take i) ++ x :: ((X.drop (i + 1) ++ (M ++ X.take i)) ++ y :: (Y.drop (i + 1) ++ S)))) := Lib.hid (by
        have := OI.out
        rw [dx, dy] at this
        simpa only [List.append_assoc, List.cons_append, List.nil_append] using this)
      have SP : Hid (swapL ((P ++ Y.take i) ++ x :: ((X.drop (i + 1) ++ (M ++ X.take i)) ++ y :: (Y.drop (i + 1) ++ S))) ai bi = (P ++ Y.take i) ++ y :: ((X.drop (i + 1) ++ (M ++ X.take i)) ++ x :: (Y.drop (i + 1) ++ S))) := Lib.hid (by
        have := swapL_split (P ++ Y.take i) (X.drop (i + 1) ++ (M ++ X.take i)) (Y.drop (i + 1) ++ S) x y
        rwa [HP1.out, HM1.out] at this)
      have HTX := Lib.hid tx
      have HTY := Lib.hid ty
      generalize hrow : ((P ++ Y.take i) ++ x :: ((X.drop (i + 1) ++ (M ++ X.take i)) ++ y :: (Y.drop (i + 1) ++ S))) = row at OW SP
      have hxi : row[ai]? = some x := by rw [← hrow, ← HP1.out]; exact get_mid _ _ _
      have hxj : row[bi]? = some y := by
        have := get_mid ((P ++ Y.take i) ++ x :: (X.drop (i + 1) ++ (M ++ X.take i))) (Y.drop (i + 1) ++ S) y
        rw [show ((P ++ Y.take i) ++ x :: (X.drop (i + 1) ++ (M ++ X.take i))).length = bi by rw [List.length_append, List.length_cons, HP1.out, ← HM1.out]; omega] at this
        rw [← hrow]
        simpa only [List.append_assoc, List.cons_append, List.nil_append] using this
      have HN : Hid (row.length = N) := Lib.hid (by obtain ⟨A9, c9, e9, _⟩ := own_slice OW.out; injection e9 with _ e9; exact e9.symm)
      have q1 : (0 : Int) ≤ (ai : Int) := by omega
      have q2 : (ai : Int) < (N : Int) := by omega
      have q3 : (0 : Int) ≤ (bi : Int) := by omega
      have q4 : (bi : Int) < (N : Int) := by omega
      have q5 : (a : Int) + (i : Int) = (ai : Int) := by omega
      have q6 : (b : Int) + (i : Int) = (bi : Int) := by omega
      have q5w : IntKind.i64.wrap (ai : Int) = (ai : Int) := by rw [IntKind.wrap_i64]; omega
      have q6w : IntKind.i64.wrap (bi : Int) = (bi : Int) := by rw [IntKind.wrap_i64]; omega
      clear hx hy dx tx dy ty OI hrow hai hbi
      go_wp2_with fail
      -- data[ai], data[bi] = data[bi], data[ai] in a drawn region: hxi, hxj : the elements; OW : the row
      have HXI : Hid (row.getD (ai) default = x) := Lib.hid (by rw [List.getD_eq_getElem?_getD, hxi]; rfl)
      have HXJ : Hid (row.getD (bi) default = y) := Lib.hid (by rw [List.getD_eq_getElem?_getD, hxj]; rfl)
      have HJL : Hid ((bi) < row.length) := Lib.hid (List.getElem?_eq_some_iff.1 hxj).1
      have O2n : Hid (wr.ownsRow B 39 2 (.slice (some ⟨g, 0, none⟩) N cp) N (flat encPr row)) := Lib.hid (by have := OW.out; unfold Ow at this; rw [HN.out] at this; exact this)
      have f1 : wr.cell? ⟨g, (ai) * 2, none⟩ = some (.int .i64 x.1) := OW.out.at_ hxi 0 _ rfl
      have f2 : wr.cell? ⟨g, (ai) * 2 + 1, none⟩ = some (.int .i64 x.2) := OW.out.at_ hxi 1 _ rfl
      have f3 : wr.cell? ⟨g, (bi) * 2, none⟩ = some (.int .i64 y.1) := OW.out.at_ hxj 0 _ rfl
      have f4 : wr.cell? ⟨g, (bi) * 2 + 1, none⟩ = some (.int .i64 y.2) := OW.out.at_ hxj 1 _ rfl
      have fz : ∀ k, wr.frozen? ⟨g, k, none⟩ = false := own_frozen O2n.out
      have fl : g < wr.heap.size := (own_lt O2n.out rfl).2
      have O3 : Hid (((wr.setCell ⟨g, (ai) * 2, none⟩ (.int .i64 y.1)).setCell ⟨g, (ai) * 2 + 1, none⟩ (.int .i64 y.2)).ownsRow B 39 2 (.slice (some ⟨g, 0, none⟩) N cp) N (flat encPr (row.set (ai) y))) := Lib.hid (by rw [flat_set2]; exact own_set (own_set O2n.out _ _) _ _)
      have O3' : Hid (Ow encPr 39 ((wr.setCell ⟨g, (ai) * 2, none⟩ (.int .i64 y.1)).setCell ⟨g, (ai) * 2 + 1, none⟩ (.int .i64 y.2)) B (.slice (some ⟨g, 0, none⟩) N cp) (row.set (ai) y)) := Lib.hid (by unfold Ow; rw [List.length_set, HN.out]; exact O3.out)
      obtain ⟨z, hz⟩ : ∃ z, (row.set (ai) y)[bi]? = some z := ⟨_, List.getElem?_eq_getElem (by rw [List.length_set]; exact HJL.out)⟩
      have f5 : ((wr.setCell ⟨g, (ai) * 2, none⟩ (.int .i64 y.1)).setCell ⟨g, (ai) * 2 + 1, none⟩ (.int .i64 y.2)).cell? ⟨g, (bi) * 2, none⟩ = some (.int .i64 z.1) := O3'.out.at_ hz 0 _ rfl
      have f6 : ((wr.setCell ⟨g, (ai) * 2, none⟩ (.int .i64 y.1)).setCell ⟨g, (ai) * 2 + 1, none⟩ (.int .i64 y.2)).cell? ⟨g, (bi) * 2 + 1, none⟩ = some (.int .i64 z.2) := O3'.out.at_ hz 1 _ rfl
      have O4 : Hid ((((((wr.setCell ⟨g, (ai) * 2, none⟩ (.int .i64 y.1)).setCell ⟨g, (ai) * 2 + 1, none⟩ (.int .i64 y.2)).setCell ⟨g, (bi) * 2, none⟩ (.int .i64 x.1)).setCell ⟨g, (bi) * 2 + 1, none⟩ (.int .i64 x.2)).drew).ownsRow B 39 2 (.slice (some ⟨g, 0, none⟩) N cp) N (flat encPr ((row.set (ai) y).set (bi) x))) := Lib.hid (own_upd0 (by rw [flat_set2]; exact own_set (own_set O3.out _ _) _ _) ((Upd.refl [] _).drew))
      have U4 : Hid (Upd [g] wr (((((wr.setCell ⟨g, (ai) * 2, none⟩ (.int .i64 y.1)).setCell ⟨g, (ai) * 2 + 1, none⟩ (.int .i64 y.2)).setCell ⟨g, (bi) * 2, none⟩ (.int .i64 x.1)).setCell ⟨g, (bi) * 2 + 1, none⟩ (.int .i64 x.2)).drew)) := Lib.hid ((((((Upd.refl [g] wr).setCell (.inl (by simp)) _).setCell (.inl (by simp)) _).setCell (.inl (by simp)) _).setCell (.inl (by simp)) _).drew)
      clear hxi hxj hz O3'
      go_region
      clear f1 f2 f3 f4 f5 f6 fz fl O2n O3
      generalize (((((wr.setCell ⟨g, (ai) * 2, none⟩ (.int .i64 y.1)).setCell ⟨g, (ai) * 2 + 1, none⟩ (.int .i64 y.2)).setCell ⟨g, (bi) * 2, none⟩ (.int .i64 x.1)).setCell ⟨g, (bi) * 2 + 1, none⟩ (.int .i64 x.2)).drew) = W4 at *
      have O5 : Hid (Ow encPr 39 W4 B (.slice (some ⟨g, 0, none⟩) N cp) (swapL row (ai) (bi))) := Lib.hid (by
        unfold swapL
        rw [HXI.out, HXJ.out]
        unfold Ow
        rw [List.length_set, List.length_set, HN.out]
        exact O4.out)
      clear O4 HXI HXJ HJL
      have O6 : Hid (Ow encPr 39 W4 B (.slice (some ⟨g, 0, none⟩) N cp) (P ++ (Y.take (i + 1) ++ (X.drop (i + 1) ++ (M ++ (X.take (i + 1) ++ (Y.drop (i + 1) ++ S))))))) := Lib.hid (by
        have := O5.out
        rw [SP.out] at this
        rw [HTX.out, HTY.out]
        simpa only [List.append_assoc, List.cons_append, List.nil_append] using this)
      have U6 : Hid (Upd [g] w W4) := Lib.hid (UI.out.trans U4.out)
      clear O5 U4 OW
      go_wp2_with fail
      go_roundw
      case rel => exact ⟨i + 1, by go_num, by omega, O6, U6⟩
      case measure => simp [intOf]; omega
    · obtain rfl : i = n := by omega
      go_wp2_with fail
      go_end0
      refine ⟨rfl, ?_, UI.out⟩
      have := OI.out
      rw [List.take_of_length_le (l := Y) (by rw [HY.out]; exact Nat.le_refl _), List.take_of_length_le (l := X) (by rw [HX.out]; exact Nat.le_refl _), List.drop_of_length_le (l := Y) (by rw [HY.out]; exact Nat.le_refl _), List.drop_of_length_le (l := X) (by rw [HX.out]; exact Nat.le_refl _)] at this
      simpa using this
set_option maxRecDepth 100000 in
set_option maxHeartbeats 8000000 in
theorem rot_ok (B g N cp : Nat) (P X Y S : PL) (a m b : Nat) (w : World) (ho : Ow encPr 39 w B (.slice (some ⟨g, 0, none⟩) N cp) (P ++ (X ++ (Y ++ S)))) (hn : (P ++ (X ++ (Y ++ S))).length = N) (ha : P.length = a) (hx : a + X.length = m) (hy : m + Y.length = b) (h1 : a < m) (h2 : m < b) (hN : N ≤ 1000) :
    Calls Tryd.prog 63 #[.slice (some ⟨g, 0, none⟩) N cp, .int .i64 a, .int .i64 m, .int .i64 b, byK] w fun e w' => e = .returned (.tuple #[]) ∧ Ow encPr 39 w' B (.slice (some ⟨g, 0, none⟩) N cp) (P ++ (Y ++ (X ++ S))) ∧ Upd [g] w w' := by
  have HO := Lib.hid ho
  have HA := Lib.hid ha
  have HX := Lib.hid hx
  have HY := Lib.hid hy
  have hbN : b ≤ N := by
    simp only [List.length_append] at hn
    omega
  clear ho hn ha hx hy
  unfold byK
  go_enter Tryd.func63, Tryd.ntmps63
  go_wp2_with fail
  go_loopw [10, 11] (fun v u wr => ∃ (i j : Nat) (P' X' Y' S' : PL), v = .int .i64 i ∧ u = .int .i64 j ∧ 0 < i ∧ 0 < j ∧ i ≤ m ∧ m + j ≤ N ∧ Hid (P'.length = m - i ∧ X'.length = i ∧ Y'.length = j ∧ P' ++ (Y' ++ (X' ++ S')) = P ++ (Y ++ (X ++ S))) ∧ Hid (Ow encPr 39 wr B (.slice (some ⟨g, 0, none⟩) N cp) (P' ++ (X' ++ (Y' ++ S')))) ∧ Hid (Upd [g] w wr)) (fun v u _ => (intOf v).toNat + (intOf u).toNat)
  case atStart => exact ⟨m - a, b - m, P, X, Y, S, by go_num, by go_num, by omega, by omega, by omega, by omega, Lib.hid ⟨by have := HA.out; omega, by have := HX.out; omega, by have := HY.out; omega, rfl⟩, HO, Lib.hid (.refl _ _)⟩
  case round =>
    obtain ⟨i, j, P', X', Y', S', rfl, rfl, hi, hj, him, hjN, HL, OI, UI⟩ := hrel
    rename World => wr
    have hnr : Hid ((P' ++ (X' ++ (Y' ++ S'))).length = N) := Lib.hid (by obtain ⟨A9, c9, e9, _⟩ := own_slice OI.out; injection e9 with _ e9; exact e9.symm)
    obtain ⟨mi, hmi⟩ : ∃ mi, m - i = mi := ⟨_, rfl⟩
    have q5 : (m : Int) - (i : Int) = (mi : Int) := by omega
    have q5w : IntKind.i64.wrap (mi : Int) = (mi : Int) := by rw [IntKind.wrap_i64]; omega
    by_cases hij : i = j
    · subst hij
      have d1 : ((i : Int) != (i : Int)) = false := by simp
      have HMI := Lib.hid hmi
      clear hmi
      go_wp2_with fail
      refine (swapr_ok B g N cp P' X' [] Y' S' mi m i wr OI.out hnr.out (by rw [HL.out.1]; exact HMI.out) HL.out.2.1 HL.out.2.2.1 (by have := HMI.out; simp; omega) hN).mono ?_
      rintro e w2 ⟨rfl, o2, u2⟩
      have O2 := Lib.hid o2
      have U2 := Lib.hid (UI.out.trans u2)
      clear o2 u2
      go_wp2_with fail
      go_end0
      refine ⟨rfl, ?_, U2.out⟩
      rw [← HL.out.2.2.2]
      exact O2.out
    · by_cases hgt : j < i
      · have d1 : ((i : Int) != (j : Int)) = true := by simp; omega
        have d2 : decide ((j : Int) < (i : Int)) = true := by simp; omega
        have hX : X'.take j ++ X'.drop j = X' := List.take_append_drop j X'
        have hl1 : (X'.take j).length = j := by rw [List.length_take, HL.out.2.1]; omega
        have hl2 : (X'.drop j).length = i - j := by rw [List.length_drop, HL.out.2.1]
        have H1 := Lib.hid hX
        have H2 := Lib.hid hl1
        have H3 := Lib.hid hl2
        obtain ⟨ij, hijd⟩ : ∃ ij, i - j = ij := ⟨_, rfl⟩
        have q6 : (i : Int) - (j : Int) = (ij : Int) := by omega
        have HMI := Lib.hid hmi
        have HIJ := Lib.hid hijd
        clear hX hl1 hl2 hmi hijd
        go_wp2_with fail
        refine (swapr_ok B g N cp P' (X'.take j) (X'.drop j) Y' S' mi m j wr (by have := OI.out; rw [← H1.out, List.append_assoc] at this; exact this) (by have := hnr.out; rw [← H1.out, List.append_assoc] at this; exact this) (by rw [HL.out.1]; exact HMI.out) H2.out HL.out.2.2.1 (by have := HMI.out; have := HIJ.out; rw [H3.out]; omega) hN).mono ?_
        rintro e w2 ⟨rfl, o2, u2⟩
        have O2 : Hid (Ow encPr 39 w2 B (.slice (some ⟨g, 0, none⟩) N cp) ((P' ++ Y') ++ (X'.drop j ++ (X'.take j ++ S')))) := Lib.hid (by rw [List.append_assoc]; exact o2)
        have U2 := Lib.hid (UI.out.trans u2)
        have HL2 : Hid ((P' ++ Y').length = m - ij ∧ (X'.drop j).length = ij ∧ (X'.take j).length = j ∧ (P' ++ Y') ++ (X'.take j ++ (X'.drop j ++ S')) = P ++ (Y ++ (X ++ S))) := Lib.hid ⟨by have := HIJ.out; rw [List.length_append, HL.out.1, HL.out.2.2.1]; omega, by rw [H3.out]; exact HIJ.out, H2.out, by rw [← HL.out.2.2.2, ← List.append_assoc (X'.take j), H1.out, List.append_assoc]⟩
        clear o2 u2
        go_wp2_with fail
        go_roundw
        case rel => exact ⟨ij, j, P' ++ Y', X'.drop j, X'.take j, S', by go_num, rfl, by have := HIJ.out; omega, by omega, by have := HIJ.out; omega, by omega, HL2, O2, U2⟩
        case measure => (have := HIJ.out; simp [intOf]; omega)
      · have d1 : ((i : Int) != (j : Int)) = true := by simp; omega
        have d2 : decide ((j : Int) < (i : Int)) = false := by simp; omega
        obtain ⟨ji, hjid⟩ : ∃ ji, j - i = ji := ⟨_, rfl⟩
        have hY : Y'.take ji ++ Y'.drop ji = Y' := List.take_append_drop ji Y'
        have hl1 : (Y'.take ji).length = ji := by rw [List.length_take, HL.out.2.2.1]; omega
        have hl2 : (Y'.drop ji).length = i := by rw [List.length_drop, HL.out.2.2.1]; omega
        have H1 := Lib.hid hY
        have H2 := Lib.hid hl1
        have H3 := Lib.hid hl2
        have q6 : (j : Int) - (i : Int) = (ji : Int) := by omega
        obtain ⟨mj, hmj⟩ : ∃ mj, m + ji = mj := ⟨_, rfl⟩
        have q7 : (m : Int) + (j : Int) - (i : Int) = (mj : Int) := by omega
        have q7w : IntKind.i64.wrap (mj : Int) = (mj : Int) := by rw [IntKind.wrap_i64]; omega
        have HMI := Lib.hid hmi
        have HJI := Lib.hid hjid
        have HMJ := Lib.hid hmj
        clear hY hl1 hl2 hmi hjid hmj
        go_wp2_with fail
        refine (swapr_ok B g N cp P' X' (Y'.take ji) (Y'.drop ji) S' mi mj i wr (by have := OI.out; rw [← H1.out, List.append_assoc (Y'.take ji)] at this; exact this) (by have := hnr.out; rw [← H1.out, List.append_assoc (Y'.take ji)] at this; exact this) (by rw [HL.out.1]; exact HMI.out) HL.out.2.1 H3.out (by have := HMI.out; have := HJI.out; have := HMJ.out; rw [H2.out]; omega) hN).mono ?_
        rintro e w2 ⟨rfl, o2, u2⟩
        have O2 := Lib.hid o2
        have U2 := Lib.hid (UI.out.trans u2)
        have HL2 : Hid (P'.length = m - i ∧ (Y'.drop ji).length = i ∧ (Y'.take ji).length = ji ∧ P' ++ (Y'.take ji ++ (Y'.drop ji ++ (X' ++ S'))) = P ++ (Y ++ (X ++ S))) := Lib.hid ⟨HL.out.1, H3.out, H2.out, by rw [← HL.out.2.2.2, ← List.append_assoc (Y'.take ji), H1.out]⟩
        clear o2 u2
        go_wp2_with fail
        go_roundw
        case rel => exact ⟨i, ji, P', Y'.drop ji, Y'.take ji, X' ++ S', rfl, by go_num, by omega, by have := HJI.out; omega, by omega, by have := HJI.out; omega, HL2, O2, U2⟩
        case measure => (have := HJI.out; simp [intOf]; omega)
end Go.Proofs.YthdjbflbhgbckaaDoor

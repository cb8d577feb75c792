/-
  concordref09: Deep, Waits, Colls.
-/
import Derived.Test.YtblfklnnojhadaaDoorCollV
import Derived.Test.YtblfklnnojhadaaDoorRefR
import Derived.Test.YtblfklnnojhadaaDoorPPlain
import Derived.Test.YtblfklnnojhadaaDoorDrwV
set_option linter.unusedVariables false
namespace Go.Proofs.YtblfklnnojhadaaDoor.Drw
open Go.RowKit Colls
attribute [local go_sem] litStep_value

theorem maxD_take {L : List (Stm × Nat)} {k : Nat} {x : Stm} {d : Nat} (h : L[k]? = some (x, d)) : maxD 0 (L.take (k + 1)) = max (maxD 0 (L.take k)) (d : Int) := by
  rw [List.take_add_one, h, maxD_append]
  rfl
set_option maxRecDepth 100000 in
set_option maxHeartbeats 2000000 in
theorem ref_deep_ok (l : List Stm) (v : Value) (w : World) (hv : Stms w w.heap.size v l) (hl : sizes l ≤ 900000) :
    Calls Tryd.prog 20 #[v] w fun e w' => e = .returned (.int .i64 (deepR l)) ∧ Upd [] w w' := by
  have HV := Lib.hid hv
  have HR : Hid (deepR l = maxD 0 (linesOf 1 l)) := Lib.hid (deepR_eq l)
  have HLN := Lib.hid (lines_sizes _ l 1 (Nat.le_refl _))
  clear hv
  go_enter Tryd.func20, Tryd.ntmps20
  go_wp2_with fail
  refine (lines_all l v w HV.out hl).mono ?_; rintro e w1 ⟨v1, rfl, hla, u1⟩
  have HLA := Lib.hid hla
  have U1 := Lib.hid u1
  obtain ⟨A1, c1, rfl, hc1, hc2, _⟩ := hla.slice
  obtain ⟨L, hL⟩ : ∃ L, linesOf 1 l = L := ⟨_, rfl⟩
  rw [hL] at HLA HLN HR hc1
  rw [hL]
  have hln : L.length ≤ 900000 := by rw [HLN.out]; exact hl
  clear hla u1 hL
  obtain ⟨m, hm⟩ : ∃ m, L.length = m := ⟨_, rfl⟩
  rw [hm] at HLA hc1 hln ⊢
  have HM := Lib.hid hm
  clear hm HLN
  go_wp2_with fail
  go_loopw [3, 5] (fun n i wr => ∃ (k : Nat) (t : Int), n = .int .i64 t ∧ i = .int .i64 k ∧ k ≤ m ∧ Hid (maxD 0 (L.take k) = t) ∧ Hid (Upd [] w1 wr)) (fun _ i _ => m - (intOf i).toNat)
  case atStart => exact ⟨0, 0, rfl, rfl, by omega, Lib.hid rfl, Lib.hid (.refl _ _)⟩
  case round =>
    obtain ⟨k, t, rfl, rfl, hk, KR, KU⟩ := hrel
    by_cases hkm : k < m
    · obtain ⟨⟨x, d⟩, hx⟩ : ∃ x, L[k]? = some x := ⟨_, List.getElem?_eq_getElem (by rw [HM.out]; exact hkm)⟩
      obtain ⟨a1, a2, a3, a4, a5, a6, a7, bo, el⟩ := x
      obtain ⟨A2, c2, e2, _, _, hh⟩ := (HLA.out.keep U1.out.size KU.out).slice
      injection e2 with e2 e4 e3
      clear e4
      subst e2 e3
      obtain ⟨ad, vb, ve, rfl, hlt, hsb, hse, c0, cj⟩ := hh k a1 a2 a3 a4 a5 a6 a7 bo el d hx
      have HX := Lib.hid (maxD_take hx)
      have c9 := cj 8 _ rfl
      clear cj hsb hse hx hh c0
      by_cases hd : t < (d : Int)
      · have d1 : decide (t < (d : Int)) = true := by simpa using hd
        have HZ : Hid (maxD 0 (L.take (k + 1)) = (d : Int)) := Lib.hid (by rw [HX.out, KR.out]; omega)
        clear hd
        go_wp2_with fail
        go_roundw
        case rel => exact ⟨k + 1, d, rfl, by go_num, by omega, HZ, KU⟩
        case measure => simp [intOf]; omega
      · have d1 : decide (t < (d : Int)) = false := by simpa using hd
        have HZ : Hid (maxD 0 (L.take (k + 1)) = t) := Lib.hid (by rw [HX.out, KR.out]; omega)
        clear hd
        go_wp2_with fail
        go_roundw
        case rel => exact ⟨k + 1, t, rfl, by go_num, by omega, HZ, KU⟩
        case measure => simp [intOf]; omega
    · obtain rfl : m = k := by omega
      have HZ : Hid (deepR l = t) := Lib.hid (by rw [HR.out, ← KR.out, List.take_of_length_le (by rw [HM.out]; exact Nat.le_refl _)])
      go_wp2_with fail
      go_ret
      rw [HZ.out]
      exact ⟨rfl, U1.out.trans KU.out⟩

def is15 (p : Stm × Nat) : Bool := match p.1 with | .mk k _ _ _ _ _ _ _ _ => k == 15
theorem waitsW : ∀ (L : List (Stm × Nat)) (s : Bool) (i : Nat), (walkF (σ := Bool) (fun s n _ x => match x with | .mk k _ _ _ _ _ _ _ _ => (!(k == 15), k == 15)) L s i).2.1 = if L = [] then s else L.any is15
  | [], s, i => rfl
  | (.mk k _ _ _ _ _ _ _ _, d) :: L, s, i => by
    unfold walkF
    simp only [List.any_cons]
    by_cases hk : k = 15
    · subst hk
      simp [is15]
    · have h1 : (k == 15) = false := by simpa using hk
      simp only [h1, Bool.not_false, is15, Bool.false_or]
      rw [waitsW L false (i + 1)]
      cases L with
      | nil => rfl
      | cons y L => simp
theorem waitsR_eq (l : List Stm) : waitsR l = (linesOf 1 l).any is15 := by
  refine Eq.trans (show waitsR l = if linesOf 1 l = [] then false else (linesOf 1 l).any is15 from waitsW (linesOf 1 l) false 0) ?_
  split
  · rename_i h; rw [h]; rfl
  · rfl
set_option maxRecDepth 100000 in
set_option maxHeartbeats 2000000 in
theorem ref_waits_ok (l : List Stm) (v : Value) (w : World) (hv : Stms w w.heap.size v l) (hl : sizes l ≤ 900000) :
    Calls Tryd.prog 25 #[v] w fun e w' => e = .returned (.bool (waitsR l)) ∧ Upd [] w w' := by
  have HV := Lib.hid hv
  have HR : Hid (waitsR l = ((linesOf 1 l).drop 0).any is15) := Lib.hid (waitsR_eq l)
  have HLN := Lib.hid (lines_sizes _ l 1 (Nat.le_refl _))
  clear hv
  go_enter Tryd.func25, Tryd.ntmps25
  go_wp2_with fail
  refine (lines_all l v w HV.out hl).mono ?_; rintro e w1 ⟨v1, rfl, hla, u1⟩
  have HLA := Lib.hid hla
  have U1 := Lib.hid u1
  obtain ⟨A1, c1, rfl, hc1, hc2, _⟩ := hla.slice
  obtain ⟨L, hL⟩ : ∃ L, linesOf 1 l = L := ⟨_, rfl⟩
  rw [hL] at HLA HLN HR hc1
  rw [hL]
  have hln : L.length ≤ 900000 := by rw [HLN.out]; exact hl
  clear hla u1 hL
  obtain ⟨m, hm⟩ : ∃ m, L.length = m := ⟨_, rfl⟩
  rw [hm] at HLA hc1 hln ⊢
  have HM := Lib.hid hm
  clear hm HLN
  go_wp2_with fail
  go_loopw [4] (fun i wr => ∃ (k : Nat), i = .int .i64 k ∧ k ≤ m ∧ Hid (waitsR l = (L.drop k).any is15) ∧ Hid (Upd [] w1 wr)) (fun i _ => m - (intOf i).toNat)
  case atStart => exact ⟨0, rfl, by omega, HR, Lib.hid (.refl _ _)⟩
  case round =>
    obtain ⟨k, rfl, hk, KR, KU⟩ := hrel
    by_cases hkm : k < m
    · obtain ⟨⟨x, d⟩, hx⟩ : ∃ x, L[k]? = some x := ⟨_, List.getElem?_eq_getElem (by rw [HM.out]; exact hkm)⟩
      obtain ⟨a1, a2, a3, a4, a5, a6, a7, bo, el⟩ := x
      obtain ⟨A2, c2, e2, _, _, hh⟩ := (HLA.out.keep U1.out.size KU.out).slice
      injection e2 with e2 e4 e3
      clear e4
      subst e2 e3
      obtain ⟨ad, vb, ve, rfl, hlt, hsb, hse, c0, cj⟩ := hh k a1 a2 a3 a4 a5 a6 a7 bo el d hx
      have HX : Hid (waitsR l = ((a1 == 15) || (L.drop (k + 1)).any is15)) := Lib.hid (by
        obtain ⟨hl, he⟩ := List.getElem?_eq_some_iff.1 hx
        rw [KR.out, List.drop_eq_getElem_cons hl, he]
        rfl)
      clear cj hsb hse hx hh
      by_cases hd : a1 = 15
      · subst hd
        have HZ : Hid (waitsR l = true) := Lib.hid (by rw [HX.out]; rfl)
        go_wp2_with fail
        go_ret
        rw [HZ.out]
        exact ⟨rfl, U1.out.trans KU.out⟩
      · have d1 : (a1 == 15) = false := by simpa using hd
        have HZ : Hid (waitsR l = (L.drop (k + 1)).any is15) := Lib.hid (by rw [HX.out, d1]; rfl)
        clear hd
        go_wp2_with fail
        go_roundw
        case rel => exact ⟨k + 1, by go_num, by omega, HZ, KU⟩
        case measure => simp [intOf]; omega
    · obtain rfl : m = k := by omega
      have HZ : Hid (waitsR l = false) := Lib.hid (by rw [KR.out, List.drop_eq_nil_of_le (by rw [HM.out]; exact Nat.le_refl _)]; rfl)
      go_wp2_with fail
      go_ret
      rw [HZ.out]
      exact ⟨rfl, U1.out.trans KU.out⟩

theorem allI_snoc (cs : List Int) (c : Int) : allI (cs ++ [c]) = insI (allI cs) c := by unfold allI; rw [List.foldl_append]; rfl
theorem collsL_append (L M : List (Stm × Nat)) : collsL (L ++ M) = collsL L ++ collsL M := List.filterMap_append
theorem colls_take {L : List (Stm × Nat)} {k : Nat} {x : Stm × Nat} (h : L[k]? = some x) : allI (collsL (L.take (k + 1))) = match collOf x.1 with | some c => insI (allI (collsL (L.take k))) c | none => allI (collsL (L.take k)) := by
  rw [List.take_add_one, h, collsL_append]
  show allI (collsL (L.take k) ++ collsL [x]) = _
  rw [collsL_cons]
  cases collOf x.1 with
  | none => simp [collsL]
  | some c => simp only [collsL, List.filterMap_nil, List.append_nil]; exact allI_snoc _ _
/-- The document's collections so far. -/
structure RC (w1 w wr : World) (L : List (Stm × Nat)) (k N : Nat) (out : List Int) (v : Value) : Prop where
  len : out.length = N
  eq : out = allI (collsL (L.take k))
  ow : wr.ownsRow w.heap.size 3 1 v N (out.map (Value.int .i64))
  u : Upd [] w1 wr
set_option maxRecDepth 100000 in
set_option maxHeartbeats 4000000 in
theorem ref_colls_ok (l : List Stm) (v : Value) (w : World) (hv : Stms w w.heap.size v l) (hl : sizes l ≤ 900000) :
    Calls Tryd.prog 23 #[v] w fun e w' => ∃ v', e = .returned v' ∧ w'.ownsRow w.heap.size 3 1 v' (collsR l).length ((collsR l).map (Value.int .i64)) ∧ Upd [] w w' := by
  have HV := Lib.hid hv
  have HR : Hid (collsR l = allI (collsL (linesOf 1 l))) := Lib.hid rfl
  have HLN := Lib.hid (lines_sizes _ l 1 (Nat.le_refl _))
  clear hv
  go_enter Tryd.func23, Tryd.ntmps23
  go_wp2_with fail
  refine (lines_all l v w HV.out hl).mono ?_; rintro e w1 ⟨v1, rfl, hla, u1⟩
  have HLA := Lib.hid hla
  have U1 := Lib.hid u1
  obtain ⟨A1, c1, rfl, hc1, hc2, _⟩ := hla.slice
  obtain ⟨L, hL⟩ : ∃ L, linesOf 1 l = L := ⟨_, rfl⟩
  rw [hL] at HLA HLN HR hc1
  rw [hL]
  have hln : L.length ≤ 900000 := by rw [HLN.out]; exact hl
  clear hla u1 hL
  obtain ⟨m, hm⟩ : ∃ m, L.length = m := ⟨_, rfl⟩
  rw [hm] at HLA hc1 hln ⊢
  have HM := Lib.hid hm
  clear hm HLN
  have Z1 : Hid (w.heap.size ≤ w1.heap.size) := Lib.hid U1.out.size
  go_wp2_with fail
  go_loopw [3, 5] (fun u i wr => ∃ (k N : Nat) (out : List Int) (A : Option Addr) (c : Nat), u = .slice A N c ∧ i = .int .i64 k ∧ k ≤ m ∧ N ≤ k ∧ Hid (RC w1 w wr L k N out (.slice A N c))) (fun _ i _ => m - (intOf i).toNat)
  case atStart => exact ⟨0, 0, [], none, 0, rfl, rfl, by omega, by omega, Lib.hid ⟨rfl, rfl, own_nil _ _ _ _, .refl _ _⟩⟩
  case round =>
    obtain ⟨k, N, out, A, c, rfl, rfl, hk, hN, KR⟩ := hrel
    by_cases hkm : k < m
    · obtain ⟨⟨x, d⟩, hx⟩ : ∃ x, L[k]? = some x := ⟨_, List.getElem?_eq_getElem (by rw [HM.out]; exact hkm)⟩
      obtain ⟨a1, a2, a3, a4, a5, a6, a7, bo, el⟩ := x
      obtain ⟨A2, c2, e2, _, _, hh⟩ := (HLA.out.keep U1.out.size KR.out.u).slice
      injection e2 with e2 e4 e3
      clear e4
      subst e2 e3
      obtain ⟨ad, vb, ve, rfl, hlt, hsb, hse, c0, cj⟩ := hh k a1 a2 a3 a4 a5 a6 a7 bo el d hx
      have HX := Lib.hid (colls_take hx)
      have cc := cj 0 _ rfl
      clear cj hsb hse hx hh
      by_cases hk8 : 1 ≤ a1 ∧ a1 ≤ 8
      · have k1 : decide (a1 < (1 : Int)) = false := by simp; omega
        have k2 : decide ((8 : Int) < a1) = false := by simp; omega
        have HY : Hid (allI (collsL (L.take (k + 1))) = insI out a2) := Lib.hid (by
          rw [HX.out]
          show (match collOf (Stm.mk a1 a2 a3 a4 a5 a6 a7 bo el) with | some c => insI (allI (collsL (L.take k))) c | none => allI (collsL (L.take k))) = _
          rw [show collOf (Stm.mk a1 a2 a3 a4 a5 a6 a7 bo el) = some a2 by unfold collOf; exact if_pos hk8]
          show insI (allI (collsL (L.take k))) a2 = _
          rw [← KR.out.eq])
        clear hk8
        go_wp2_with fail
        refine (in_ok a2 (.slice A N c) N out wr (Src.of_own KR.out.ow) (by omega)).mono ?_; rintro e wz ⟨rfl, rfl⟩
        cases hin : inB a2 out with
        | true =>
          have HZ : Hid (RC w1 w wr L (k + 1) N out (.slice A N c)) := Lib.hid ⟨KR.out.len, by rw [HY.out, ins_in (by unfold inB at hin; simpa using hin)], KR.out.ow, KR.out.u⟩
          clear hin
          go_wp2_with fail
          go_roundw
          case rel => exact ⟨k + 1, N, out, A, c, rfl, by go_num, by omega, by omega, HZ⟩
          case measure => simp [intOf]; omega
        | false =>
          have NI : Hid (a2 ∉ out) := Lib.hid (by unfold inB at hin; simpa using hin)
          have hcc : N ≤ c ∧ c ≤ maxLen := by
            obtain ⟨_, c', e', h1, h2⟩ := own_slice KR.out.ow
            injection e' with _ _ e'
            subst e'
            exact ⟨h1, h2⟩
          obtain ⟨hnc, hcm⟩ := hcc
          unfold maxLen at hcm
          clear hin
          go_wp2_with fail
          go_loopw [7] (fun u wk => ∃ j : Nat, u = .int .i64 j ∧ j ≤ N ∧ Hid (∀ i, i < j → out.getD i 0 < a2) ∧ Hid (Upd [] wr wk)) (fun u _ => N - (intOf u).toNat)
          case atStart => exact ⟨0, rfl, by omega, Lib.hid (fun i hi => by omega), Lib.hid (.refl _ _)⟩
          case round =>
            obtain ⟨j, rfl, hj, HJ, JU⟩ := hrel
            rename World => wj
            have q1 : (0 : Int) ≤ (j : Int) := by omega
            have q3 : (j : Int) ≤ (c : Int) := by omega
            have q4 : (N : Int) ≤ (c : Int) := by omega
            have q5 : (j : Int) ≤ (N : Int) := by omega
            by_cases hjN : j < N
            · obtain ⟨z, hz⟩ : ∃ z, out[j]? = some z := ⟨_, List.getElem?_eq_getElem (by rw [KR.out.len]; exact hjN)⟩
              have HZD : Hid (out.getD j 0 = z) := Lib.hid (by rw [List.getD_eq_getElem?_getD, hz]; rfl)
              obtain ⟨g, cg, cur, e1, -⟩ := own_form KR.out.ow (by omega)
              injection e1 with e1 e2 e1'
              subst e1 e1'
              have cz : wj.cell? ⟨g, j, none⟩ = some (.int .i64 z) := own_cell (own_upd0 KR.out.ow JU.out) j _ (by rw [List.getElem?_map, hz]; rfl)
              have q2 : (j : Int) < (N : Int) := by omega
              clear hz e2
              by_cases hb : z < a2
              · have d1 : decide (z < a2) = true := by simpa using hb
                have HZ : Hid (∀ i, i < j + 1 → out.getD i 0 < a2) := Lib.hid (fun i hi => by
                  by_cases e : i = j
                  · rw [e, HZD.out]; exact hb
                  · exact HJ.out i (by omega))
                clear hb
                go_wp2_with fail
                go_roundw
                case rel => exact ⟨j + 1, by go_num, by omega, HZ, JU⟩
                case measure => simp [intOf]; omega
              · have d1 : decide (z < a2) = false := by simpa using hb
                have HE : Hid (out.length = j ∨ ¬ out.getD j 0 < a2) := Lib.hid (.inr (by rw [HZD.out]; exact hb))
                clear hb
                go_wp2_with fail
                clear cz
                have W2 : Hid (Upd [] w1 wj) := Lib.hid (KR.out.u.trans JU.out)
                have F1 : Hid (∀ W, Upd [] wj.drew W → Src W 1 (.slice (some (⟨g, 0, none⟩ : Addr)) j c) j ((out.take j).map (Value.int .i64))) := Lib.hid (fun W hW => by
                  have hu : Upd [] wr W := JU.out.trans ((Upd.refl [] wj).drew.trans hW)
                  have := (Src.of_own (own_upd0 KR.out.ow hu)).take j hj c
                  rwa [Nat.mul_one, ← List.map_take] at this)
                obtain ⟨X, hX, hXo, hXs⟩ := cut_tail int_elem (some (⟨g, 0, none⟩ : Addr)) N c j hj hnc
                have F2 : Hid (∀ W, Upd [] wj.drew W → Src W 1 X (N - j) ((out.drop j).map (Value.int .i64))) := Lib.hid (fun W hW => by
                  have hu : Upd [] wr W := JU.out.trans ((Upd.refl [] wj).drew.trans hW)
                  have := hXs _ _ (Src.of_own (own_upd0 KR.out.ow hu))
                  rwa [show (out.map (Value.int .i64)).drop (j * 1) = (out.drop j).map (Value.int .i64) by rw [Nat.mul_one, ← List.map_drop]] at this)
                clear hXo hXs
                have SZ : Hid (w.heap.size ≤ wj.heap.size) := Lib.hid (Nat.le_trans Z1.out W2.out.size)
                have EQ : Hid (((out.take j).map (Value.int .i64)) ++ [Value.int .i64 a2] ++ ((out.drop j).map (Value.int .i64)) = (insI out a2).map (Value.int .i64) ∧ (insI out a2).length = N + 1) := Lib.hid (by
                  rw [ins_at NI.out (by rw [KR.out.len]; exact hj) HJ.out (by rcases HE.out with h | h; exact .inl h; exact .inr (by omega))]
                  refine ⟨by simp, ?_⟩
                  simp [KR.out.len]; omega)
                have NL : N ≤ 900000 := by omega
                go_wp2_with fail
                refine wp_invN [(0, .own w.heap.size 3 1 0 []), (4, .own w.heap.size 3 1 j ((out.take j).map (Value.int .i64))), (6, .lit 3 #[.int .i64 a2] 1), (7, .own w.heap.size 3 1 (j + 1) ((out.take j).map (Value.int .i64) ++ [.int .i64 a2])), (11, .own w.heap.size 3 1 (N + 1) ((out.take j).map (Value.int .i64) ++ [.int .i64 a2] ++ (out.drop j).map (Value.int .i64)))] [(4, [0]), (7, [4]), (11, [7])] (by kernel_rfl) (by kernel_rfl) (by kernel_rfl) ⟨lasts_own _ _ _ _ _ (by simp [maxLen]), lasts_own _ _ _ _ _ (by unfold maxLen; omega), lasts_lit _ _ _, lasts_own _ _ _ _ _ (by unfold maxLen; omega), lasts_own _ _ _ _ _ (by unfold maxLen; omega), trivial⟩ ?_
                refine wpV_heavy (by simp only [lightOp]) (by rfl) (fun W hU hk hF K hK => ?_) ?_
                · go_wp2_with fail
                  exact wpV_made hK rfl rfl rfl rfl (Nat.le_trans SZ.out hU.size)
                rintro _ ⟨B1, b1, rfl, _, _⟩
                simp only [Act.put, List.setIfInBounds_toArray, List.set_cons_zero, List.set_cons_succ]
                with_reducible apply wpV_light
                · simp only [lightOp]
                · intro W hU hF
                  clear hU hF
                  go_simp
                  exact rfl
                simp only [Act.put, List.setIfInBounds_toArray, List.set_cons_zero, List.set_cons_succ]
                with_reducible apply wpV_light
                · simp only [lightOp]
                · intro W hU hF
                  clear hU hF
                  go_simp
                  exact rfl
                simp only [Act.put, List.setIfInBounds_toArray, List.set_cons_zero, List.set_cons_succ]
                with_reducible apply wpV_light
                · simp only [lightOp]
                · intro W hU hF
                  clear hU hF
                  go_simp
                  exact rfl
                simp only [Act.put, List.setIfInBounds_toArray, List.set_cons_zero, List.set_cons_succ]
                refine wpV_heavy (by simp only [lightOp]) (by rfl) (fun W hU hk hF K hK => ?_) ?_
                · exact wpV_app hK (.tmp 57) (.tmp 60) _ (by rfl) int_elem _ _ (by rfl) (by rfl) rfl rfl (by simp [usedV, mkI, conOf, specOf, Spec.own]) (hF.out.1 (by kernel_rfl)) (F1.out W hU) (by omega) (by simp) (by intro u hu; obtain ⟨x, _, rfl⟩ := List.mem_map.1 hu; rfl) (by unfold maxLen; omega) (by omega) (Nat.le_trans SZ.out hU.size)
                rintro _ ⟨B2, b2, rfl, _, _⟩
                simp only [Act.put, List.setIfInBounds_toArray, List.set_cons_zero, List.set_cons_succ]
                with_reducible apply wpV_light
                · simp only [lightOp]
                · intro W hU hF
                  clear hU hF
                  go_simp
                  exact rfl
                simp only [Act.put, List.setIfInBounds_toArray, List.set_cons_zero, List.set_cons_succ]
                refine wpV_heavy (by simp only [lightOp]) (by rfl) (fun W hU hk hF K hK => ?_) ?_
                · go_wp2_with fail
                  exact wpV_lit hK rfl rfl rfl
                rintro _ ⟨g3, rfl⟩
                simp only [Act.put, List.setIfInBounds_toArray, List.set_cons_zero, List.set_cons_succ]
                refine wpV_heavy (by simp only [lightOp]) (by rfl) (fun W hU hk hF K hK => ?_) ?_
                · obtain ⟨g', he, hbl⟩ := hF.out.2.2.1 (by kernel_rfl)
                  injection he with he _ _
                  injection he with he
                  injection he with he
                  subst he
                  exact wpV_app hK (.tmp 61) (.tmp 63) _ (by rfl) int_elem _ _ (by rfl) (by rfl) rfl rfl (by simp [usedV, mkI, conOf, specOf, Spec.own]) (hF.out.2.1 (by kernel_rfl)) (.of_blk hbl (m := 1) 1 rfl) (by omega) (by simp) (by intro u hu; simp at hu; subst hu; rfl) (by unfold maxLen; omega) (by omega) (Nat.le_trans SZ.out hU.size)
                rintro _ ⟨B4, b4, rfl, _, _⟩
                simp only [Act.put, List.setIfInBounds_toArray, List.set_cons_zero, List.set_cons_succ]
                with_reducible apply wpV_light
                · simp only [lightOp]
                · intro W hU hF
                  clear hU hF
                  go_simp
                  exact rfl
                simp only [Act.put, List.setIfInBounds_toArray, List.set_cons_zero, List.set_cons_succ]
                with_reducible apply wpV_light
                · simp only [lightOp]
                · intro W hU hF
                  clear hU hF
                  go_simp
                  exact rfl
                simp only [Act.put, List.setIfInBounds_toArray, List.set_cons_zero, List.set_cons_succ]
                with_reducible apply wpV_light
                · simp only [lightOp]
                · intro W hU hF
                  clear hU hF
                  go_simp
                  exact rfl
                simp only [Act.put, List.setIfInBounds_toArray, List.set_cons_zero, List.set_cons_succ]
                refine wpV_heavy (by simp only [lightOp]) (by rfl) (fun W hU hk hF K hK => ?_) ?_
                · exact wpV_app hK (.tmp 64) (.tmp 67) _ (by rfl) int_elem _ _ (by rfl) (by rfl) rfl rfl (by simp [usedV, mkI, conOf, specOf, Spec.own]) (hF.out.2.2.2.1 (by kernel_rfl)) (F2.out W hU) (by omega) (by simp) (by intro u hu; obtain ⟨x, _, rfl⟩ := List.mem_map.1 hu; rfl) (by unfold maxLen; omega) (by omega) (Nat.le_trans SZ.out hU.size)
                rintro _ ⟨B5, b5, rfl, _, _⟩
                simp only [Act.put, List.setIfInBounds_toArray, List.set_cons_zero, List.set_cons_succ]
                with_reducible apply wpV_light
                · simp only [lightOp]
                · intro W hU hF
                  clear hU hF
                  go_simp
                  exact rfl
                simp only [Act.put, List.setIfInBounds_toArray, List.set_cons_zero, List.set_cons_succ]
                refine wpV_end (fun W hU _ hF => ?_)
                have O3 : Hid (RC w1 w W L (k + 1) (N + 1) (insI out a2) (.slice B5 (N + 1) b5)) := Lib.hid (by
                  have := hF.out.2.2.2.2.1 (by kernel_rfl)
                  exact ⟨EQ.out.2, HY.out.symm, by rw [← EQ.out.1]; exact this, W2.out.drew.trans hU⟩)
                clear hU hF
                refine wpT_end ?_
                go_wp2_with fail
                go_roundw
                case rel => exact ⟨k + 1, N + 1, _, B5, b5, rfl, by go_num, by omega, by omega, O3⟩
                case measure => simp [intOf]; omega
            · have HE : Hid (out.length = j ∨ ¬ out.getD j 0 < a2) := Lib.hid (.inl (by rw [KR.out.len]; omega))
              have dj : decide ((j : Int) < (N : Int)) = false := by simp; omega
              go_wp2_with fail
              have W2 : Hid (Upd [] w1 wj) := Lib.hid (KR.out.u.trans JU.out)
              have F1 : Hid (∀ W, Upd [] wj.drew W → Src W 1 (.slice A j c) j ((out.take j).map (Value.int .i64))) := Lib.hid (fun W hW => by
                have hu : Upd [] wr W := JU.out.trans ((Upd.refl [] wj).drew.trans hW)
                have := (Src.of_own (own_upd0 KR.out.ow hu)).take j hj c
                rwa [Nat.mul_one, ← List.map_take] at this)
              obtain ⟨X, hX, hXo, hXs⟩ := cut_tail int_elem A N c j hj hnc
              have F2 : Hid (∀ W, Upd [] wj.drew W → Src W 1 X (N - j) ((out.drop j).map (Value.int .i64))) := Lib.hid (fun W hW => by
                have hu : Upd [] wr W := JU.out.trans ((Upd.refl [] wj).drew.trans hW)
                have := hXs _ _ (Src.of_own (own_upd0 KR.out.ow hu))
                rwa [show (out.map (Value.int .i64)).drop (j * 1) = (out.drop j).map (Value.int .i64) by rw [Nat.mul_one, ← List.map_drop]] at this)
              clear hXo hXs
              have SZ : Hid (w.heap.size ≤ wj.heap.size) := Lib.hid (Nat.le_trans Z1.out W2.out.size)
              have EQ : Hid (((out.take j).map (Value.int .i64)) ++ [Value.int .i64 a2] ++ ((out.drop j).map (Value.int .i64)) = (insI out a2).map (Value.int .i64) ∧ (insI out a2).length = N + 1) := Lib.hid (by
                rw [ins_at NI.out (by rw [KR.out.len]; exact hj) HJ.out (by rcases HE.out with h | h; exact .inl h; exact .inr (by omega))]
                refine ⟨by simp, ?_⟩
                simp [KR.out.len]; omega)
              have NL : N ≤ 900000 := by omega
              go_wp2_with fail
              refine wp_invN [(0, .own w.heap.size 3 1 0 []), (4, .own w.heap.size 3 1 j ((out.take j).map (Value.int .i64))), (6, .lit 3 #[.int .i64 a2] 1), (7, .own w.heap.size 3 1 (j + 1) ((out.take j).map (Value.int .i64) ++ [.int .i64 a2])), (11, .own w.heap.size 3 1 (N + 1) ((out.take j).map (Value.int .i64) ++ [.int .i64 a2] ++ (out.drop j).map (Value.int .i64)))] [(4, [0]), (7, [4]), (11, [7])] (by kernel_rfl) (by kernel_rfl) (by kernel_rfl) ⟨lasts_own _ _ _ _ _ (by simp [maxLen]), lasts_own _ _ _ _ _ (by unfold maxLen; omega), lasts_lit _ _ _, lasts_own _ _ _ _ _ (by unfold maxLen; omega), lasts_own _ _ _ _ _ (by unfold maxLen; omega), trivial⟩ ?_
              refine wpV_heavy (by simp only [lightOp]) (by rfl) (fun W hU hk hF K hK => ?_) ?_
              · go_wp2_with fail
                exact wpV_made hK rfl rfl rfl rfl (Nat.le_trans SZ.out hU.size)
              rintro _ ⟨B1, b1, rfl, _, _⟩
              simp only [Act.put, List.setIfInBounds_toArray, List.set_cons_zero, List.set_cons_succ]
              with_reducible apply wpV_light
              · simp only [lightOp]
              · intro W hU hF
                clear hU hF
                go_simp
                exact rfl
              simp only [Act.put, List.setIfInBounds_toArray, List.set_cons_zero, List.set_cons_succ]
              with_reducible apply wpV_light
              · simp only [lightOp]
              · intro W hU hF
                clear hU hF
                go_simp
                exact rfl
              simp only [Act.put, List.setIfInBounds_toArray, List.set_cons_zero, List.set_cons_succ]
              with_reducible apply wpV_light
              · simp only [lightOp]
              · intro W hU hF
                clear hU hF
                go_simp
                exact rfl
              simp only [Act.put, List.setIfInBounds_toArray, List.set_cons_zero, List.set_cons_succ]
              refine wpV_heavy (by simp only [lightOp]) (by rfl) (fun W hU hk hF K hK => ?_) ?_
              · exact wpV_app hK (.tmp 57) (.tmp 60) _ (by rfl) int_elem _ _ (by rfl) (by rfl) rfl rfl (by simp [usedV, mkI, conOf, specOf, Spec.own]) (hF.out.1 (by kernel_rfl)) (F1.out W hU) (by omega) (by simp) (by intro u hu; obtain ⟨x, _, rfl⟩ := List.mem_map.1 hu; rfl) (by unfold maxLen; omega) (by omega) (Nat.le_trans SZ.out hU.size)
              rintro _ ⟨B2, b2, rfl, _, _⟩
              simp only [Act.put, List.setIfInBounds_toArray, List.set_cons_zero, List.set_cons_succ]
              with_reducible apply wpV_light
              · simp only [lightOp]
              · intro W hU hF
                clear hU hF
                go_simp
                exact rfl
              simp only [Act.put, List.setIfInBounds_toArray, List.set_cons_zero, List.set_cons_succ]
              refine wpV_heavy (by simp only [lightOp]) (by rfl) (fun W hU hk hF K hK => ?_) ?_
              · go_wp2_with fail
                exact wpV_lit hK rfl rfl rfl
              rintro _ ⟨g3, rfl⟩
              simp only [Act.put, List.setIfInBounds_toArray, List.set_cons_zero, List.set_cons_succ]
              refine wpV_heavy (by simp only [lightOp]) (by rfl) (fun W hU hk hF K hK => ?_) ?_
              · obtain ⟨g', he, hbl⟩ := hF.out.2.2.1 (by kernel_rfl)
                injection he with he _ _
                injection he with he
                injection he with he
                subst he
                exact wpV_app hK (.tmp 61) (.tmp 63) _ (by rfl) int_elem _ _ (by rfl) (by rfl) rfl rfl (by simp [usedV, mkI, conOf, specOf, Spec.own]) (hF.out.2.1 (by kernel_rfl)) (.of_blk hbl (m := 1) 1 rfl) (by omega) (by simp) (by intro u hu; simp at hu; subst hu; rfl) (by unfold maxLen; omega) (by omega) (Nat.le_trans SZ.out hU.size)
              rintro _ ⟨B4, b4, rfl, _, _⟩
              simp only [Act.put, List.setIfInBounds_toArray, List.set_cons_zero, List.set_cons_succ]
              with_reducible apply wpV_light
              · simp only [lightOp]
              · intro W hU hF
                clear hU hF
                go_simp
                exact rfl
              simp only [Act.put, List.setIfInBounds_toArray, List.set_cons_zero, List.set_cons_succ]
              with_reducible apply wpV_light
              · simp only [lightOp]
              · intro W hU hF
                clear hU hF
                go_simp
                exact rfl
              simp only [Act.put, List.setIfInBounds_toArray, List.set_cons_zero, List.set_cons_succ]
              with_reducible apply wpV_light
              · simp only [lightOp]
              · intro W hU hF
                clear hU hF
                go_simp
                exact rfl
              simp only [Act.put, List.setIfInBounds_toArray, List.set_cons_zero, List.set_cons_succ]
              refine wpV_heavy (by simp only [lightOp]) (by rfl) (fun W hU hk hF K hK => ?_) ?_
              · exact wpV_app hK (.tmp 64) (.tmp 67) _ (by rfl) int_elem _ _ (by rfl) (by rfl) rfl rfl (by simp [usedV, mkI, conOf, specOf, Spec.own]) (hF.out.2.2.2.1 (by kernel_rfl)) (F2.out W hU) (by omega) (by simp) (by intro u hu; obtain ⟨x, _, rfl⟩ := List.mem_map.1 hu; rfl) (by unfold maxLen; omega) (by omega) (Nat.le_trans SZ.out hU.size)
              rintro _ ⟨B5, b5, rfl, _, _⟩
              simp only [Act.put, List.setIfInBounds_toArray, List.set_cons_zero, List.set_cons_succ]
              with_reducible apply wpV_light
              · simp only [lightOp]
              · intro W hU hF
                clear hU hF
                go_simp
                exact rfl
              simp only [Act.put, List.setIfInBounds_toArray, List.set_cons_zero, List.set_cons_succ]
              refine wpV_end (fun W hU _ hF => ?_)
              have O3 : Hid (RC w1 w W L (k + 1) (N + 1) (insI out a2) (.slice B5 (N + 1) b5)) := Lib.hid (by
                have := hF.out.2.2.2.2.1 (by kernel_rfl)
                exact ⟨EQ.out.2, HY.out.symm, by rw [← EQ.out.1]; exact this, W2.out.drew.trans hU⟩)
              clear hU hF
              refine wpT_end ?_
              go_wp2_with fail
              go_roundw
              case rel => exact ⟨k + 1, N + 1, _, B5, b5, rfl, by go_num, by omega, by omega, O3⟩
              case measure => simp [intOf]; omega
      · have HY : Hid (allI (collsL (L.take (k + 1))) = out) := Lib.hid (by
          rw [HX.out]
          show (match collOf (Stm.mk a1 a2 a3 a4 a5 a6 a7 bo el) with | some c => insI (allI (collsL (L.take k))) c | none => allI (collsL (L.take k))) = _
          rw [show collOf (Stm.mk a1 a2 a3 a4 a5 a6 a7 bo el) = none by unfold collOf; exact if_neg hk8]
          show allI (collsL (L.take k)) = _
          rw [← KR.out.eq])
        have HZ : Hid (RC w1 w wr L (k + 1) N out (.slice A N c)) := Lib.hid ⟨KR.out.len, HY.out.symm, KR.out.ow, KR.out.u⟩
        by_cases h1 : a1 < 1
        · have k1 : decide (a1 < (1 : Int)) = true := by simpa using h1
          clear hk8 h1
          go_wp2_with fail
          go_roundw
          case rel => exact ⟨k + 1, N, out, A, c, rfl, by go_num, by omega, by omega, HZ⟩
          case measure => simp [intOf]; omega
        · have k1 : decide (a1 < (1 : Int)) = false := by simpa using h1
          have k2 : decide ((8 : Int) < a1) = true := by simp; omega
          clear hk8 h1
          go_wp2_with fail
          go_roundw
          case rel => exact ⟨k + 1, N, out, A, c, rfl, by go_num, by omega, by omega, HZ⟩
          case measure => simp [intOf]; omega
    · obtain rfl : m = k := by omega
      have HZ : Hid (collsR l = out) := Lib.hid (by rw [HR.out, KR.out.eq, List.take_of_length_le (by rw [HM.out]; exact Nat.le_refl _)])
      go_wp2_with fail
      go_ret
      refine ⟨_, rfl, ?_, U1.out.trans KR.out.u⟩
      rw [HZ.out, KR.out.len]
      exact KR.out.ow
end Go.Proofs.YtblfklnnojhadaaDoor.Drw

/-
  Package snap: the place of a key; Get; iterators.
-/
import Derived.Test.YthdjbflbhgbckaaDoorSnap
set_option linter.unusedVariables false
namespace Go.Proofs.YthdjbflbhgbckaaDoor
open Go.RowKit Stab Snap
attribute [local go_sem] litStep_value

/-- A key's place, or where it would stand. -/
structure FindAt (r : PL) (key : Int) (i : Nat) (b : Bool) : Prop where
  le : i ≤ r.length
  lo : ∀ j, j < i → (r.getD j default).1 < key
  hi : ∀ j, i ≤ j → j < r.length → key ≤ (r.getD j default).1
  is : b = true ↔ (i < r.length ∧ (r.getD i default).1 = key)
set_option maxRecDepth 100000 in
theorem find1_ok (a b key : Int) (w : World) : Calls Tryd.prog 51 #[.agg #[.int .i64 a, .int .i64 b], .int .i64 key] w fun e w' => e = .returned (.int .i64 (cmpI a key)) ∧ Upd [] w w' := by
  go_enter Tryd.func51, Tryd.ntmps51
  go_wp2_with fail
  refine (compare_ok a key _).mono ?_; rintro e w1 ⟨rfl, rfl⟩
  go_wp2_with fail
  go_ret
  exact ⟨rfl, (Upd.refl [] w).alloc _⟩
theorem cmpI_eq {a b : Int} : (cmpI a b == 0) = decide (a = b) := by
  unfold cmpI
  by_cases h : a < b
  · rw [if_pos h, decide_eq_false (by omega)]; rfl
  · rw [if_neg h]
    by_cases h2 : b < a
    · rw [if_pos h2, decide_eq_false (by omega)]; rfl
    · rw [if_neg h2, decide_eq_true (by omega)]; rfl
def FindPost (r : PL) (key : Int) (w : World) (e : Ending) (w' : World) : Prop := ∃ i b, e = .returned (.tuple #[.int .i64 (i : Nat), .bool b]) ∧ FindAt r key i b ∧ Upd [] w w'
set_option maxRecDepth 100000 in
set_option maxHeartbeats 4000000 in
theorem bins_ok (B : Nat) (r : PL) (A : Option Addr) (n c : Nat) (key : Int) (w : World) (h : Ow encPr 39 w B (.slice A n c) r) (hn : r.length = n) (hs : Assoc.Srt r) (hl : n ≤ 1000) :
    Calls Tryd.prog 50 #[.slice A n c, .int .i64 key, .func (.func 51) #[] #[]] w fun e w' => FindPost r key w e w' := by
  have HO := Lib.hid h
  have HN := Lib.hid hn
  have KS := Lib.hid (srt_kle hs)
  have ent : ∀ args w, (callFunc 51 args).run Tryd.prog w = .ok (.enter 51 args) w := fun args w => rfl
  clear h hn hs
  go_enter Tryd.func50, Tryd.ntmps50
  go_wp2_with fail
  go_loopw [9, 10, 11] (fun vi vj vh wr => ∃ i j : Nat, vi = .int .i64 i ∧ vj = .int .i64 j ∧ i ≤ j ∧ j ≤ n ∧ Hid (∀ p, p < i → (r.getD p default).1 < key) ∧ Hid (∀ p, j ≤ p → p < n → key ≤ (r.getD p default).1) ∧ Hid (Upd [] w wr)) (fun vi vj _ _ => ((intOf vj).toNat - (intOf vi).toNat))
  case atStart => exact ⟨0, n, rfl, rfl, by omega, by omega, Lib.hid (fun p hp => by omega), Lib.hid (fun p hp hpn => by omega), Lib.hid (.refl _ _)⟩
  case round =>
    obtain ⟨i, j, rfl, rfl, hij, hjn, HA, HB, HU⟩ := hrel
    rename World => wr
    by_cases hlt : i < j
    · have q0 : (i : Int) < (j : Int) := by omega
      obtain ⟨m, hm⟩ : ∃ m : Nat, ((i : Int) + (j : Int)) / 2 = (m : Int) := ⟨((i + j) / 2 : Nat), by omega⟩
      have m1 : i ≤ m := by omega
      have m2 : m < j := by omega
      obtain ⟨g, cg, cur, e1, -⟩ := own_form HO.out (by rw [HN.out]; omega)
      injection e1 with e1 en e1'
      subst e1 e1'
      obtain ⟨y, hy⟩ : ∃ y, r[m]? = some y := ⟨_, List.getElem?_eq_getElem (by rw [HN.out]; omega)⟩
      have HG : Hid (r.getD m default = y) := Lib.hid (by rw [List.getD_eq_getElem?_getD, hy]; rfl)
      have e0 : wr.cell? ⟨g, m * 2, none⟩ = some (.int .i64 y.1) := (HO.out.upd0 HU.out).at_ hy 0 _ rfl
      have e1 : wr.cell? ⟨g, m * 2 + 1, none⟩ = some (.int .i64 y.2) := (HO.out.upd0 HU.out).at_ hy 1 _ rfl
      have q1 : (0 : Int) ≤ (m : Int) := by omega
      have q2 : (m : Int) < (n : Int) := by omega
      clear hy en
      go_wp2_with fail
      refine (find1_ok y.1 y.2 key wr).mono ?_; rintro e w1 ⟨rfl, u1⟩
      have U1 := Lib.hid (HU.out.trans u1)
      clear u1 e0 e1
      by_cases hyk : y.1 < key
      · have d : decide (cmpI y.1 key < 0) = true := by rw [cmpI_lt]; simpa using hyk
        have HA2 : Hid (∀ p, p < m + 1 → (r.getD p default).1 < key) := Lib.hid (fun p hp => by
          have := kle_at KS.out (i := p) (j := m) (by omega) (by rw [HN.out]; omega)
          rw [HG.out] at this
          omega)
        clear hyk
        go_wp2_with fail
        go_roundw
        case rel => exact ⟨m + 1, j, by go_num, rfl, by omega, hjn, HA2, HB, U1⟩
        case measure => simp [intOf]; omega
      · have d : decide (cmpI y.1 key < 0) = false := by rw [cmpI_lt]; simpa using hyk
        have HB2 : Hid (∀ p, m ≤ p → p < n → key ≤ (r.getD p default).1) := Lib.hid (fun p hp hpn => by
          have := kle_at KS.out (i := m) (j := p) hp (by rw [HN.out]; omega)
          rw [HG.out] at this
          omega)
        clear hyk
        go_wp2_with fail
        go_roundw
        case rel => exact ⟨i, m, rfl, by go_num, by omega, by omega, HA, HB2, U1⟩
        case measure => simp [intOf]; omega
    · obtain rfl : i = j := by omega
      by_cases hin : i < n
      · have d1 : decide ((i : Int) < (n : Int)) = true := by simp; omega
        obtain ⟨g, cg, cur, e1, -⟩ := own_form HO.out (by rw [HN.out]; omega)
        injection e1 with e1 en e1'
        subst e1 e1'
        obtain ⟨y, hy⟩ : ∃ y, r[i]? = some y := ⟨_, List.getElem?_eq_getElem (by rw [HN.out]; omega)⟩
        have HG : Hid (r.getD i default = y) := Lib.hid (by rw [List.getD_eq_getElem?_getD, hy]; rfl)
        have e0 : wr.cell? ⟨g, i * 2, none⟩ = some (.int .i64 y.1) := (HO.out.upd0 HU.out).at_ hy 0 _ rfl
        have e1 : wr.cell? ⟨g, i * 2 + 1, none⟩ = some (.int .i64 y.2) := (HO.out.upd0 HU.out).at_ hy 1 _ rfl
        have q1 : (0 : Int) ≤ (i : Int) := by omega
        have q2 : (i : Int) < (n : Int) := by omega
        clear hy en
        go_wp2_with fail
        refine (find1_ok y.1 y.2 key wr).mono ?_; rintro e w1 ⟨rfl, u1⟩
        have U1 := Lib.hid (HU.out.trans u1)
        clear u1 e0 e1
        have FA : Hid (FindAt r key i (decide (y.1 = key))) := Lib.hid ⟨by rw [HN.out]; omega, HA.out, fun p h1 h2 => HB.out p h1 (by rw [HN.out] at h2; exact h2), by rw [decide_eq_true_iff, HG.out, HN.out]; exact ⟨fun h => ⟨hin, h⟩, fun h => h.2⟩⟩
        have d2 : (cmpI y.1 key == 0) = decide (y.1 = key) := cmpI_eq
        generalize decide (y.1 = key) = b at d2 FA
        go_wp2_with fail
        go_ret2
        exact ⟨i, b, rfl, FA.out, U1.out⟩
      · have d1 : decide ((i : Int) < (n : Int)) = false := by simp; omega
        have FA : Hid (FindAt r key i false) := Lib.hid ⟨by rw [HN.out]; omega, HA.out, fun p h1 h2 => HB.out p h1 (by rw [HN.out] at h2; exact h2), by rw [HN.out]; simp; omega⟩
        go_wp2_with fail
        go_ret2
        exact ⟨i, false, rfl, FA.out, HU.out⟩
set_option maxRecDepth 100000 in
theorem s_find (B sb : Nat) (r : PL) (key : Int) (w : World) (h : SnapIs B sb w r) : Calls Tryd.prog 30 #[.pointer (some ⟨sb, 0, none⟩), .int .i64 key] w fun e w' => FindPost r key w e w' := by
  have H := Lib.hid h
  obtain ⟨A, c, hb, ho⟩ := h.obj
  have c0 : w.cell? ⟨sb, 0, none⟩ = some (.slice A r.length c) := hb.cell 0
  have HO := Lib.hid ho
  clear h hb ho
  go_enter Tryd.func30, Tryd.ntmps30
  go_wp2_with fail
  refine (bins_ok B r A r.length c key w HO.out rfl H.out.srt H.out.small).mono ?_
  rintro e w1 ⟨i, b, rfl, f, u⟩
  have F := Lib.hid f
  have U := Lib.hid u
  clear f u
  go_wp2_with fail
  go_ret2
  exact ⟨i, b, rfl, F.out, U.out⟩
/-- Found is got. -/
theorem FindAt.get {r : PL} {key : Int} {i : Nat} {b : Bool} (h : FindAt r key i b) (hs : Assoc.Srt r) : Assoc.get r key = if b then some (r.getD i default).2 else none := by
  cases b with
  | true =>
    obtain ⟨h1, h2⟩ := h.is.1 rfl
    have hm : r.getD i default ∈ r := by rw [List.getD_eq_getElem?_getD, List.getElem?_eq_getElem h1]; exact List.getElem_mem _
    have := Assoc.get_mem hs hm
    rw [h2] at this
    simpa using this
  | false =>
    refine Assoc.get_none.2 fun p hp e => ?_
    obtain ⟨j, hj, rfl⟩ := mem_getD hp
    rcases Nat.lt_or_ge j i with h1 | h1
    · have := h.lo j h1; omega
    · have h2 := h.hi i (Nat.le_refl _) (by omega)
      have h3 := kle_at (srt_kle hs) (i := i) (j := j) h1 hj
      have := h.is.2 ⟨by omega, by omega⟩
      simp at this
def GetSPost (r : PL) (key : Int) (w : World) (e : Ending) (w' : World) : Prop := e = .returned (.tuple #[.int .i64 ((Assoc.get r key).getD 0), .bool (Assoc.get r key).isSome]) ∧ Upd [] w w'
set_option maxRecDepth 100000 in
set_option maxHeartbeats 1000000 in
theorem s_get (B sb : Nat) (r : PL) (key : Int) (w : World) (h : SnapIs B sb w r) : Calls Tryd.prog 10 #[.pointer (some ⟨sb, 0, none⟩), .int .i64 key] w fun e w' => GetSPost r key w e w' := by
  have H := Lib.hid h
  clear h
  go_enter Tryd.func10, Tryd.ntmps10
  go_wp2_with fail
  refine (s_is B sb r w H.out).mono ?_
  rintro e w1 ⟨rfl, rfl⟩
  go_wp2_with fail
  refine (s_find B sb r key w H.out).mono ?_
  rintro e w1 ⟨i, b, rfl, f, u⟩
  have F := Lib.hid f
  have G := Lib.hid (f.get H.out.srt)
  have U := Lib.hid u
  clear f u
  cases b with
  | false =>
    go_wp2_with fail
    go_ret2
    refine ⟨?_, U.out⟩
    rw [G.out]
    rfl
  | true =>
    obtain ⟨A, c, hb, ho⟩ := (H.out.upd0 U.out).obj
    have hi := (F.out.is.1 rfl).1
    obtain ⟨n, hn⟩ : ∃ n, r.length = n := ⟨_, rfl⟩
    rw [hn] at hb ho hi
    obtain ⟨g, cg, cur, e1, -⟩ := own_form ho (by rw [hn]; omega)
    injection e1 with e1 en e1'
    subst e1 e1'
    obtain ⟨y, hy⟩ : ∃ y, r[i]? = some y := ⟨_, List.getElem?_eq_getElem (by rw [hn]; omega)⟩
    have HG : Hid (r.getD i default = y) := Lib.hid (by rw [List.getD_eq_getElem?_getD, hy]; rfl)
    have c0 : w1.cell? ⟨sb, 0, none⟩ = some (.slice (some ⟨g, 0, none⟩) n c) := hb.cell 0
    have e1 : w1.cell? ⟨g, i * 2 + 1, none⟩ = some (.int .i64 y.2) := ho.at_ hy 1 _ rfl
    have q1 : (0 : Int) ≤ (i : Int) := by omega
    have q2 : (i : Int) < (n : Int) := by omega
    clear hb ho hy hn en hi
    go_wp2_with fail
    go_ret2
    refine ⟨?_, U.out⟩
    rw [G.out, if_pos (by simp), HG.out]
    rfl
set_option maxRecDepth 100000 in
theorem s_get_nil (key : Int) (w : World) : Calls Tryd.prog 10 #[.pointer none, .int .i64 key] w fun e w' => e = .returned (.tuple #[.int .i64 0, .bool false]) ∧ w = w' := by
  go_enter Tryd.func10, Tryd.ntmps10
  go_wp2_with fail
  refine (s_is_nil w).mono ?_
  rintro e w1 ⟨rfl, rfl⟩
  go_wp2_with fail
  go_ret2
  exact ⟨rfl, rfl⟩
end Go.Proofs.YthdjbflbhgbckaaDoor

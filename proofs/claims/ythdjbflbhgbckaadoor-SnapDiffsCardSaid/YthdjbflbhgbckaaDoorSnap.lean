/-
  Package snap: slices.Clone at pairs, what a snapshot is, Of, Len, All.
-/
import Derived.Test.YthdjbflbhgbckaaDoorStab4
import Derived.Test.YthdjbflbhgbckaaDoorSnapP
import Derived.Test.YthdjbflbhgbckaaDoorErrN
set_option linter.unusedVariables false
namespace Go.Proofs.YthdjbflbhgbckaaDoor
open Go.RowKit Stab Snap
attribute [local go_sem] litStep_value

theorem stopped {p : Prop} (h : Hid p) : p := h.out
def ClonePPost (xs : PL) (w : World) (e : Ending) (w' : World) : Prop := ∃ v, e = .returned v ∧ Ow encPr 39 w' w.heap.size v xs ∧ Upd [] w w'
set_option maxRecDepth 100000 in
set_option maxHeartbeats 1000000 in
theorem clone_prs (A : Option Addr) (n c : Nat) (xs : PL) (w : World) (h : Rd encPr w (.slice A n c) xs) (hn : xs.length = n) (hl : n ≤ 1000) :
    Calls Tryd.prog 23 #[.slice A n c] w fun e w' => ClonePPost xs w e w' := by
  have eq0 := @Lib.run_eql_slice_nil Tryd.prog
  have HN := Lib.hid hn
  have HSR : Hid (Src w 2 (.slice A n c) n (flat encPr xs)) := Lib.hid (by have := h; unfold Rd at this; rw [hn] at this; exact this)
  cases A with
  | none =>
    have HL : Hid (xs = []) := Lib.hid (by
      cases xs with
      | nil => rfl
      | cons x xs =>
        obtain ⟨ad, e, _⟩ := h.at_ (k := 0) (a := x) rfl
        cases e)
    clear h hn
    go_enter Tryd.func23, Tryd.ntmps23
    go_wp2_with fail
    go_ret
    unfold ClonePPost
    rw [HL.out]
    exact ⟨_, rfl, Ow.nil _ _ _ _, .refl _ _⟩
  | some a =>
    clear h hn
    go_enter Tryd.func23, Tryd.ntmps23
    go_wp2_with (at_builtin; refine stopped ?_)
    refine Lib.hid ?_
    refine wpList_app _ (by rfl) (.tmp 5) (.tmp 6) _ (by rfl) elem_pair _ _ (by rfl) (by rfl) (own_made (B := w.heap.size) 2 (Blk.new w 39 #[]) (Nat.le_refl _)) (HSR.out.upd0 ((Upd.refl [] w).alloc _)) flat_cells (by unfold maxLen; omega) (by omega) (by simp) ?_
    intro v2 w2 o2 u2 b2
    have U2 : Hid (Upd [] w w2) := Lib.hid (((Upd.refl [] w).alloc _).trans' u2 (by intro x hx; simp [Value.ownBlock] at hx; subst hx; exact .inr (Nat.le_refl _)))
    have O2 : Hid (Ow encPr 39 w2 w.heap.size v2 xs) := Lib.hid (by unfold Ow; rw [HN.out]; rw [Nat.zero_add, List.nil_append] at o2; exact o2)
    clear o2 u2 b2
    go_wp2_with fail
    go_ret
    exact ⟨_, rfl, O2.out, U2.out⟩
/-- A snapshot in block sb. -/
structure SnapIs (B sb : Nat) (w : World) (r : PL) : Prop where
  srt : Assoc.Srt r
  small : r.length ≤ 1000
  b : B ≤ sb
  obj : ∃ A c, Blk w sb 55 #[.slice A r.length c, .bool true] ∧ Ow encPr 39 w B (.slice A r.length c) r
theorem SnapIs.upd0 {B sb : Nat} {w w' : World} {r : PL} (h : SnapIs B sb w r) (hu : Upd [] w w') : SnapIs B sb w' r := by
  obtain ⟨A, c, hb, ho⟩ := h.obj
  exact ⟨h.srt, h.small, h.b, A, c, hb.upd hu (by simp), ho.upd0 hu⟩
theorem SnapIs.base {B B' sb : Nat} {w : World} {r : PL} (h : SnapIs B sb w r) (hB : B' ≤ B) : SnapIs B' sb w r := by
  obtain ⟨A, c, hb, ho⟩ := h.obj
  exact ⟨h.srt, h.small, Nat.le_trans hB h.b, A, c, hb, own_base ho hB⟩
set_option maxRecDepth 100000 in
theorem s_is (B sb : Nat) (r : PL) (w : World) (h : SnapIs B sb w r) : Calls Tryd.prog 29 #[.pointer (some ⟨sb, 0, none⟩)] w fun e w' => e = .returned (.bool true) ∧ w = w' := by
  obtain ⟨A, c, hb, ho⟩ := h.obj
  have c1 : w.cell? ⟨sb, 1, none⟩ = some (.bool true) := hb.cell 1
  clear h hb ho
  go_enter Tryd.func29, Tryd.ntmps29
  go_wp2_with fail
  go_ret
  exact ⟨rfl, rfl⟩
set_option maxRecDepth 100000 in
theorem s_is_nil (w : World) : Calls Tryd.prog 29 #[.pointer none] w fun e w' => e = .returned (.bool false) ∧ w = w' := by
  go_enter Tryd.func29, Tryd.ntmps29
  go_wp2_with fail
  go_ret
  exact ⟨rfl, rfl⟩
def OfPost (l : PL) (w : World) (e : Ending) (w' : World) : Prop := Upd [] w w' ∧
  ((∃ g k, e = .returned (.tuple #[.pointer none, .iface 58 (.pointer (some ⟨g, 0, none⟩))]) ∧ Blk w' g 61 #[.int .i64 k, .int .i64 7] ∧ OfR l [] 7 k) ∨
   (∃ sb r, e = .returned (.tuple #[.pointer (some ⟨sb, 0, none⟩), .nilIface]) ∧ SnapIs w.heap.size sb w' r ∧ OfR l r 0 0))
set_option maxRecDepth 100000 in
set_option maxHeartbeats 4000000 in
theorem s_of (A : Option Addr) (n c : Nat) (l : PL) (w : World) (h : Rd encPr w (.slice A n c) l) (hn : l.length = n) (hl : n ≤ 1000) :
    Calls Tryd.prog 6 #[.slice A n c] w fun e w' => OfPost l w e w' := by
  have HR := Lib.hid h
  have HN := Lib.hid hn
  clear h hn
  go_enter Tryd.func6, Tryd.ntmps6
  go_wp2_with fail
  refine (clone_prs A n c l w HR.out HN.out hl).mono ?_
  rintro e w1 ⟨v, rfl, o1, u1⟩
  obtain ⟨A1, c1, rfl, _, _⟩ := own_slice o1
  have O1 : Hid (Ow encPr 39 w1 w.heap.size (.slice A1 n c1) l) := Lib.hid (by rw [HN.out] at o1; exact o1)
  rw [HN.out]
  have U1 : Hid (Upd [] w (w1.alloc (.cells #[.slice A1 n c1, .bool true] 55))) := Lib.hid (u1.alloc _)
  have HB : Hid (Blk (w1.alloc (.cells #[.slice A1 n c1, .bool true] 55)) w1.heap.size 55 #[.slice A1 n c1, .bool true]) := Lib.hid (Blk.new w1 _ _)
  have O2 : Hid (Ow encPr 39 (w1.alloc (.cells #[.slice A1 n c1, .bool true] 55)) w.heap.size (.slice A1 n c1) l) := Lib.hid (O1.out.upd0 ((Upd.refl [] w1).alloc _))
  have SB : Hid (w.heap.size ≤ w1.heap.size) := Lib.hid u1.size
  have ent : ∀ args w, (callFunc 24 args).run Tryd.prog w = .ok (.enter 24 args) w := fun args w => rfl
  clear o1 u1 O1
  go_wp2_with fail
  obtain ⟨sb, hsb⟩ : ∃ sb, w1.heap.size = sb := ⟨_, rfl⟩
  generalize (w1.alloc (.cells #[.slice A1 n c1, .bool true] 55)) = w2 at *
  refine (sortStable_ok w.heap.size (.slice A1 n c1) l w2 O2.out (by rw [HN.out]; exact hl)).mono ?_
  rintro e w3 ⟨rfl, Z, hz, o3, u3⟩
  rw [hsb] at HB SB ⊢
  have HZ := Lib.hid hz
  have HZL : Hid (Z.length = n) := Lib.hid (hz.2.length_eq.trans HN.out)
  have O3 := Lib.hid o3
  have B3 : Hid (Blk w3 sb 55 #[.slice A1 n c1, .bool true]) := Lib.hid (HB.out.upd u3 (fun hm => own_type O2.out HB.out (by decide) (by simpa using hm)))
  have U3 : Hid (Upd [] w w3) := Lib.hid (U1.out.trans' u3 (fun x hx => .inr (own_lt O2.out (by simpa using hx)).1))
  clear hz o3 u3 O2 HB U1 hsb
  have e0 : w3.cell? ⟨sb, 0, none⟩ = some (.slice A1 n c1) := B3.out.cell 0
  go_wp2_with fail
  go_loopw [5] (fun v wr => ∃ (i : Nat), v = .int .i64 i ∧ 1 ≤ i ∧ (i ≤ n ∨ i = 1) ∧ Hid (∀ j, 1 ≤ j → j < i → (Z.getD (j - 1) default).1 ≠ (Z.getD j default).1) ∧ Hid (Upd [] w3 wr)) (fun v _ => n + 1 - (intOf v).toNat)
  case atStart => exact ⟨1, rfl, by omega, .inr rfl, Lib.hid (fun j h1 h2 => by omega), Lib.hid (.refl _ _)⟩
  case round =>
    obtain ⟨i, rfl, hi1, hi2, HI, UI⟩ := hrel
    rename World => wr
    have c0 : wr.cell? ⟨sb, 0, none⟩ = some (.slice A1 n c1) := (B3.out.upd UI.out (by simp)).cell 0
    by_cases hin : i < n
    · obtain ⟨j, hj⟩ : ∃ j, j + 1 = i := ⟨i - 1, by omega⟩
      obtain ⟨g, cg, cur, e1, -⟩ := own_form O3.out (by rw [HZL.out]; omega)
      injection e1 with e1 en e1'
      subst e1 e1'
      obtain ⟨y, hy⟩ : ∃ y, Z[i]? = some y := ⟨_, List.getElem?_eq_getElem (by rw [HZL.out]; exact hin)⟩
      obtain ⟨x, hx⟩ : ∃ x, Z[j]? = some x := ⟨_, List.getElem?_eq_getElem (by rw [HZL.out]; omega)⟩
      have HX := Lib.hid hx
      have HY := Lib.hid hy
      have HJ := Lib.hid (show i - 1 = j by omega)
      have q1 : (0 : Int) ≤ (i : Int) := by omega
      have q2 : (i : Int) < (n : Int) := by omega
      have q3 : (i : Int) - 1 = (j : Int) := by omega
      have q3w : IntKind.i64.wrap (j : Int) = (j : Int) := by rw [IntKind.wrap_i64]; omega
      have q4 : (0 : Int) ≤ (j : Int) := by omega
      have q5 : (j : Int) < (n : Int) := by omega
      have CS : Hid (∀ W, Upd [] wr.drew W → W.cell? ⟨sb, 0, none⟩ = some (.slice (some ⟨g, 0, none⟩) n c1) ∧ W.cell? ⟨g, i * 2, none⟩ = some (.int .i64 y.1) ∧ W.cell? ⟨g, j * 2, none⟩ = some (.int .i64 x.1)) := Lib.hid (fun W hW => by
        have hu := UI.out.trans ((Upd.refl [] wr).drew.trans hW)
        have ho := O3.out.upd0 hu
        exact ⟨(B3.out.upd hu (by simp)).cell 0, ho.at_ HY.out 0 _ rfl, ho.at_ HX.out 0 _ rfl⟩)
      clear hx hy en
      by_cases hxy : x.1 = y.1
      · have dxy : (x.1 == y.1) = true := by simpa using hxy
        have HXY := Lib.hid hxy
        clear hxy
        go_wp2_with fail
        refine wp_invN [] [] (by kernel_rfl) (by kernel_rfl) (by kernel_rfl) trivial ?_
        with_reducible apply wpV_light
        · simp only [lightOp]
        · intro W hU hF
          have f0 := CS.out W hU
          clear hU hF
          go_simp
          exact rfl
        simp only [Act.put, List.setIfInBounds_toArray, List.set_cons_zero, List.set_cons_succ]
        with_reducible apply wpV_light
        · simp only [lightOp]
        · intro W hU hF
          have f0 := CS.out W hU
          clear hU hF
          go_simp
          exact rfl
        simp only [Act.put, List.setIfInBounds_toArray, List.set_cons_zero, List.set_cons_succ]
        with_reducible apply wpV_light
        · simp only [lightOp]
        · intro W hU hF
          have f0 := CS.out W hU
          clear hU hF
          go_simp
          exact rfl
        simp only [Act.put, List.setIfInBounds_toArray, List.set_cons_zero, List.set_cons_succ]
        with_reducible apply wpV_light
        · simp only [lightOp]
        · intro W hU hF
          have f0 := CS.out W hU
          clear hU hF
          go_simp
          exact rfl
        simp only [Act.put, List.setIfInBounds_toArray, List.set_cons_zero, List.set_cons_succ]
        with_reducible apply wpV_light
        · simp only [lightOp]
        · intro W hU hF
          have f0 := CS.out W hU
          clear hU hF
          go_simp
          exact rfl
        simp only [Act.put, List.setIfInBounds_toArray, List.set_cons_zero, List.set_cons_succ]
        with_reducible apply wpV_light
        · simp only [lightOp]
        · intro W hU hF
          have f0 := CS.out W hU
          clear hU hF
          go_simp
          exact rfl
        simp only [Act.put, List.setIfInBounds_toArray, List.set_cons_zero, List.set_cons_succ]
        with_reducible apply wpV_light
        · simp only [lightOp]
        · intro W hU hF
          have f0 := CS.out W hU
          clear hU hF
          go_simp
          exact rfl
        simp only [Act.put, List.setIfInBounds_toArray, List.set_cons_zero, List.set_cons_succ]
        with_reducible apply wpV_light
        · simp only [lightOp]
        · intro W hU hF
          have f0 := CS.out W hU
          clear hU hF
          go_simp
          exact rfl
        simp only [Act.put, List.setIfInBounds_toArray, List.set_cons_zero, List.set_cons_succ]
        with_reducible apply wpV_light
        · simp only [lightOp]
        · intro W hU hF
          have f0 := CS.out W hU
          clear hU hF
          go_simp
          exact rfl
        simp only [Act.put, List.setIfInBounds_toArray, List.set_cons_zero, List.set_cons_succ]
        with_reducible apply wpV_light
        · simp only [lightOp]
        · intro W hU hF
          have f0 := CS.out W hU
          clear hU hF
          go_simp
          exact rfl
        simp only [Act.put, List.setIfInBounds_toArray, List.set_cons_zero, List.set_cons_succ]
        with_reducible apply wpV_light
        · simp only [lightOp]
        · intro W hU hF
          have f0 := CS.out W hU
          clear hU hF
          go_simp
          exact rfl
        simp only [Act.put, List.setIfInBounds_toArray, List.set_cons_zero, List.set_cons_succ]
        with_reducible apply wpV_light
        · simp only [lightOp]
        · intro W hU hF
          have f0 := CS.out W hU
          clear hU hF
          go_simp
          exact rfl
        simp only [Act.put, List.setIfInBounds_toArray, List.set_cons_zero, List.set_cons_succ]
        with_reducible apply wpV_light
        · simp only [lightOp]
        · intro W hU hF
          have f0 := CS.out W hU
          clear hU hF
          go_simp
          exact rfl
        simp only [Act.put, List.setIfInBounds_toArray, List.set_cons_zero, List.set_cons_succ]
        with_reducible apply wpV_light
        · simp only [lightOp]
        · intro W hU hF
          have f0 := CS.out W hU
          clear hU hF
          go_simp
          exact rfl
        simp only [Act.put, List.setIfInBounds_toArray, List.set_cons_zero, List.set_cons_succ]
        with_reducible apply wpV_light
        · simp only [lightOp]
        · intro W hU hF
          have f0 := CS.out W hU
          clear hU hF
          go_simp
          exact rfl
        simp only [Act.put, List.setIfInBounds_toArray, List.set_cons_zero, List.set_cons_succ]
        with_reducible apply wpV_light
        · simp only [lightOp]
        · intro W hU hF
          have f0 := CS.out W hU
          clear hU hF
          go_simp
          exact rfl
        simp only [Act.put, List.setIfInBounds_toArray, List.set_cons_zero, List.set_cons_succ]
        with_reducible apply wpV_light
        · simp only [lightOp]
        · intro W hU hF
          have f0 := CS.out W hU
          clear hU hF
          go_simp
          exact rfl
        simp only [Act.put, List.setIfInBounds_toArray, List.set_cons_zero, List.set_cons_succ]
        with_reducible apply wpV_light
        · simp only [lightOp]
        · intro W hU hF
          have f0 := CS.out W hU
          clear hU hF
          go_simp
          exact rfl
        simp only [Act.put, List.setIfInBounds_toArray, List.set_cons_zero, List.set_cons_succ]
        refine wpV_end (fun W hU _ _ => ?_)
        have U4 : Hid (Upd [] w3 W) := Lib.hid (UI.out.trans ((Upd.refl [] wr).drew.trans hU))
        clear hU CS c0
        refine wpT_end ?_
        have f0 : W.cell? ⟨sb, 0, none⟩ = some (.slice (some ⟨g, 0, none⟩) n c1) := (B3.out.upd U4.out (by simp)).cell 0
        have f1 : W.cell? ⟨g, i * 2, none⟩ = some (.int .i64 y.1) := (O3.out.upd0 U4.out).at_ HY.out 0 _ rfl
        have BF : Hid (Blk (W.alloc (.cells #[.int .i64 y.1, .int .i64 7] 61)).drew W.heap.size 61 #[.int .i64 y.1, .int .i64 7]) := Lib.hid ((Blk.new W _ _).drew)
        have UF : Hid (Upd [] w (W.alloc (.cells #[.int .i64 y.1, .int .i64 7] 61)).drew) := Lib.hid (((U3.out.trans U4.out).alloc _).drew)
        have OT : Hid (OfR l [] 7 y.1) := Lib.hid (by
          have hyD : Z.getD i default = y := by rw [List.getD_eq_getElem?_getD, HY.out]; rfl
          have hxD : Z.getD (i - 1) default = x := by rw [HJ.out, List.getD_eq_getElem?_getD, HX.out]; rfl
          have := of_twice HZ.out.1 HZ.out.2 hi1 (by rw [HZL.out]; exact hin) (by rw [hxD, hyD]; exact HXY.out) HI.out
          rwa [hyD] at this)
        go_wp2_with fail
        go_region
        go_wp2_with fail
        go_ret2
        exact ⟨UF.out, .inl ⟨_, _, rfl, BF.out, OT.out⟩⟩
      · have dxy : (x.1 == y.1) = false := by simpa using hxy
        have HI2 : Hid (∀ k, 1 ≤ k → k < i + 1 → (Z.getD (k - 1) default).1 ≠ (Z.getD k default).1) := Lib.hid (fun k h1 h2 => by
          rcases Nat.lt_or_ge k i with h3 | h3
          · exact HI.out k h1 h3
          · obtain rfl : k = i := by omega
            rw [HJ.out, List.getD_eq_getElem?_getD, List.getD_eq_getElem?_getD, HX.out, HY.out]
            exact hxy)
        go_wp2_with fail
        refine wp_invN [] [] (by kernel_rfl) (by kernel_rfl) (by kernel_rfl) trivial ?_
        with_reducible apply wpV_light
        · simp only [lightOp]
        · intro W hU hF
          have f0 := CS.out W hU
          clear hU hF
          go_simp
          exact rfl
        simp only [Act.put, List.setIfInBounds_toArray, List.set_cons_zero, List.set_cons_succ]
        with_reducible apply wpV_light
        · simp only [lightOp]
        · intro W hU hF
          have f0 := CS.out W hU
          clear hU hF
          go_simp
          exact rfl
        simp only [Act.put, List.setIfInBounds_toArray, List.set_cons_zero, List.set_cons_succ]
        with_reducible apply wpV_light
        · simp only [lightOp]
        · intro W hU hF
          have f0 := CS.out W hU
          clear hU hF
          go_simp
          exact rfl
        simp only [Act.put, List.setIfInBounds_toArray, List.set_cons_zero, List.set_cons_succ]
        with_reducible apply wpV_light
        · simp only [lightOp]
        · intro W hU hF
          have f0 := CS.out W hU
          clear hU hF
          go_simp
          exact rfl
        simp only [Act.put, List.setIfInBounds_toArray, List.set_cons_zero, List.set_cons_succ]
        with_reducible apply wpV_light
        · simp only [lightOp]
        · intro W hU hF
          have f0 := CS.out W hU
          clear hU hF
          go_simp
          exact rfl
        simp only [Act.put, List.setIfInBounds_toArray, List.set_cons_zero, List.set_cons_succ]
        with_reducible apply wpV_light
        · simp only [lightOp]
        · intro W hU hF
          have f0 := CS.out W hU
          clear hU hF
          go_simp
          exact rfl
        simp only [Act.put, List.setIfInBounds_toArray, List.set_cons_zero, List.set_cons_succ]
        with_reducible apply wpV_light
        · simp only [lightOp]
        · intro W hU hF
          have f0 := CS.out W hU
          clear hU hF
          go_simp
          exact rfl
        simp only [Act.put, List.setIfInBounds_toArray, List.set_cons_zero, List.set_cons_succ]
        with_reducible apply wpV_light
        · simp only [lightOp]
        · intro W hU hF
          have f0 := CS.out W hU
          clear hU hF
          go_simp
          exact rfl
        simp only [Act.put, List.setIfInBounds_toArray, List.set_cons_zero, List.set_cons_succ]
        with_reducible apply wpV_light
        · simp only [lightOp]
        · intro W hU hF
          have f0 := CS.out W hU
          clear hU hF
          go_simp
          exact rfl
        simp only [Act.put, List.setIfInBounds_toArray, List.set_cons_zero, List.set_cons_succ]
        with_reducible apply wpV_light
        · simp only [lightOp]
        · intro W hU hF
          have f0 := CS.out W hU
          clear hU hF
          go_simp
          exact rfl
        simp only [Act.put, List.setIfInBounds_toArray, List.set_cons_zero, List.set_cons_succ]
        with_reducible apply wpV_light
        · simp only [lightOp]
        · intro W hU hF
          have f0 := CS.out W hU
          clear hU hF
          go_simp
          exact rfl
        simp only [Act.put, List.setIfInBounds_toArray, List.set_cons_zero, List.set_cons_succ]
        with_reducible apply wpV_light
        · simp only [lightOp]
        · intro W hU hF
          have f0 := CS.out W hU
          clear hU hF
          go_simp
          exact rfl
        simp only [Act.put, List.setIfInBounds_toArray, List.set_cons_zero, List.set_cons_succ]
        with_reducible apply wpV_light
        · simp only [lightOp]
        · intro W hU hF
          have f0 := CS.out W hU
          clear hU hF
          go_simp
          exact rfl
        simp only [Act.put, List.setIfInBounds_toArray, List.set_cons_zero, List.set_cons_succ]
        with_reducible apply wpV_light
        · simp only [lightOp]
        · intro W hU hF
          have f0 := CS.out W hU
          clear hU hF
          go_simp
          exact rfl
        simp only [Act.put, List.setIfInBounds_toArray, List.set_cons_zero, List.set_cons_succ]
        with_reducible apply wpV_light
        · simp only [lightOp]
        · intro W hU hF
          have f0 := CS.out W hU
          clear hU hF
          go_simp
          exact rfl
        simp only [Act.put, List.setIfInBounds_toArray, List.set_cons_zero, List.set_cons_succ]
        with_reducible apply wpV_light
        · simp only [lightOp]
        · intro W hU hF
          have f0 := CS.out W hU
          clear hU hF
          go_simp
          exact rfl
        simp only [Act.put, List.setIfInBounds_toArray, List.set_cons_zero, List.set_cons_succ]
        with_reducible apply wpV_light
        · simp only [lightOp]
        · intro W hU hF
          have f0 := CS.out W hU
          clear hU hF
          go_simp
          exact rfl
        simp only [Act.put, List.setIfInBounds_toArray, List.set_cons_zero, List.set_cons_succ]
        with_reducible apply wpV_light
        · simp only [lightOp]
        · intro W hU hF
          have f0 := CS.out W hU
          clear hU hF
          go_simp
          exact rfl
        simp only [Act.put, List.setIfInBounds_toArray, List.set_cons_zero, List.set_cons_succ]
        refine wpV_end (fun W hU _ _ => ?_)
        have U4 : Hid (Upd [] w3 W) := Lib.hid (UI.out.trans ((Upd.refl [] wr).drew.trans hU))
        clear hU CS c0
        refine wpT_end ?_
        go_wp2_with fail
        go_roundw
        case rel => exact ⟨i + 1, by go_num, by omega, by omega, HI2, U4⟩
        case measure => simp [intOf]; omega
    · go_wp2_with fail
      go_ret2
      refine ⟨U3.out.trans UI.out, .inr ⟨sb, Z, rfl, ⟨scan_none HZ.out.1 (fun k h1 h2 => HI.out k h1 (by rw [HZL.out] at h2; omega)), by rw [HZL.out]; exact hl, SB.out, A1, c1, ?_, ?_⟩, of_sorted HZ.out.1 HZ.out.2 (fun k h1 h2 => HI.out k h1 (by rw [HZL.out] at h2; omega))⟩⟩
      · rw [HZL.out]; exact B3.out.upd UI.out (by simp)
      · rw [HZL.out]; exact O3.out.upd0 UI.out
set_option maxRecDepth 100000 in
theorem s_len (B sb : Nat) (r : PL) (w : World) (h : SnapIs B sb w r) : Calls Tryd.prog 14 #[.pointer (some ⟨sb, 0, none⟩)] w fun e w' => e = .returned (.int .i64 r.length) ∧ w = w' := by
  have H := Lib.hid h
  obtain ⟨A, c, hb, ho⟩ := h.obj
  have c0 : w.cell? ⟨sb, 0, none⟩ = some (.slice A r.length c) := hb.cell 0
  clear h hb ho
  go_enter Tryd.func14, Tryd.ntmps14
  go_wp2_with fail
  refine (s_is B sb r w H.out).mono ?_
  rintro e w1 ⟨rfl, rfl⟩
  go_wp2_with fail
  go_ret
  exact ⟨rfl, rfl⟩
set_option maxRecDepth 100000 in
theorem s_len_nil (w : World) : Calls Tryd.prog 14 #[.pointer none] w fun e w' => e = .returned (.int .i64 0) ∧ w = w' := by
  go_enter Tryd.func14, Tryd.ntmps14
  go_wp2_with fail
  refine (s_is_nil w).mono ?_
  rintro e w1 ⟨rfl, rfl⟩
  go_wp2_with fail
  go_ret
  exact ⟨rfl, rfl⟩
set_option maxRecDepth 100000 in
theorem s_all (B sb : Nat) (r : PL) (w : World) (h : SnapIs B sb w r) : Calls Tryd.prog 13 #[.pointer (some ⟨sb, 0, none⟩)] w fun e w' => ClonePPost r w e w' := by
  have H := Lib.hid h
  obtain ⟨A, c, hb, ho⟩ := h.obj
  have c0 : w.cell? ⟨sb, 0, none⟩ = some (.slice A r.length c) := hb.cell 0
  have HO := Lib.hid ho
  clear h hb ho
  go_enter Tryd.func13, Tryd.ntmps13
  go_wp2_with fail
  refine (s_is B sb r w H.out).mono ?_
  rintro e w1 ⟨rfl, rfl⟩
  go_wp2_with fail
  refine (clone_prs A r.length c r w HO.out.rd rfl H.out.small).mono ?_
  rintro e w1 ⟨v, rfl, o1, u1⟩
  have O1 := Lib.hid o1
  have U1 := Lib.hid u1
  clear o1 u1
  go_wp2_with fail
  go_ret
  exact ⟨_, rfl, O1.out, U1.out⟩
set_option maxRecDepth 100000 in
theorem s_all_nil (w : World) : Calls Tryd.prog 13 #[.pointer none] w fun e w' => ClonePPost [] w e w' := by
  go_enter Tryd.func13, Tryd.ntmps13
  go_wp2_with fail
  refine (s_is_nil w).mono ?_
  rintro e w1 ⟨rfl, rfl⟩
  go_wp2_with fail
  go_ret
  exact ⟨_, rfl, Ow.nil _ _ _ _, .refl _ _⟩
end Go.Proofs.YthdjbflbhgbckaaDoor

/-
  concordref08.Ints.
  concordref11.Same: are two ends the same?
  eval.Run as the laws see it: the error's number, the end, what is told, what there is behind it.
  concordlaw09.Few.
  Statements as they lie one behind the other; two transactions behind one another in memory.
  model.New.
  concordlaw11.alive.
  Statements out of an argument.
  From the row's listed variable to what the walks ask of it; a world that meets it.
-/
import Derived.Test.YtfbeaklplefojaaDoorEvN13
import Derived.Test.YtfbeaklplefojaaDoorEvNsRunE
import Derived.Test.YtfbeaklplefojaaDoorEvNsRightWN
import Derived.Test.YtfbeaklplefojaaDoorEvN6
import Derived.Test.YtfbeaklplefojaaDoorEvN0
import Derived.Test.YtfbeaklplefojaaDoorEvN1
import Derived.Test.YtfbeaklplefojaaDoorRows
import Derived.Test.YtfbeaklplefojaaDoorEvN9
import Derived.LaidMore
import Derived.LaidHandle
import Derived.Stop.Joined
set_option linter.unusedVariables false
namespace Go.Proofs.YtfbeaklplefojaaDoor
open Go.RowKit Assoc MP
attribute [local go_sem] litStep_value

def sameToK (L M : List Int) (k : Nat) : Prop := ∀ j, j < k → L.getD j 0 = M.getD j 0
theorem sameK_all {L M : List Int} {n : Nat} (hl : L.length = n) (hm : M.length = n) (h : sameToK L M n) : L = M := by
  apply List.ext_getElem (by rw [hl, hm])
  intro i h1 h2
  have := h i (by omega)
  rwa [List.getD_eq_getElem?_getD, List.getD_eq_getElem?_getD, List.getElem?_eq_getElem h1, List.getElem?_eq_getElem h2] at this
set_option maxRecDepth 100000 in
set_option maxHeartbeats 2000000 in
theorem ints_ok (B B' : Nat) (L M : List Int) (v u : Value) (w : World) (hv : Ow encK 3 w B v L) (hu : Ow encK 3 w B' u M) (hL : L.length ≤ 1000000) (hM : M.length ≤ 1000000) :
    Calls Tryd.prog 15 #[v, u] w fun e w' => e = .returned (.bool (decide (L = M))) ∧ Upd [] w w' := by
  obtain ⟨A, c, rfl, hnc, hcm⟩ := own_slice hv
  obtain ⟨A', c', rfl, hnc', hcm'⟩ := own_slice hu
  obtain ⟨n, hn⟩ : ∃ n, L.length = n := ⟨_, rfl⟩
  obtain ⟨m, hm⟩ : ∃ m, M.length = m := ⟨_, rfl⟩
  have HV : Hid (w.ownsRow B 3 1 (.slice A n c) n (flat encK L)) := Lib.hid (by have := hv; unfold Ow at this; rw [hn] at this; exact this)
  have HU : Hid (w.ownsRow B' 3 1 (.slice A' m c') m (flat encK M)) := Lib.hid (by have := hu; unfold Ow at this; rw [hm] at this; exact this)
  have HN := Lib.hid hn
  have HM := Lib.hid hm
  rw [hn] at hL hnc ⊢
  rw [hm] at hM hnc' ⊢
  clear hv hu hn hm
  obtain ⟨r, hr⟩ : ∃ r, decide (L = M) = r := ⟨_, rfl⟩
  have HR := Lib.hid hr
  rw [hr]
  clear hr
  go_enter Tryd.func15, Tryd.ntmps15
  by_cases hnm : n = m
  · subst hnm
    have d : ((n : Int) != (n : Int)) = false := by simp
    go_wp2_with fail
    go_loopw [5] (fun v wr => ∃ k : Nat, v = .int .i64 k ∧ k ≤ n ∧ Hid (sameToK L M k) ∧ Hid (Upd [] w wr)) (fun v _ => n - (intOf v).toNat)
    case atStart => exact ⟨0, rfl, by omega, Lib.hid (fun j hj => by omega), Lib.hid (.refl _ _)⟩
    case round =>
      obtain ⟨k, rfl, hk, HS, U1⟩ := hrel
      by_cases hkn : k < n
      · obtain ⟨x, hx⟩ : ∃ x, L[k]? = some x := ⟨_, List.getElem?_eq_getElem (by rw [HN.out]; omega)⟩
        obtain ⟨y, hy⟩ : ∃ y, M[k]? = some y := ⟨_, List.getElem?_eq_getElem (by rw [HM.out]; omega)⟩
        have HX := Lib.hid hx
        have HY := Lib.hid hy
        obtain ⟨g, cg, cur, e1, _⟩ := own_form HV.out (by omega)
        obtain ⟨g', cg', cur', e2, _⟩ := own_form HU.out (by omega)
        injection e1 with e1 _ e1'
        injection e2 with e2 _ e2'
        subst e1 e2 e1' e2'
        have CS : Hid (∀ W, Upd [] wr.drew W → W.cell? ⟨g, k, none⟩ = some (.int .i64 x) ∧ W.cell? ⟨g', k, none⟩ = some (.int .i64 y)) := Lib.hid (fun W hW => by
          have hu : Upd [] w W := U1.out.drew.trans hW
          have h1 := own_cell (own_upd0 HV.out hu) _ _ ((flat_get (E := encK) hx (j := 0) (by decide)).trans rfl)
          have h2 := own_cell (own_upd0 HU.out hu) _ _ ((flat_get (E := encK) hy (j := 0) (by decide)).trans rfl)
          rw [show k * encK.s + 0 = k by simp [encI]] at h1 h2
          exact ⟨h1, h2⟩)
        have q1 : (0 : Int) ≤ (k : Int) := by omega
        have q2 : (k : Int) < (n : Int) := by omega
        clear hx hy
        go_wp2_with fail
        refine wp_invN [] [] (by kernel_rfl) (by kernel_rfl) (by kernel_rfl) trivial ?_
        with_reducible apply wpV_light
        · simp only [lightOp]
        · intro W hU hF
          have f0 := CS.out W hU
          clear hU hF
          go_simp
          exact rfl
        simp only [Act.put, List.setIfInBounds_toArray, List.set_cons_zero, List.set_cons_succ]
        with_reducible apply wpV_light
        · simp only [lightOp]
        · intro W hU hF
          have f0 := CS.out W hU
          clear hU hF
          go_simp
          exact rfl
        simp only [Act.put, List.setIfInBounds_toArray, List.set_cons_zero, List.set_cons_succ]
        with_reducible apply wpV_light
        · simp only [lightOp]
        · intro W hU hF
          have f0 := CS.out W hU
          clear hU hF
          go_simp
          exact rfl
        simp only [Act.put, List.setIfInBounds_toArray, List.set_cons_zero, List.set_cons_succ]
        with_reducible apply wpV_light
        · simp only [lightOp]
        · intro W hU hF
          have f0 := CS.out W hU
          clear hU hF
          go_simp
          exact rfl
        simp only [Act.put, List.setIfInBounds_toArray, List.set_cons_zero, List.set_cons_succ]
        with_reducible apply wpV_light
        · simp only [lightOp]
        · intro W hU hF
          have f0 := CS.out W hU
          clear hU hF
          go_simp
          exact rfl
        simp only [Act.put, List.setIfInBounds_toArray, List.set_cons_zero, List.set_cons_succ]
        with_reducible apply wpV_light
        · simp only [lightOp]
        · intro W hU hF
          have f0 := CS.out W hU
          clear hU hF
          go_simp
          exact rfl
        simp only [Act.put, List.setIfInBounds_toArray, List.set_cons_zero, List.set_cons_succ]
        with_reducible apply wpV_light
        · simp only [lightOp]
        · intro W hU hF
          have f0 := CS.out W hU
          clear hU hF
          go_simp
          exact rfl
        simp only [Act.put, List.setIfInBounds_toArray, List.set_cons_zero, List.set_cons_succ]
        with_reducible apply wpV_light
        · simp only [lightOp]
        · intro W hU hF
          have f0 := CS.out W hU
          clear hU hF
          go_simp
          exact rfl
        simp only [Act.put, List.setIfInBounds_toArray, List.set_cons_zero, List.set_cons_succ]
        with_reducible apply wpV_light
        · simp only [lightOp]
        · intro W hU hF
          have f0 := CS.out W hU
          clear hU hF
          go_simp
          exact rfl
        simp only [Act.put, List.setIfInBounds_toArray, List.set_cons_zero, List.set_cons_succ]
        refine wpV_end (fun W hU _ _ => ?_)
        have U2 : Hid (Upd [] w W) := Lib.hid (U1.out.drew.trans hU)
        clear hU
        refine wpT_end ?_
        by_cases hxy : x = y
        · have dd : (x != y) = false := by simpa using hxy
          have HS2 : Hid (sameToK L M (k + 1)) := Lib.hid (fun j hj => by
            rcases Nat.lt_or_ge j k with h1 | h1
            · exact HS.out j h1
            · obtain rfl : j = k := by omega
              rw [List.getD_eq_getElem?_getD, List.getD_eq_getElem?_getD, HX.out, HY.out, hxy])
          clear hxy
          go_wp2_with fail
          go_roundw
          case rel => exact ⟨k + 1, by go_num, by omega, HS2, U2⟩
          case measure => simp [intOf]; omega
        · have dd : (x != y) = true := by simpa using hxy
          have HZ : Hid (r = false) := Lib.hid (by
            rw [← HR.out, decide_eq_false_iff_not]
            intro e
            have h1 := HX.out
            rw [e, HY.out] at h1
            injection h1 with h1
            exact hxy h1.symm)
          clear hxy
          go_wp2_with fail
          go_ret
          exact ⟨by rw [HZ.out]; rfl, U2.out⟩
      · obtain rfl : k = n := by omega
        have HZ : Hid (r = true) := Lib.hid (by rw [← HR.out, decide_eq_true_iff]; exact sameK_all HN.out HM.out HS.out)
        go_wp2_with fail
        go_ret
        exact ⟨by rw [HZ.out]; rfl, U1.out⟩
  · have d : ((n : Int) != (m : Int)) = true := by simp; omega
    have HZ : Hid (r = false) := Lib.hid (by rw [← HR.out, decide_eq_false_iff_not]; intro e; exact hnm (by rw [← HN.out, ← HM.out, e]))
    go_wp2_with fail
    go_ret
    exact ⟨by rw [HZ.out]; rfl, .refl _ _⟩

end Go.Proofs.YtfbeaklplefojaaDoor

namespace Go.Proofs.YtfbeaklplefojaaDoor.Ev
open Go.RowKit
attribute [local go_sem] litStep_value

set_option maxRecDepth 100000 in
set_option maxHeartbeats 2000000 in
theorem esame_ok (B B' : Nat) (a b : Int) (L M : List Int) (v u : Value) (w : World) (hv : Ow encK 3 w B v L) (hu : Ow encK 3 w B' u M) (hL : L.length ≤ 1000000) (hM : M.length ≤ 1000000) :
    Calls Tryd.prog 6 #[.agg #[.int .i64 a, v], .agg #[.int .i64 b, u]] w fun e w' => e = .returned (.bool (decide (a = b ∧ L = M))) ∧ Upd [] w w' := by
  obtain ⟨A, c, rfl, hnc, hcm⟩ := own_slice hv
  obtain ⟨A', c', rfl, hnc', hcm'⟩ := own_slice hu
  obtain ⟨n, hn⟩ : ∃ n, L.length = n := ⟨_, rfl⟩
  obtain ⟨m, hm⟩ : ∃ m, M.length = m := ⟨_, rfl⟩
  have HV : Hid (Ow encK 3 w B (.slice A n c) L) := Lib.hid (by rw [hn] at hv; exact hv)
  have HU : Hid (Ow encK 3 w B' (.slice A' m c') M) := Lib.hid (by rw [hm] at hu; exact hu)
  have HL := Lib.hid hL
  have HM := Lib.hid hM
  rw [hn, hm]
  clear hn hm hv hu hL hM
  go_enter Tryd.func6, Tryd.ntmps6
  have UA : Hid (Upd [] w ((w.alloc (.cells #[.int .i64 a, .slice A n c] 26)).alloc (.cells #[.int .i64 b, .slice A' m c'] 26))) := Lib.hid (((Upd.refl [] w).alloc _).alloc _)
  by_cases hab : a = b
  · have d0 : (a == b) = true := by simpa using hab
    have HAB := Lib.hid hab
    obtain ⟨q, hq⟩ : ∃ q, decide (a = b ∧ L = M) = q := ⟨_, rfl⟩
    have HQ : Hid (decide (L = M) = q) := Lib.hid (by rw [← hq]; simp [hab])
    rw [hq]
    clear hq hab
    go_wp2_with fail
    refine (ints_ok B B' L M (.slice A n c) (.slice A' m c') _ (HV.out.upd0 UA.out) (HU.out.upd0 UA.out) HL.out HM.out).mono ?_
    rintro e w1 ⟨rfl, u1⟩
    have U1 := Lib.hid (UA.out.trans u1)
    rw [HQ.out]
    clear u1
    go_wp2_with fail
    go_ret
    exact ⟨rfl, U1.out⟩
  · have d0 : (a == b) = false := by simpa using hab
    obtain ⟨q, hq⟩ : ∃ q, decide (a = b ∧ L = M) = q := ⟨_, rfl⟩
    have HQ : Hid (false = q) := Lib.hid (by rw [← hq]; simp [hab])
    rw [hq]
    clear hq hab
    go_wp2_with fail
    go_ret
    rw [← HQ.out]
    exact ⟨rfl, UA.out⟩
end Go.Proofs.YtfbeaklplefojaaDoor.Ev

namespace Go.Proofs.YtfbeaklplefojaaDoor.Ev
open Go.RowKit Assoc MP

def RanPost (s : MS) (l : List Stm) (w : World) (e : Ending) (w' : World) : Prop :=
  ∃ (p : Option Addr) (v u : Value) (a : Int), e = .returned (.tuple #[.pointer p, .agg #[.int .i64 (endE s l), v], u]) ∧ Upd [] w w' ∧ ErrV w' u (errE s l) a ∧ Ow encK 3 w' w.heap.size v (toldE s l) ∧ (toldE s l).length ≤ 1000000 ∧
    (errE s l = 0 → ∃ sb F, p = some ⟨sb, 0, none⟩ ∧ Mdl w.heap.size sb F w' (finE s l))
theorem ran_ok (B sb : Nat) (F : List Nat) (s : MS) (l : List Stm) (v : Value) (w : World) (h : Mdl B sb F w s) (hv : Stms w w.heap.size v l) (hl : sizes l ≤ 900000) (hg : Typed w) :
    Calls Tryd.prog 4 #[.pointer (some ⟨sb, 0, none⟩), v] w (RanPost s l w) := by
  refine (run_ok B sb F s l v w h hv hl hg).mono ?_
  rintro e w' ⟨p, n, v, u, rfl, hu, h⟩
  rcases h with ⟨hr, rfl, rfl, rfl, he⟩ | ⟨hr, h5, rfl, rfl, rfl, rfl⟩ | ⟨hr, h5, rfl, rfl, hl, ho, sb', F', rfl, hm, hf⟩
  · have e1 : errE s l = (rightR s.K l).1 := by unfold errE; rw [if_pos hr]
    have e0 : ¬ errE s l = 0 := by rw [e1]; exact hr
    refine ⟨none, .slice none 0 0, u, (rightR s.K l).2, ?_, hu, by rw [e1]; exact he, ?_, ?_, fun h => absurd h e0⟩
    · unfold endE; rw [if_neg e0]
    · unfold toldE; rw [if_neg e0]; exact Ow.nil _ _ _ _
    · unfold toldE; rw [if_neg e0]; simp
  · have e1 : errE s l = 8 := by unfold errE; rw [if_neg (by simpa using hr), if_pos h5]
    have e0 : ¬ errE s l = 0 := by rw [e1]; decide
    refine ⟨none, .slice none 0 0, _, 0, ?_, hu, by rw [e1]; exact ErrV.errno _ 8 (by decide) (by decide), ?_, ?_, fun h => absurd h e0⟩
    · unfold endE; rw [if_neg e0]
    · unfold toldE; rw [if_neg e0]; exact Ow.nil _ _ _ _
    · unfold toldE; rw [if_neg e0]; simp
  · have e0 : errE s l = 0 := by unfold errE; rw [if_neg (by simpa using hr), if_neg h5]
    have e2 : toldE s l = (evL l (r0 s)).1.told := by unfold toldE; rw [if_pos e0]
    refine ⟨_, v, _, 0, ?_, hu, by rw [e0]; exact .nil _, ?_, by rw [e2]; omega, fun _ => ⟨sb', F', rfl, hm⟩⟩
    · unfold endE; rw [if_pos e0]
    · rw [e2]
      unfold Ow
      rw [flat_ints]
      exact ho
/-- What one Run answered, kept over what is made since. -/
structure Ran (s : MS) (l : List Stm) (w : World) (p : Option Addr) (v u : Value) : Prop where
  err : ∃ a, ErrV w u (errE s l) a
  told : ∃ B, Ow encK 3 w B v (toldE s l)
  len : (toldE s l).length ≤ 1000000
  mdl : errE s l = 0 → ∃ B sb F, p = some ⟨sb, 0, none⟩ ∧ Mdl B sb F w (finE s l)
theorem Ran.upd0 {s : MS} {l : List Stm} {w w' : World} {p : Option Addr} {v u : Value} (h : Ran s l w p v u) (hu : Upd [] w w') : Ran s l w' p v u := by
  obtain ⟨⟨a, h1⟩, ⟨B, h2⟩, h3, h4⟩ := h
  refine ⟨⟨a, h1.upd hu⟩, ⟨B, h2.upd0 hu⟩, h3, fun h0 => ?_⟩
  obtain ⟨B', sb, F, e, hm⟩ := h4 h0
  exact ⟨B', sb, F, e, hm.upd0 hu⟩
theorem ran_law (B sb : Nat) (F : List Nat) (s : MS) (l : List Stm) (v : Value) (w : World) (h : Mdl B sb F w s) (hv : Stms w w.heap.size v l) (hl : sizes l ≤ 900000) (hg : Typed w) :
    Calls Tryd.prog 4 #[.pointer (some ⟨sb, 0, none⟩), v] w fun e w' => ∃ (p : Option Addr) (A : Option Addr) (n c : Nat) (u : Value), e = .returned (.tuple #[.pointer p, .agg #[.int .i64 (endE s l), .slice A n c], u]) ∧ Ran s l w' p (.slice A n c) u ∧ Upd [] w w' := by
  refine (ran_ok B sb F s l v w h hv hl hg).mono ?_
  rintro e w' ⟨p, v, u, a, rfl, hu, he, ho, hl, hm⟩
  obtain ⟨A, c, rfl, _, _⟩ := own_slice ho
  exact ⟨p, A, _, c, u, rfl, ⟨⟨a, he⟩, ⟨_, ho⟩, hl, fun h0 => by obtain ⟨sb, F, e, h⟩ := hm h0; exact ⟨_, sb, F, e, h⟩⟩, hu⟩
theorem ran_no {s : MS} {l : List Stm} {w : World} {p : Option Addr} {v u : Value} (h : Ran s l w p v u) : Calls Tryd.prog 7 #[u] w fun e w' => e = .returned (.int .i64 (errE s l)) ∧ w = w' := by
  obtain ⟨a, h⟩ := h.err
  exact no_err h
/-- Are two ends the same? -/
theorem ran_same {s t : MS} {l m : List Stm} {w : World} {p q : Option Addr} {v u v' u' : Value} (a b : Int) (h : Ran s l w p v u) (h' : Ran t m w q v' u') :
    Calls Tryd.prog 6 #[.agg #[.int .i64 a, v], .agg #[.int .i64 b, v']] w fun e w' => e = .returned (.bool (decide (a = b ∧ toldE s l = toldE t m))) ∧ Upd [] w w' := by
  obtain ⟨B, h1⟩ := h.told
  obtain ⟨B', h2⟩ := h'.told
  exact esame_ok B B' a b _ _ v v' w h1 h2 h.len h'.len
end Go.Proofs.YtfbeaklplefojaaDoor.Ev

namespace Go.Proofs.YtfbeaklplefojaaDoor
open Go.RowKit

theorem stms_one {w : World} {g : Nat} {t : TypeId} {a1 a2 a3 a4 a5 a6 a7 : Int} {vb ve : Value} {bo el : List Stm} (h : Blk w g t (stmCells a1 a2 a3 a4 a5 a6 a7 vb ve).toArray) (B : Nat) (hg : g < B) (c : Nat) (hc : 1 ≤ c) (hm : c ≤ 9223372036854775807) (hb : Stms w B vb bo) (he : Stms w B ve el) :
    Stms w B (.slice (some ⟨g, 0, none⟩) 1 c) [.mk a1 a2 a3 a4 a5 a6 a7 bo el] := by
  have one : ∀ {k : Nat} {s : Stm}, [Stm.mk a1 a2 a3 a4 a5 a6 a7 bo el][k]? = some s → k = 0 ∧ s = .mk a1 a2 a3 a4 a5 a6 a7 bo el := fun {k s} h => by
    cases k with
    | zero => simp at h; exact ⟨rfl, h.symm⟩
    | succ k => simp at h
  refine .mk _ 1 c _ (fun _ => vb) (fun _ => ve) rfl hc hm (fun k b1 b2 b3 b4 b5 b6 b7 b e hk => ?_) (fun k b1 b2 b3 b4 b5 b6 b7 b e hk => ?_) (fun k b1 b2 b3 b4 b5 b6 b7 b e hk => ?_)
  · obtain ⟨rfl, hs⟩ := one hk
    cases hs
    refine ⟨_, rfl, hg, fun j u hu => ?_⟩
    rw [add_head, h.cell, ← Array.getElem?_toList, Nat.zero_mul, Nat.zero_add]
    exact hu
  · obtain ⟨rfl, hs⟩ := one hk
    cases hs
    exact hb
  · obtain ⟨rfl, hs⟩ := one hk
    cases hs
    exact he
theorem stms_nil (w : World) (B : Nat) : Stms w B (.slice none 0 0) [] := .mk none 0 0 [] (fun _ => .nilIface) (fun _ => .nilIface) rfl (Nat.le_refl _) (by omega) (by simp) (by simp) (by simp)
theorem src_nil (w : World) : Src w 1 (.slice none 0 0) 0 (([] : List Int).map (Value.int .i64)) := ⟨rfl, none, 0, rfl, by simp⟩

end Go.Proofs.YtfbeaklplefojaaDoor

namespace Go.Proofs.YtfbeaklplefojaaDoor
open Go.RowKit

def rowsOf (vb ve : Nat → Value) : Nat → List Stm → List Value
  | _, [] => []
  | k, .mk a1 a2 a3 a4 a5 a6 a7 b e :: l => stmCells a1 a2 a3 a4 a5 a6 a7 (vb k) (ve k) ++ rowsOf vb ve (k + 1) l
theorem rowsOf_len (vb ve : Nat → Value) : ∀ (l : List Stm) (k : Nat), (rowsOf vb ve k l).length = l.length * 9
  | [], _ => rfl
  | .mk .. :: l, k => by unfold rowsOf; simp [stmCells, rowsOf_len vb ve l]; omega
theorem rowsOf_get (vb ve : Nat → Value) : ∀ (l : List Stm) (k j : Nat) (u : Value), (rowsOf vb ve k l)[j]? = some u →
    ∃ i r a1 a2 a3 a4 a5 a6 a7 b e, l[i]? = some (.mk a1 a2 a3 a4 a5 a6 a7 b e) ∧ (stmCells a1 a2 a3 a4 a5 a6 a7 (vb (k + i)) (ve (k + i)))[r]? = some u ∧ j = i * 9 + r
  | [], k, j, u, h => by simp [rowsOf] at h
  | .mk a1 a2 a3 a4 a5 a6 a7 b e :: l, k, j, u, h => by
    unfold rowsOf at h
    by_cases hj : j < 9
    · rw [List.getElem?_append_left (by simp [stmCells]; omega)] at h
      exact ⟨0, j, a1, a2, a3, a4, a5, a6, a7, b, e, rfl, h, by omega⟩
    · rw [List.getElem?_append_right (by simp [stmCells]; omega)] at h
      obtain ⟨i, r, b1, b2, b3, b4, b5, b6, b7, b', e', h1, h2, h3⟩ := rowsOf_get vb ve l (k + 1) _ u h
      refine ⟨i + 1, r, b1, b2, b3, b4, b5, b6, b7, b', e', by simpa using h1, ?_, ?_⟩
      · rw [show k + (i + 1) = k + 1 + i by omega]; exact h2
      · simp [stmCells] at h3; omega
def StmsR (w : World) (B : Nat) : List Stm → List Value → Prop
  | [], xs => xs = []
  | .mk a1 a2 a3 a4 a5 a6 a7 b e :: l, xs => ∃ vb ve ys, xs = stmCells a1 a2 a3 a4 a5 a6 a7 vb ve ++ ys ∧ Stms w B vb b ∧ Stms w B ve e ∧ StmsR w B l ys
theorem StmsR.keep {w w' : World} {B B' : Nat} (hk : Below B w w') (hB : B ≤ B') : ∀ {l : List Stm} {xs : List Value}, StmsR w B l xs → StmsR w' B' l xs
  | [], _, h => h
  | .mk .. :: l, xs, ⟨vb, ve, ys, h1, h2, h3, h4⟩ => ⟨vb, ve, ys, h1, (h2.belowW hk).more hB, (h3.belowW hk).more hB, StmsR.keep hk hB h4⟩
theorem StmsR.append {w : World} {B : Nat} : ∀ {l m : List Stm} {xs ys : List Value}, StmsR w B l xs → StmsR w B m ys → StmsR w B (l ++ m) (xs ++ ys)
  | [], m, xs, ys, h, h' => by cases h; exact h'
  | .mk .. :: l, m, xs, ys, ⟨vb, ve, zs, h1, h2, h3, h4⟩, h' => ⟨vb, ve, zs ++ ys, by rw [h1]; simp, h2, h3, StmsR.append h4 h'⟩
theorem StmsR.one {w : World} {B : Nat} : ∀ {l : List Stm} {xs : List Value}, StmsR w B l xs → ∀ u ∈ xs, u.oneCell' = true
  | [], xs, h => by cases h; simp
  | .mk .. :: l, xs, ⟨vb, ve, zs, h1, h2, h3, h4⟩ => by
    intro u hu
    rw [h1] at hu
    rcases List.mem_append.1 hu with h | h
    · obtain ⟨A, n, c, rfl⟩ := h2.slice
      obtain ⟨A', n', c', rfl⟩ := h3.slice
      simp [stmCells] at h
      rcases h with rfl | rfl | rfl | rfl | rfl | rfl | rfl | rfl | rfl <;> rfl
    · exact StmsR.one h4 u h
theorem StmsR.get {w : World} {B : Nat} : ∀ {l : List Stm} {xs : List Value} {i : Nat} {a1 a2 a3 a4 a5 a6 a7 : Int} {b e : List Stm}, StmsR w B l xs → l[i]? = some (.mk a1 a2 a3 a4 a5 a6 a7 b e) →
    ∃ vb ve, Stms w B vb b ∧ Stms w B ve e ∧ ∀ j u, (stmCells a1 a2 a3 a4 a5 a6 a7 vb ve)[j]? = some u → xs[i * 9 + j]? = some u
  | [], xs, i, _, _, _, _, _, _, _, _, _, _, h => by simp at h
  | .mk .. :: l, xs, 0, _, _, _, _, _, _, _, _, _, ⟨vb, ve, ys, h1, h2, h3, h4⟩, h => by
    simp at h
    obtain ⟨rfl, rfl, rfl, rfl, rfl, rfl, rfl, rfl, rfl⟩ := h
    refine ⟨vb, ve, h2, h3, fun j u hj => ?_⟩
    have hj' := (List.getElem?_eq_some_iff.1 hj).1
    rw [h1, List.getElem?_append_left (by omega), Nat.zero_mul, Nat.zero_add]
    exact hj
  | .mk .. :: l, xs, i + 1, _, _, _, _, _, _, _, _, _, ⟨vb, ve, ys, h1, h2, h3, h4⟩, h => by
    obtain ⟨vb', ve', g1, g2, g3⟩ := StmsR.get h4 (by simpa using h)
    refine ⟨vb', ve', g1, g2, fun j u hj => ?_⟩
    rw [h1, List.getElem?_append_right (by simp [stmCells]; omega)]
    rw [show ∀ p : List Value, p.length = 9 → (i + 1) * 9 + j - p.length = i * 9 + j from fun p hp => by omega]
    · exact g3 j u hj
    · simp [stmCells]
theorem stmsR_of {w : World} {B : Nat} {A : Option Addr} {n c : Nat} {l : List Stm} (h : Stms w B (.slice A n c) l) (hB : B ≤ w.heap.size) : ∃ xs, Src w 9 (.slice A n c) n xs ∧ StmsR w B l xs := by
  cases h with
  | mk _ _ _ _ vb ve hn hc hm hcell hb he =>
    refine ⟨rowsOf vb ve 0 l, ⟨by rw [rowsOf_len, hn], A, c, rfl, fun j u hj => ?_⟩, ?_⟩
    · obtain ⟨i, r, a1, a2, a3, a4, a5, a6, a7, b, e, h1, h2, rfl⟩ := rowsOf_get vb ve l 0 j u hj
      rw [Nat.zero_add] at h2
      obtain ⟨ad, rfl, hl, hcc⟩ := hcell i a1 a2 a3 a4 a5 a6 a7 b e h1
      exact ⟨ad, rfl, by omega, hcc r u h2⟩
    · have key : ∀ (l' : List Stm) (k : Nat), (∀ i s, l'[i]? = some s → l[k + i]? = some s) → StmsR w B l' (rowsOf vb ve k l') := by
        intro l'
        induction l' with
        | nil => intro k _; rfl
        | cons s l' ih =>
          intro k hk
          cases s with
          | mk a1 a2 a3 a4 a5 a6 a7 b e =>
            have h0 := hk 0 _ rfl
            exact ⟨vb k, ve k, _, rfl, hb k a1 a2 a3 a4 a5 a6 a7 b e h0, he k a1 a2 a3 a4 a5 a6 a7 b e h0, ih (k + 1) fun i s hi => by rw [show k + 1 + i = k + (i + 1) by omega]; exact hk (i + 1) s (by simpa using hi)⟩
      exact key l 0 fun i s hi => by rw [Nat.zero_add]; exact hi
theorem stms_of_own {w : World} {B B' H n : Nat} {v : Value} {l : List Stm} {xs : List Value} (ho : w.ownsRow B' 60 9 v n xs) (hr : StmsR w B l xs) (hn : n = l.length) (hB : B ≤ H) (hH : w.heap.size ≤ H) : Stms w H v l := by
  obtain ⟨A, c, rfl, h1, h2⟩ := own_slice ho
  obtain ⟨_, A', c', he, hs⟩ := Src.of_own ho
  injection he with he _ _
  subst he
  have vbe : ∀ {i : Nat} {a1 a2 a3 a4 a5 a6 a7 : Int} {b e : List Stm}, l[i]? = some (.mk a1 a2 a3 a4 a5 a6 a7 b e) → Stms w B (xs.getD (i * 9 + 7) .nilIface) b ∧ Stms w B (xs.getD (i * 9 + 8) .nilIface) e ∧
      ∀ j u, (stmCells a1 a2 a3 a4 a5 a6 a7 (xs.getD (i * 9 + 7) .nilIface) (xs.getD (i * 9 + 8) .nilIface))[j]? = some u → xs[i * 9 + j]? = some u := by
    intro i a1 a2 a3 a4 a5 a6 a7 b e hi
    obtain ⟨vb, ve, g1, g2, g3⟩ := hr.get hi
    have e7 : xs.getD (i * 9 + 7) .nilIface = vb := by rw [List.getD_eq_getElem?_getD, g3 7 _ rfl]; rfl
    have e8 : xs.getD (i * 9 + 8) .nilIface = ve := by rw [List.getD_eq_getElem?_getD, g3 8 _ rfl]; rfl
    rw [e7, e8]
    exact ⟨g1, g2, g3⟩
  refine .mk A n c l (fun i => xs.getD (i * 9 + 7) .nilIface) (fun i => xs.getD (i * 9 + 8) .nilIface) hn.symm h1 (by simpa [maxLen] using h2) (fun k a1 a2 a3 a4 a5 a6 a7 b e h => ?_) (fun k a1 a2 a3 a4 a5 a6 a7 b e h => (vbe h).1.more hB) (fun k a1 a2 a3 a4 a5 a6 a7 b e h => (vbe h).2.1.more hB)
  obtain ⟨_, _, g3⟩ := vbe h
  obtain ⟨ad, rfl, hl, c0⟩ := hs (k * 9 + 0) _ (g3 0 _ rfl)
  refine ⟨ad, rfl, by omega, fun j u hj => ?_⟩
  obtain ⟨ad', e, _, cj⟩ := hs (k * 9 + j) u (g3 j u hj)
  cases e
  exact cj
theorem stm_elem : Elem Tryd.prog 22 60 9 104 := .mk' (z := ((Tryd.prog.info? 60).bind (·.zero)).getD undef) Tryd.underlying22 (by kernel_rfl) (by kernel_rfl) (by omega)
theorem list_le_sizes : ∀ (l : List Stm), l.length ≤ sizes l
  | [] => Nat.le_refl _
  | .mk .. :: l => by have := list_le_sizes l; rw [sizes_cons, size_mk]; simp; omega
end Go.Proofs.YtfbeaklplefojaaDoor

namespace Go.Proofs.YtfbeaklplefojaaDoor
open Go.RowKit Assoc MP
attribute [local go_sem] litStep_value

def kOk (k : Int) : Bool := decide (1 ≤ k ∧ k ≤ 3)
/-- The first kind that may not be. -/
def badK (xs : List Int) : Option Nat := xs.findIdx? (fun k => !kOk k)
def newS (xs : List Int) : MS := ⟨xs, List.replicate xs.length []⟩
theorem good_newS {xs : List Int} (h : xs.length ≤ 8) : MP.Good (newS xs) := by
  refine ⟨by simp [newS], fun l hl => ?_, fun l hl => ?_, h, fun l hl => ?_⟩ <;> (have := List.eq_of_mem_replicate hl; subst this)
  · exact .nil
  · simp
  · simp
theorem badK_at {xs : List Int} {k : Nat} (h : ∀ j, j < k → kOk (xs.getD j 0) = true) {y : Int} (hy : xs[k]? = some y) (hb : kOk y = false) : badK xs = some k := by
  unfold badK
  obtain ⟨hk, rfl⟩ := List.getElem?_eq_some_iff.1 hy
  rw [List.findIdx?_eq_some_iff_getElem]
  refine ⟨hk, by simp [hb], fun j hj => ?_⟩
  have := h j hj
  rw [List.getD_eq_getElem?_getD, List.getElem?_eq_getElem (by omega)] at this
  simpa using this
theorem badK_no {xs : List Int} (h : ∀ j, j < xs.length → kOk (xs.getD j 0) = true) : badK xs = none := by
  unfold badK
  rw [List.findIdx?_eq_none_iff]
  intro x hx
  obtain ⟨j, hj, rfl⟩ := List.getElem_of_mem hx
  have := h j hj
  rw [List.getD_eq_getElem?_getD, List.getElem?_eq_getElem hj] at this
  simpa using this
def MNewPost (xs : List Int) (w : World) (e : Ending) (w' : World) : Prop := Upd [] w w' ∧
  ((∃ i g, badK xs = some i ∧ e = .returned (.tuple #[.pointer none, .iface 48 (.pointer (some ⟨g, 0, none⟩))]) ∧ Blk w' g 52 #[.int .i64 ((i : Int) + 1), .int .i64 17]) ∨
   (badK xs = none ∧ 8 < xs.length ∧ e = .returned (.tuple #[.pointer none, .iface 39 (.int .i64 8)])) ∨
   (badK xs = none ∧ xs.length ≤ 8 ∧ ∃ sb F, e = .returned (.tuple #[.pointer (some ⟨sb, 0, none⟩), .nilIface]) ∧ Mdl w.heap.size sb F w' (newS xs)))
set_option maxRecDepth 100000 in
set_option maxHeartbeats 4000000 in
theorem m_new (A : Option Addr) (n c : Nat) (xs : List Int) (w : World) (h : Rd encK w (.slice A n c) xs) (hn : xs.length = n) (hl : n ≤ 1000) :
    Calls Tryd.prog 17 #[.slice A n c] w fun e w' => MNewPost xs w e w' := by
  have hm1 : ∀ w, (Instr.makeMap 65 none).run Tryd.prog w = .ok (.map (some w.heap.size)) (w.alloc (.map #[] 0)) := fun _ => by kernel_rfl
  have HR := Lib.hid h
  have HN := Lib.hid hn
  clear h hn
  go_enter Tryd.func17, Tryd.ntmps17
  go_wp2_with fail
  refine (clone_ints A n c xs w HR.out HN.out hl).mono ?_
  rintro e w1 ⟨v, rfl, o1, u1⟩
  obtain ⟨A1, k1, rfl, _, _⟩ := own_slice o1
  have O1 := Lib.hid o1
  have U1 := Lib.hid u1
  clear o1 u1
  obtain ⟨nk, hnk⟩ : ∃ nk, xs.length = nk := ⟨_, rfl⟩
  rw [hnk] at O1 ⊢
  have HNK := Lib.hid hnk
  clear hnk
  have UX : Hid (Upd [] w1 ((w1.alloc (.cells #[] 65)).alloc (.cells #[.slice A1 nk k1, .slice (some ⟨w1.heap.size, 0, none⟩) 0 0] 63))) := Lib.hid (((Upd.refl [] w1).alloc _).alloc _)
  have h2 : (w1.alloc (.cells #[] 65)).heap.size = w1.heap.size + 1 := by simp
  have C0 : Hid (MdlSt w.heap.size (w1.heap.size + 1) (.slice A1 nk k1) w1.heap.size 0 [] ((w1.alloc (.cells #[] 65)).alloc (.cells #[.slice A1 nk k1, .slice (some ⟨w1.heap.size, 0, none⟩) 0 0] 63)) ⟨xs, List.replicate 0 []⟩) := Lib.hid ⟨Blk.newAt 63 _ h2, O1.out.upd0 UX.out, own_made 1 ((Blk.new w1 65 #[]).upd ((Upd.refl [] _).alloc _) (by simp)) U1.out.size, by simp, .nil, by have := U1.out.size; omega, by simp⟩
  go_wp2_with fail
  generalize ((w1.alloc (.cells #[] 65)).alloc (.cells #[.slice A1 nk k1, .slice (some ⟨w1.heap.size, 0, none⟩) 0 0] 63)) = w2 at *
  have U2 := Lib.hid (U1.out.trans UX.out)
  obtain ⟨ob, hob⟩ : ∃ ob, w1.heap.size + 1 = ob := ⟨_, rfl⟩
  rw [hob] at C0
  try rw [h2]
  try rw [hob]
  clear h2 hob UX
  go_loopw [14] (fun v wr => ∃ k : Nat, v = .int .i64 k ∧ k ≤ n ∧ Hid (∀ j, j < k → kOk (xs.getD j 0) = true) ∧ Hid ((∃ gc1 cc1 ms1, MdlSt w.heap.size ob (.slice A1 nk k1) gc1 cc1 ms1 wr ⟨xs, List.replicate k []⟩) ∧ Upd [] w wr)) (fun v _ => n - (intOf v).toNat)
  case atStart => exact ⟨0, rfl, by omega, Lib.hid (fun j hj => by omega), Lib.hid ⟨⟨_, _, _, C0.out⟩, U2.out⟩⟩
  case round =>
    obtain ⟨k, rfl, hk, HOK, HK⟩ := hrel
    obtain ⟨⟨gc1, cc1, ms1, hst⟩, hu⟩ := HK.out
    rename World => wi
    have ST := Lib.hid hst
    have UI := Lib.hid hu
    have OB : Hid (Blk wi ob 63 #[.slice A1 nk k1, .slice (some ⟨gc1, 0, none⟩) k cc1]) := Lib.hid (by have := hst.box; rwa [show (⟨xs, List.replicate k []⟩ : MS).L.length = k by simp] at this)
    have ON : Hid (wi.ownsRow w.heap.size 65 1 (.slice (some ⟨gc1, 0, none⟩) k cc1) k (mapsV ms1)) := Lib.hid (by have := hst.c; rwa [show (⟨xs, List.replicate k []⟩ : MS).L.length = k by simp] at this)
    clear HK hst hu C0
    by_cases hkn : k < n
    · obtain ⟨y, hy⟩ : ∃ y, xs[k]? = some y := ⟨_, List.getElem?_eq_getElem (by rw [HN.out]; exact hkn)⟩
      obtain ⟨ad, rfl, hlt, hcells⟩ := (HR.out.upd0 UI.out).at_ hy
      have e0 : wi.cell? (ad.add k) = some (.int .i64 y) := by have := hcells 0 _ rfl; rwa [show k * encK.s + 0 = k by simp [encI]] at this
      have HY := Lib.hid hy
      have q1 : (0 : Int) ≤ (k : Int) := by omega
      have q2 : (k : Int) < (n : Int) := by omega
      clear hy hcells
      by_cases h1 : y = 1
      · have d1 : (y == 1) = true := by simpa using h1
        have HOKY : Hid (kOk y = true) := Lib.hid (by rw [h1]; rfl)
        clear h1
        have HO2 : Hid (∀ j, j < k + 1 → kOk (xs.getD j 0) = true) := Lib.hid (fun j hj => by
          rcases Nat.lt_or_ge j k with h1 | h1
          · exact HOK.out j h1
          · obtain rfl : j = k := by omega
            rw [List.getD_eq_getElem?_getD, HY.out]
            exact HOKY.out)
        have y1 : wi.cell? ⟨ob, 1, none⟩ = some (.slice (some ⟨gc1, 0, none⟩) k cc1) := OB.out.cell 1
        go_wp2_with (at_builtin; refine stopped ?_)
        refine Lib.hid ?_
        refine wpList_app _ (by rfl) (.tmp 29) (.tmp 31) _ (by rfl) elem_map (.slice (some ⟨gc1, 0, none⟩) k cc1) _ (by rfl) (by rfl) (own_upd0 ON.out (((Upd.refl [] wi).alloc (.map #[] 0)).alloc (.cells #[.map (some wi.heap.size)] 65))) (.of_blk (Blk.newAt 65 #[.map (some wi.heap.size)] (H := wi.heap.size + 1) (by simp)) (m := 1) 1 rfl) (by intro u hu; simp at hu; subst hu; rfl) (by simp only [maxLen]; omega) (by omega) (Nat.le_trans UI.out.size (by simp; omega)) ?_
        intro v7 w7 o7 u7 b7
        have U6 : Hid (Upd [] wi ((wi.alloc (.map #[] 0)).alloc (.cells #[.map (some wi.heap.size)] 65))) := Lib.hid (((Upd.refl [] wi).alloc _).alloc _)
        have IM6 : Hid (IMap ((wi.alloc (.map #[] 0)).alloc (.cells #[.map (some wi.heap.size)] 65)) .i64 wi.heap.size (mapI []) 0) := Lib.hid (((IMap.new wi .i64).upd ((Upd.refl [] _).alloc _) (by simp)).congr (fun _ => rfl))
        have O7 : Hid (w7.ownsRow w.heap.size 65 1 v7 (k + 1) (mapsV ms1 ++ [.map (some wi.heap.size)])) := Lib.hid o7
        have U7 := Lib.hid u7
        obtain ⟨g7, cg7, cur7, rfl, _⟩ := own_form O7.out (by omega)
        have OB7 := Lib.hid ((OB.out.upd U6.out (by simp)).upd u7 (by intro hm; exact own_type ON.out OB.out (by decide) (by simpa using hm)))
        clear o7 u7 b7 y1 e0
        have z3 : w7.cell? ⟨ob, 1, none⟩ = some (.slice (some ⟨gc1, 0, none⟩) k cc1) := OB7.out.cell 1
        have z4 : w7.frozen? ⟨ob, 1, none⟩ = false := OB7.out.frozen 1
        have z5 : ob < w7.heap.size := OB7.out.lt
        have U8 : Hid (Upd [ob] w7 (w7.setCell ⟨ob, 1, none⟩ (.slice (some ⟨g7, 0, none⟩) (k + 1) cg7))) := Lib.hid ((Upd.refl [ob] w7).setCell (.inl (by simp)) _)
        have ST8 : Hid (∃ gc1 cc1 ms1, MdlSt w.heap.size ob (.slice A1 nk k1) gc1 cc1 ms1 (w7.setCell ⟨ob, 1, none⟩ (.slice (some ⟨g7, 0, none⟩) (k + 1) cg7)) ⟨xs, List.replicate (k + 1) []⟩) := Lib.hid (by
          have UT : Upd [ob, gc1] wi (w7.setCell ⟨ob, 1, none⟩ (.slice (some ⟨g7, 0, none⟩) (k + 1) cg7)) := ((U6.out.mono (by simp)).trans (U7.out.mono (by intro y hy; simp [Value.ownBlock] at hy; subst hy; exact .inl (by simp)))).trans (U8.out.mono (by simp))
          have IMX : IMap (w7.setCell ⟨ob, 1, none⟩ (.slice (some ⟨g7, 0, none⟩) (k + 1) cg7)) .i64 wi.heap.size (mapI []) ([] : AL).length := by
            have im7 := IM6.out.upd U7.out (by simp [Value.ownBlock]; intro e; have := (own_lt ON.out (b := gc1) rfl).2; omega)
            exact im7.upd U8.out (by simp; intro e; have := OB.out.lt; omega)
          have hp := ST.out.push (m := wi.heap.size) (l := []) (gc' := g7) (cc' := cg7) UT (by rw [show (⟨xs, List.replicate k []⟩ : MS).L.length = k by simp]; exact OB7.out.set_eq rfl) (by rw [show (⟨xs, List.replicate k []⟩ : MS).L.length = k by simp]; exact own_upd O7.out U8.out (by intro b hb; simp; rintro rfl; exact own_type O7.out OB7.out (by decide) hb)) IMX (Nat.le_refl _) UI.out.size
          rw [List.replicate_succ']
          exact ⟨_, _, _, hp⟩)
        have UI8 : Hid (Upd [] w (w7.setCell ⟨ob, 1, none⟩ (.slice (some ⟨g7, 0, none⟩) (k + 1) cg7))) := Lib.hid (by
          have h1 := (UI.out.trans U6.out).trans' U7.out (fun x hx => .inr (own_lt ON.out (by simpa using hx)).1)
          exact h1.trans' U8.out (fun x hx => by simp at hx; subst hx; exact .inr ST.out.bs))
        go_wp2_with fail
        go_roundw
        case rel => exact ⟨k + 1, by go_num, by omega, HO2, Lib.hid ⟨ST8.out, UI8.out⟩⟩
        case measure => simp [intOf]; omega
      have d1 : (y == 1) = false := by simpa using h1
      by_cases h2 : y = 2
      · have d2 : (y == 2) = true := by simpa using h2
        have HOKY : Hid (kOk y = true) := Lib.hid (by rw [h2]; rfl)
        clear h1 h2
        have HO2 : Hid (∀ j, j < k + 1 → kOk (xs.getD j 0) = true) := Lib.hid (fun j hj => by
          rcases Nat.lt_or_ge j k with h1 | h1
          · exact HOK.out j h1
          · obtain rfl : j = k := by omega
            rw [List.getD_eq_getElem?_getD, HY.out]
            exact HOKY.out)
        have y1 : wi.cell? ⟨ob, 1, none⟩ = some (.slice (some ⟨gc1, 0, none⟩) k cc1) := OB.out.cell 1
        go_wp2_with (at_builtin; refine stopped ?_)
        refine Lib.hid ?_
        refine wpList_app _ (by rfl) (.tmp 29) (.tmp 31) _ (by rfl) elem_map (.slice (some ⟨gc1, 0, none⟩) k cc1) _ (by rfl) (by rfl) (own_upd0 ON.out (((Upd.refl [] wi).alloc (.map #[] 0)).alloc (.cells #[.map (some wi.heap.size)] 65))) (.of_blk (Blk.newAt 65 #[.map (some wi.heap.size)] (H := wi.heap.size + 1) (by simp)) (m := 1) 1 rfl) (by intro u hu; simp at hu; subst hu; rfl) (by simp only [maxLen]; omega) (by omega) (Nat.le_trans UI.out.size (by simp; omega)) ?_
        intro v7 w7 o7 u7 b7
        have U6 : Hid (Upd [] wi ((wi.alloc (.map #[] 0)).alloc (.cells #[.map (some wi.heap.size)] 65))) := Lib.hid (((Upd.refl [] wi).alloc _).alloc _)
        have IM6 : Hid (IMap ((wi.alloc (.map #[] 0)).alloc (.cells #[.map (some wi.heap.size)] 65)) .i64 wi.heap.size (mapI []) 0) := Lib.hid (((IMap.new wi .i64).upd ((Upd.refl [] _).alloc _) (by simp)).congr (fun _ => rfl))
        have O7 : Hid (w7.ownsRow w.heap.size 65 1 v7 (k + 1) (mapsV ms1 ++ [.map (some wi.heap.size)])) := Lib.hid o7
        have U7 := Lib.hid u7
        obtain ⟨g7, cg7, cur7, rfl, _⟩ := own_form O7.out (by omega)
        have OB7 := Lib.hid ((OB.out.upd U6.out (by simp)).upd u7 (by intro hm; exact own_type ON.out OB.out (by decide) (by simpa using hm)))
        clear o7 u7 b7 y1 e0
        have z3 : w7.cell? ⟨ob, 1, none⟩ = some (.slice (some ⟨gc1, 0, none⟩) k cc1) := OB7.out.cell 1
        have z4 : w7.frozen? ⟨ob, 1, none⟩ = false := OB7.out.frozen 1
        have z5 : ob < w7.heap.size := OB7.out.lt
        have U8 : Hid (Upd [ob] w7 (w7.setCell ⟨ob, 1, none⟩ (.slice (some ⟨g7, 0, none⟩) (k + 1) cg7))) := Lib.hid ((Upd.refl [ob] w7).setCell (.inl (by simp)) _)
        have ST8 : Hid (∃ gc1 cc1 ms1, MdlSt w.heap.size ob (.slice A1 nk k1) gc1 cc1 ms1 (w7.setCell ⟨ob, 1, none⟩ (.slice (some ⟨g7, 0, none⟩) (k + 1) cg7)) ⟨xs, List.replicate (k + 1) []⟩) := Lib.hid (by
          have UT : Upd [ob, gc1] wi (w7.setCell ⟨ob, 1, none⟩ (.slice (some ⟨g7, 0, none⟩) (k + 1) cg7)) := ((U6.out.mono (by simp)).trans (U7.out.mono (by intro y hy; simp [Value.ownBlock] at hy; subst hy; exact .inl (by simp)))).trans (U8.out.mono (by simp))
          have IMX : IMap (w7.setCell ⟨ob, 1, none⟩ (.slice (some ⟨g7, 0, none⟩) (k + 1) cg7)) .i64 wi.heap.size (mapI []) ([] : AL).length := by
            have im7 := IM6.out.upd U7.out (by simp [Value.ownBlock]; intro e; have := (own_lt ON.out (b := gc1) rfl).2; omega)
            exact im7.upd U8.out (by simp; intro e; have := OB.out.lt; omega)
          have hp := ST.out.push (m := wi.heap.size) (l := []) (gc' := g7) (cc' := cg7) UT (by rw [show (⟨xs, List.replicate k []⟩ : MS).L.length = k by simp]; exact OB7.out.set_eq rfl) (by rw [show (⟨xs, List.replicate k []⟩ : MS).L.length = k by simp]; exact own_upd O7.out U8.out (by intro b hb; simp; rintro rfl; exact own_type O7.out OB7.out (by decide) hb)) IMX (Nat.le_refl _) UI.out.size
          rw [List.replicate_succ']
          exact ⟨_, _, _, hp⟩)
        have UI8 : Hid (Upd [] w (w7.setCell ⟨ob, 1, none⟩ (.slice (some ⟨g7, 0, none⟩) (k + 1) cg7))) := Lib.hid (by
          have h1 := (UI.out.trans U6.out).trans' U7.out (fun x hx => .inr (own_lt ON.out (by simpa using hx)).1)
          exact h1.trans' U8.out (fun x hx => by simp at hx; subst hx; exact .inr ST.out.bs))
        go_wp2_with fail
        go_roundw
        case rel => exact ⟨k + 1, by go_num, by omega, HO2, Lib.hid ⟨ST8.out, UI8.out⟩⟩
        case measure => simp [intOf]; omega
      have d2 : (y == 2) = false := by simpa using h2
      by_cases h3 : y = 3
      · have d3 : (y == 3) = true := by simpa using h3
        have HOKY : Hid (kOk y = true) := Lib.hid (by rw [h3]; rfl)
        clear h1 h2 h3
        have HO2 : Hid (∀ j, j < k + 1 → kOk (xs.getD j 0) = true) := Lib.hid (fun j hj => by
          rcases Nat.lt_or_ge j k with h1 | h1
          · exact HOK.out j h1
          · obtain rfl : j = k := by omega
            rw [List.getD_eq_getElem?_getD, HY.out]
            exact HOKY.out)
        have y1 : wi.cell? ⟨ob, 1, none⟩ = some (.slice (some ⟨gc1, 0, none⟩) k cc1) := OB.out.cell 1
        go_wp2_with (at_builtin; refine stopped ?_)
        refine Lib.hid ?_
        refine wpList_app _ (by rfl) (.tmp 29) (.tmp 31) _ (by rfl) elem_map (.slice (some ⟨gc1, 0, none⟩) k cc1) _ (by rfl) (by rfl) (own_upd0 ON.out (((Upd.refl [] wi).alloc (.map #[] 0)).alloc (.cells #[.map (some wi.heap.size)] 65))) (.of_blk (Blk.newAt 65 #[.map (some wi.heap.size)] (H := wi.heap.size + 1) (by simp)) (m := 1) 1 rfl) (by intro u hu; simp at hu; subst hu; rfl) (by simp only [maxLen]; omega) (by omega) (Nat.le_trans UI.out.size (by simp; omega)) ?_
        intro v7 w7 o7 u7 b7
        have U6 : Hid (Upd [] wi ((wi.alloc (.map #[] 0)).alloc (.cells #[.map (some wi.heap.size)] 65))) := Lib.hid (((Upd.refl [] wi).alloc _).alloc _)
        have IM6 : Hid (IMap ((wi.alloc (.map #[] 0)).alloc (.cells #[.map (some wi.heap.size)] 65)) .i64 wi.heap.size (mapI []) 0) := Lib.hid (((IMap.new wi .i64).upd ((Upd.refl [] _).alloc _) (by simp)).congr (fun _ => rfl))
        have O7 : Hid (w7.ownsRow w.heap.size 65 1 v7 (k + 1) (mapsV ms1 ++ [.map (some wi.heap.size)])) := Lib.hid o7
        have U7 := Lib.hid u7
        obtain ⟨g7, cg7, cur7, rfl, _⟩ := own_form O7.out (by omega)
        have OB7 := Lib.hid ((OB.out.upd U6.out (by simp)).upd u7 (by intro hm; exact own_type ON.out OB.out (by decide) (by simpa using hm)))
        clear o7 u7 b7 y1 e0
        have z3 : w7.cell? ⟨ob, 1, none⟩ = some (.slice (some ⟨gc1, 0, none⟩) k cc1) := OB7.out.cell 1
        have z4 : w7.frozen? ⟨ob, 1, none⟩ = false := OB7.out.frozen 1
        have z5 : ob < w7.heap.size := OB7.out.lt
        have U8 : Hid (Upd [ob] w7 (w7.setCell ⟨ob, 1, none⟩ (.slice (some ⟨g7, 0, none⟩) (k + 1) cg7))) := Lib.hid ((Upd.refl [ob] w7).setCell (.inl (by simp)) _)
        have ST8 : Hid (∃ gc1 cc1 ms1, MdlSt w.heap.size ob (.slice A1 nk k1) gc1 cc1 ms1 (w7.setCell ⟨ob, 1, none⟩ (.slice (some ⟨g7, 0, none⟩) (k + 1) cg7)) ⟨xs, List.replicate (k + 1) []⟩) := Lib.hid (by
          have UT : Upd [ob, gc1] wi (w7.setCell ⟨ob, 1, none⟩ (.slice (some ⟨g7, 0, none⟩) (k + 1) cg7)) := ((U6.out.mono (by simp)).trans (U7.out.mono (by intro y hy; simp [Value.ownBlock] at hy; subst hy; exact .inl (by simp)))).trans (U8.out.mono (by simp))
          have IMX : IMap (w7.setCell ⟨ob, 1, none⟩ (.slice (some ⟨g7, 0, none⟩) (k + 1) cg7)) .i64 wi.heap.size (mapI []) ([] : AL).length := by
            have im7 := IM6.out.upd U7.out (by simp [Value.ownBlock]; intro e; have := (own_lt ON.out (b := gc1) rfl).2; omega)
            exact im7.upd U8.out (by simp; intro e; have := OB.out.lt; omega)
          have hp := ST.out.push (m := wi.heap.size) (l := []) (gc' := g7) (cc' := cg7) UT (by rw [show (⟨xs, List.replicate k []⟩ : MS).L.length = k by simp]; exact OB7.out.set_eq rfl) (by rw [show (⟨xs, List.replicate k []⟩ : MS).L.length = k by simp]; exact own_upd O7.out U8.out (by intro b hb; simp; rintro rfl; exact own_type O7.out OB7.out (by decide) hb)) IMX (Nat.le_refl _) UI.out.size
          rw [List.replicate_succ']
          exact ⟨_, _, _, hp⟩)
        have UI8 : Hid (Upd [] w (w7.setCell ⟨ob, 1, none⟩ (.slice (some ⟨g7, 0, none⟩) (k + 1) cg7))) := Lib.hid (by
          have h1 := (UI.out.trans U6.out).trans' U7.out (fun x hx => .inr (own_lt ON.out (by simpa using hx)).1)
          exact h1.trans' U8.out (fun x hx => by simp at hx; subst hx; exact .inr ST.out.bs))
        go_wp2_with fail
        go_roundw
        case rel => exact ⟨k + 1, by go_num, by omega, HO2, Lib.hid ⟨ST8.out, UI8.out⟩⟩
        case measure => simp [intOf]; omega
      have d3 : (y == 3) = false := by simpa using h3
      have HBK : Hid (badK xs = some k) := Lib.hid (badK_at HOK.out HY.out (by unfold kOk; rw [decide_eq_false_iff_not]; omega))
      clear h1 h2 h3
      go_wp2_with fail
      go_ret2
      unfold MNewPost
      exact ⟨UI.out.trans ((Upd.refl [] wi).alloc _), .inl ⟨k, _, HBK.out, rfl, Blk.new wi _ _⟩⟩
    · obtain rfl : k = n := by omega
      have HBN : Hid (badK xs = none) := Lib.hid (badK_no (by rw [HN.out]; exact HOK.out))
      by_cases h8 : 8 < k
      · have d : decide ((8 : Int) < (k : Int)) = true := by simp; omega
        go_wp2_with fail
        go_ret2
        unfold MNewPost
        exact ⟨UI.out, .inr (.inl ⟨HBN.out, by rw [HN.out]; exact h8, rfl⟩)⟩
      · have d : decide ((8 : Int) < (k : Int)) = false := by simp; omega
        go_wp2_with fail
        go_ret2
        unfold MNewPost
        have e1 : (⟨xs, List.replicate k []⟩ : MS) = newS xs := by unfold newS; rw [HN.out]
        have hst := ST.out
        rw [e1] at hst
        exact ⟨UI.out, .inr (.inr ⟨HBN.out, by rw [HN.out]; omega, ob, _, rfl, good_newS (by rw [HN.out]; omega), _, _, _, _, rfl, hst⟩)⟩
end Go.Proofs.YtfbeaklplefojaaDoor

namespace Go.Proofs.YtfbeaklplefojaaDoor.Ev
open Go.RowKit Assoc MP
attribute [local go_sem] litStep_value

def sPut : Stm := .mk 2 0 0 0 1 0 7 [] []
def sGet : Stm := .mk 1 0 1 0 1 0 0 [] []
def sOr : Stm := .mk 14 0 0 0 0 0 0 [sPut, .mk 15 0 0 0 0 0 0 [] []] [sGet]
theorem ex_a : errE (newS [1]) [sPut, sGet] = 0 ∧ endE (newS [1]) [sPut, sGet] = 1 ∧ toldE (newS [1]) [sPut, sGet] = [7] := by decide
theorem ex_b : errE (newS [1]) [sOr] = 0 ∧ endE (newS [1]) [sOr] = 1 ∧ toldE (newS [1]) [sOr] = [-1] := by decide
theorem own_lit {w : World} {g B n s : Nat} {e : TypeId} {cs : Array Value} {xs : List Value} (h : Blk w g e cs) (hc : cs.toList = xs) (hs : cs.size = n * s) (hn : n ≤ 1000000) (hB : B ≤ g) : w.ownsRow B e s (.slice (some ⟨g, 0, none⟩) n n) n xs := by
  subst hc
  exact ⟨by simpa using hs, .inr ⟨g, n, cs, rfl, hB, h, Nat.le_refl _, by simp only [maxLen]; omega, hs, List.take_of_length_le (by rw [Array.length_toList, hs]; exact Nat.le_refl _)⟩⟩
/-- A list literal of statements. -/
theorem stms_lit {w : World} {B g n : Nat} {cs : Array Value} {l : List Stm} (h : Blk w g 60 cs) (hr : StmsR w B l cs.toList) (hn : l.length = n) (hs : cs.size = n * 9) (hm : n ≤ 1000000) (hB : B ≤ w.heap.size) : Stms w w.heap.size (.slice (some ⟨g, 0, none⟩) n n) l :=
  stms_of_own (own_lit (B := 0) (s := 9) h rfl hs hm (Nat.zero_le _)) hr hn.symm hB (Nat.le_refl _)
theorem stmsR_put (w : World) (B : Nat) : StmsR w B [sPut] [.int .i64 2, .int .i64 0, .int .i64 0, .int .i64 0, .int .i64 1, .int .i64 0, .int .i64 7, .slice none 0 0, .slice none 0 0] := ⟨_, _, [], rfl, stms_nil _ _, stms_nil _ _, rfl⟩
theorem stmsR_get (w : World) (B : Nat) : StmsR w B [sGet] [.int .i64 1, .int .i64 0, .int .i64 1, .int .i64 0, .int .i64 1, .int .i64 0, .int .i64 0, .slice none 0 0, .slice none 0 0] := ⟨_, _, [], rfl, stms_nil _ _, stms_nil _ _, rfl⟩
theorem stmsR_retry (w : World) (B : Nat) : StmsR w B [.mk 15 0 0 0 0 0 0 [] []] [.int .i64 15, .int .i64 0, .int .i64 0, .int .i64 0, .int .i64 0, .int .i64 0, .int .i64 0, .slice none 0 0, .slice none 0 0] := ⟨_, _, [], rfl, stms_nil _ _, stms_nil _ _, rfl⟩
set_option maxRecDepth 100000 in
set_option maxHeartbeats 4000000 in
theorem e_alive (w : World) (hg : Typed w) : Calls Tryd.prog 8 #[] w fun e w' => e = .returned (.bool true) ∧ Upd [] w w' := by
  have HG := Lib.hid hg
  have UA : Hid (Upd [] w (w.alloc (.cells #[.int .i64 1] 3))) := Lib.hid ((Upd.refl [] w).alloc _)
  have YA : Hid (Rd encK (w.alloc (.cells #[.int .i64 1] 3)) (.slice (some ⟨w.heap.size, 0, none⟩) 1 1) [1]) := Lib.hid (Src.of_blk (s := 1) (m := 1) (Blk.new w 3 #[.int .i64 1]) 1 rfl)
  clear hg
  go_enter Tryd.func8, Tryd.ntmps8
  go_wp2_with fail
  generalize (w.alloc (.cells #[.int .i64 1] 3)) = w1 at *
  refine (m_new _ 1 1 [1] w1 YA.out rfl (by omega)).mono ?_
  rintro e w2 ⟨u2, ⟨i, g, hb, _⟩ | ⟨_, h8, _⟩ | ⟨_, _, sb, F, rfl, h2⟩⟩
  · rw [show badK [1] = none by decide] at hb
    cases hb
  · simp at h8
  have S2 : Hid (Mdl w1.heap.size sb F w2 (newS [1])) := Lib.hid h2
  have U2 := Lib.hid (UA.out.trans u2)
  clear u2 h2
  go_wp2_with fail
  have BP : Hid (Blk
    (((w2.alloc (.cells #[.int .i64 2, .int .i64 0, .int .i64 0, .int .i64 0, .int .i64 1, .int .i64 0, .int .i64 7, .slice none 0 0, .slice none 0 0] 60)).alloc (.cells #[.int .i64 1, .int .i64 0, .int .i64 1, .int .i64 0, .int .i64 1, .int .i64 0, .int .i64 0, .slice none 0 0, .slice none 0 0] 60)).alloc (.cells #[.int .i64 2, .int .i64 0, .int .i64 0, .int .i64 0, .int .i64 1, .int .i64 0, .int .i64 7, .slice none 0 0, .slice none 0 0, .int .i64 1, .int .i64 0, .int .i64 1, .int .i64 0, .int .i64 1, .int .i64 0, .int .i64 0, .slice none 0 0, .slice none 0 0] 60))
    w2.heap.size 60 #[.int .i64 2, .int .i64 0, .int .i64 0, .int .i64 0, .int .i64 1, .int .i64 0, .int .i64 7, .slice none 0 0, .slice none 0 0]) := Lib.hid (((Blk.new w2 _ _).alloc _).alloc _)
  have BG : Hid (Blk
    (((w2.alloc (.cells #[.int .i64 2, .int .i64 0, .int .i64 0, .int .i64 0, .int .i64 1, .int .i64 0, .int .i64 7, .slice none 0 0, .slice none 0 0] 60)).alloc (.cells #[.int .i64 1, .int .i64 0, .int .i64 1, .int .i64 0, .int .i64 1, .int .i64 0, .int .i64 0, .slice none 0 0, .slice none 0 0] 60)).alloc (.cells #[.int .i64 2, .int .i64 0, .int .i64 0, .int .i64 0, .int .i64 1, .int .i64 0, .int .i64 7, .slice none 0 0, .slice none 0 0, .int .i64 1, .int .i64 0, .int .i64 1, .int .i64 0, .int .i64 1, .int .i64 0, .int .i64 0, .slice none 0 0, .slice none 0 0] 60))
    (w2.heap.size + 1) 60 #[.int .i64 1, .int .i64 0, .int .i64 1, .int .i64 0, .int .i64 1, .int .i64 0, .int .i64 0, .slice none 0 0, .slice none 0 0]) := Lib.hid ((Blk.newAt _ _ (by simp)).alloc _)
  have BL : Hid (Blk
    (((w2.alloc (.cells #[.int .i64 2, .int .i64 0, .int .i64 0, .int .i64 0, .int .i64 1, .int .i64 0, .int .i64 7, .slice none 0 0, .slice none 0 0] 60)).alloc (.cells #[.int .i64 1, .int .i64 0, .int .i64 1, .int .i64 0, .int .i64 1, .int .i64 0, .int .i64 0, .slice none 0 0, .slice none 0 0] 60)).alloc (.cells #[.int .i64 2, .int .i64 0, .int .i64 0, .int .i64 0, .int .i64 1, .int .i64 0, .int .i64 7, .slice none 0 0, .slice none 0 0, .int .i64 1, .int .i64 0, .int .i64 1, .int .i64 0, .int .i64 1, .int .i64 0, .int .i64 0, .slice none 0 0, .slice none 0 0] 60))
    (w2.heap.size + 1 + 1) 60 #[.int .i64 2, .int .i64 0, .int .i64 0, .int .i64 0, .int .i64 1, .int .i64 0, .int .i64 7, .slice none 0 0, .slice none 0 0, .int .i64 1, .int .i64 0, .int .i64 1, .int .i64 0, .int .i64 1, .int .i64 0, .int .i64 0, .slice none 0 0, .slice none 0 0]) := Lib.hid (Blk.newAt _ _ (by simp))
  have U3 : Hid (Upd [] w2
    (((w2.alloc (.cells #[.int .i64 2, .int .i64 0, .int .i64 0, .int .i64 0, .int .i64 1, .int .i64 0, .int .i64 7, .slice none 0 0, .slice none 0 0] 60)).alloc (.cells #[.int .i64 1, .int .i64 0, .int .i64 1, .int .i64 0, .int .i64 1, .int .i64 0, .int .i64 0, .slice none 0 0, .slice none 0 0] 60)).alloc (.cells #[.int .i64 2, .int .i64 0, .int .i64 0, .int .i64 0, .int .i64 1, .int .i64 0, .int .i64 7, .slice none 0 0, .slice none 0 0, .int .i64 1, .int .i64 0, .int .i64 1, .int .i64 0, .int .i64 1, .int .i64 0, .int .i64 0, .slice none 0 0, .slice none 0 0] 60))
    ) := Lib.hid ((((Upd.refl [] w2).alloc _).alloc _).alloc _)
  generalize
    (((w2.alloc (.cells #[.int .i64 2, .int .i64 0, .int .i64 0, .int .i64 0, .int .i64 1, .int .i64 0, .int .i64 7, .slice none 0 0, .slice none 0 0] 60)).alloc (.cells #[.int .i64 1, .int .i64 0, .int .i64 1, .int .i64 0, .int .i64 1, .int .i64 0, .int .i64 0, .slice none 0 0, .slice none 0 0] 60)).alloc (.cells #[.int .i64 2, .int .i64 0, .int .i64 0, .int .i64 0, .int .i64 1, .int .i64 0, .int .i64 7, .slice none 0 0, .slice none 0 0, .int .i64 1, .int .i64 0, .int .i64 1, .int .i64 0, .int .i64 1, .int .i64 0, .int .i64 0, .slice none 0 0, .slice none 0 0] 60))
    = w3 at BP BG BL U3 ⊢
  have HS3 : Hid (Stms w3 w3.heap.size (.slice (some ⟨w2.heap.size + 1 + 1, 0, none⟩) 2 2) [sPut, sGet]) := Lib.hid (stms_lit BL.out ((stmsR_put w3 w3.heap.size).append (stmsR_get w3 _)) rfl rfl (by decide) (Nat.le_refl _))
  refine (ran_ok w1.heap.size sb F (newS [1]) [sPut, sGet] _ w3 (S2.out.upd0 U3.out) HS3.out (by decide) (HG.out.upd (U2.out.trans U3.out) (by simp))).mono ?_
  rintro e w4 ⟨p4, v4, u4, a4, rfl, hu4, ev4, o4, hl4, hm4⟩
  rw [ex_a.1] at ev4
  rw [ex_a.2.2] at o4
  rw [ex_a.2.1]
  obtain rfl := errv_zero ev4
  obtain ⟨A4, c4, rfl, _, _⟩ := own_slice o4
  have U4 : Hid (Upd [] w w4) := Lib.hid (U2.out.trans (U3.out.trans hu4))
  have O4 := Lib.hid o4
  have S4 := Lib.hid (S2.out.upd0 (U3.out.trans hu4))
  have cP : ∀ i, w4.cell? ⟨w2.heap.size, i, none⟩ = _ := (BP.out.upd hu4 (by simp)).cell
  have cG : ∀ i, w4.cell? ⟨w2.heap.size + 1, i, none⟩ = _ := (BG.out.upd hu4 (by simp)).cell
  have lP : w2.heap.size < w4.heap.size := (BP.out.upd hu4 (by simp)).lt
  have lG : w2.heap.size + 1 < w4.heap.size := (BG.out.upd hu4 (by simp)).lt
  clear hu4 ev4 o4 hl4 hm4 U2 U3 BP BG BL HS3 S2
  go_wp2_with fail
  have BE : Hid (Blk
    ((((w4.alloc (.cells #[.int .i64 1, .slice A4 1 c4] 26)).alloc (.cells #[.int .i64 2, .int .i64 0, .int .i64 0, .int .i64 0, .int .i64 1, .int .i64 0, .int .i64 7, .slice none 0 0, .slice none 0 0, .int .i64 15, .int .i64 0, .int .i64 0, .int .i64 0, .int .i64 0, .int .i64 0, .int .i64 0, .slice none 0 0, .slice none 0 0] 60)).alloc (.cells #[.int .i64 1, .int .i64 0, .int .i64 1, .int .i64 0, .int .i64 1, .int .i64 0, .int .i64 0, .slice none 0 0, .slice none 0 0] 60)).alloc (.cells #[.int .i64 14, .int .i64 0, .int .i64 0, .int .i64 0, .int .i64 0, .int .i64 0, .int .i64 0, .slice (some ⟨w4.heap.size + 1, 0, none⟩) 2 2, .slice (some ⟨w4.heap.size + 1 + 1, 0, none⟩) 1 1] 60))
    w4.heap.size 26 #[.int .i64 1, .slice A4 1 c4]) := Lib.hid ((((Blk.new w4 _ _).alloc _).alloc _).alloc _)
  have B1 : Hid (Blk
    ((((w4.alloc (.cells #[.int .i64 1, .slice A4 1 c4] 26)).alloc (.cells #[.int .i64 2, .int .i64 0, .int .i64 0, .int .i64 0, .int .i64 1, .int .i64 0, .int .i64 7, .slice none 0 0, .slice none 0 0, .int .i64 15, .int .i64 0, .int .i64 0, .int .i64 0, .int .i64 0, .int .i64 0, .int .i64 0, .slice none 0 0, .slice none 0 0] 60)).alloc (.cells #[.int .i64 1, .int .i64 0, .int .i64 1, .int .i64 0, .int .i64 1, .int .i64 0, .int .i64 0, .slice none 0 0, .slice none 0 0] 60)).alloc (.cells #[.int .i64 14, .int .i64 0, .int .i64 0, .int .i64 0, .int .i64 0, .int .i64 0, .int .i64 0, .slice (some ⟨w4.heap.size + 1, 0, none⟩) 2 2, .slice (some ⟨w4.heap.size + 1 + 1, 0, none⟩) 1 1] 60))
    (w4.heap.size + 1) 60 #[.int .i64 2, .int .i64 0, .int .i64 0, .int .i64 0, .int .i64 1, .int .i64 0, .int .i64 7, .slice none 0 0, .slice none 0 0, .int .i64 15, .int .i64 0, .int .i64 0, .int .i64 0, .int .i64 0, .int .i64 0, .int .i64 0, .slice none 0 0, .slice none 0 0]) := Lib.hid (((Blk.newAt _ _ (by simp)).alloc _).alloc _)
  have B2 : Hid (Blk
    ((((w4.alloc (.cells #[.int .i64 1, .slice A4 1 c4] 26)).alloc (.cells #[.int .i64 2, .int .i64 0, .int .i64 0, .int .i64 0, .int .i64 1, .int .i64 0, .int .i64 7, .slice none 0 0, .slice none 0 0, .int .i64 15, .int .i64 0, .int .i64 0, .int .i64 0, .int .i64 0, .int .i64 0, .int .i64 0, .slice none 0 0, .slice none 0 0] 60)).alloc (.cells #[.int .i64 1, .int .i64 0, .int .i64 1, .int .i64 0, .int .i64 1, .int .i64 0, .int .i64 0, .slice none 0 0, .slice none 0 0] 60)).alloc (.cells #[.int .i64 14, .int .i64 0, .int .i64 0, .int .i64 0, .int .i64 0, .int .i64 0, .int .i64 0, .slice (some ⟨w4.heap.size + 1, 0, none⟩) 2 2, .slice (some ⟨w4.heap.size + 1 + 1, 0, none⟩) 1 1] 60))
    (w4.heap.size + 1 + 1) 60 #[.int .i64 1, .int .i64 0, .int .i64 1, .int .i64 0, .int .i64 1, .int .i64 0, .int .i64 0, .slice none 0 0, .slice none 0 0]) := Lib.hid ((Blk.newAt _ _ (by simp)).alloc _)
  have B3 : Hid (Blk
    ((((w4.alloc (.cells #[.int .i64 1, .slice A4 1 c4] 26)).alloc (.cells #[.int .i64 2, .int .i64 0, .int .i64 0, .int .i64 0, .int .i64 1, .int .i64 0, .int .i64 7, .slice none 0 0, .slice none 0 0, .int .i64 15, .int .i64 0, .int .i64 0, .int .i64 0, .int .i64 0, .int .i64 0, .int .i64 0, .slice none 0 0, .slice none 0 0] 60)).alloc (.cells #[.int .i64 1, .int .i64 0, .int .i64 1, .int .i64 0, .int .i64 1, .int .i64 0, .int .i64 0, .slice none 0 0, .slice none 0 0] 60)).alloc (.cells #[.int .i64 14, .int .i64 0, .int .i64 0, .int .i64 0, .int .i64 0, .int .i64 0, .int .i64 0, .slice (some ⟨w4.heap.size + 1, 0, none⟩) 2 2, .slice (some ⟨w4.heap.size + 1 + 1, 0, none⟩) 1 1] 60))
    (w4.heap.size + 1 + 1 + 1) 60 #[.int .i64 14, .int .i64 0, .int .i64 0, .int .i64 0, .int .i64 0, .int .i64 0, .int .i64 0, .slice (some ⟨w4.heap.size + 1, 0, none⟩) 2 2, .slice (some ⟨w4.heap.size + 1 + 1, 0, none⟩) 1 1]) := Lib.hid (Blk.newAt _ _ (by simp))
  have U5 : Hid (Upd [] w4
    ((((w4.alloc (.cells #[.int .i64 1, .slice A4 1 c4] 26)).alloc (.cells #[.int .i64 2, .int .i64 0, .int .i64 0, .int .i64 0, .int .i64 1, .int .i64 0, .int .i64 7, .slice none 0 0, .slice none 0 0, .int .i64 15, .int .i64 0, .int .i64 0, .int .i64 0, .int .i64 0, .int .i64 0, .int .i64 0, .slice none 0 0, .slice none 0 0] 60)).alloc (.cells #[.int .i64 1, .int .i64 0, .int .i64 1, .int .i64 0, .int .i64 1, .int .i64 0, .int .i64 0, .slice none 0 0, .slice none 0 0] 60)).alloc (.cells #[.int .i64 14, .int .i64 0, .int .i64 0, .int .i64 0, .int .i64 0, .int .i64 0, .int .i64 0, .slice (some ⟨w4.heap.size + 1, 0, none⟩) 2 2, .slice (some ⟨w4.heap.size + 1 + 1, 0, none⟩) 1 1] 60))
    ) := Lib.hid (((((Upd.refl [] w4).alloc _).alloc _).alloc _).alloc _)
  clear cP cG lP lG
  generalize
    ((((w4.alloc (.cells #[.int .i64 1, .slice A4 1 c4] 26)).alloc (.cells #[.int .i64 2, .int .i64 0, .int .i64 0, .int .i64 0, .int .i64 1, .int .i64 0, .int .i64 7, .slice none 0 0, .slice none 0 0, .int .i64 15, .int .i64 0, .int .i64 0, .int .i64 0, .int .i64 0, .int .i64 0, .int .i64 0, .slice none 0 0, .slice none 0 0] 60)).alloc (.cells #[.int .i64 1, .int .i64 0, .int .i64 1, .int .i64 0, .int .i64 1, .int .i64 0, .int .i64 0, .slice none 0 0, .slice none 0 0] 60)).alloc (.cells #[.int .i64 14, .int .i64 0, .int .i64 0, .int .i64 0, .int .i64 0, .int .i64 0, .int .i64 0, .slice (some ⟨w4.heap.size + 1, 0, none⟩) 2 2, .slice (some ⟨w4.heap.size + 1 + 1, 0, none⟩) 1 1] 60))
    = w5 at BE B1 B2 B3 U5 ⊢
  have T1 : Hid (Stms w5 w5.heap.size (.slice (some ⟨w4.heap.size + 1, 0, none⟩) 2 2) [sPut, .mk 15 0 0 0 0 0 0 [] []]) := Lib.hid (stms_lit B1.out ((stmsR_put w5 w5.heap.size).append (stmsR_retry w5 _)) rfl rfl (by decide) (Nat.le_refl _))
  have T2 : Hid (Stms w5 w5.heap.size (.slice (some ⟨w4.heap.size + 1 + 1, 0, none⟩) 1 1) [sGet]) := Lib.hid (stms_lit B2.out (stmsR_get w5 w5.heap.size) rfl rfl (by decide) (Nat.le_refl _))
  have T3 : Hid (Stms w5 w5.heap.size (.slice (some ⟨w4.heap.size + 1 + 1 + 1, 0, none⟩) 1 1) [sOr]) := Lib.hid (stms_lit B3.out ⟨_, _, [], rfl, T1.out, T2.out, rfl⟩ rfl rfl (by decide) (Nat.le_refl _))
  refine (ran_ok w1.heap.size sb F (newS [1]) [sOr] _ w5 (S4.out.upd0 U5.out) T3.out (by decide) (HG.out.upd (U4.out.trans U5.out) (by simp))).mono ?_
  rintro e w6 ⟨p6, v6, u6, a6, rfl, hu6, ev6, o6, hl6, hm6⟩
  rw [ex_b.1] at ev6
  rw [ex_b.2.2] at o6
  rw [ex_b.2.1]
  obtain rfl := errv_zero ev6
  obtain ⟨A6, c6, rfl, _, _⟩ := own_slice o6
  have U6 : Hid (Upd [] w w6) := Lib.hid (U4.out.trans (U5.out.trans hu6))
  have O4' := Lib.hid (O4.out.upd0 (U5.out.trans hu6))
  have O6 := Lib.hid o6
  have BE' := Lib.hid (BE.out.upd hu6 (by simp))
  have cE0 : w6.cell? ⟨w4.heap.size, 0, none⟩ = some (.int .i64 1) := BE'.out.cell 0
  have cE1 : w6.cell? ⟨w4.heap.size, 1, none⟩ = some (.slice A4 1 c4) := BE'.out.cell 1
  have lE : w4.heap.size < w6.heap.size := BE'.out.lt
  clear hu6 ev6 o6 hl6 hm6 U4 U5 O4 B1 B2 B3 T1 T2 T3 S4 BE
  go_wp2_with fail
  refine (no_nil _).mono ?_; rintro e w' ⟨rfl, rfl⟩
  go_wp2_with fail
  refine (no_nil _).mono ?_; rintro e w' ⟨rfl, rfl⟩
  go_wp2_with fail
  refine (no_nil _).mono ?_; rintro e w' ⟨rfl, rfl⟩
  go_wp2_with fail
  have U7 : Hid (Upd [] w6 ((w6.alloc (.cells #[.int .i64 1, .slice A6 1 c6] 26)).alloc (.cells #[.int .i64 7] 3))) := Lib.hid (((Upd.refl [] w6).alloc _).alloc _)
  have B6 : Hid (Blk ((w6.alloc (.cells #[.int .i64 1, .slice A6 1 c6] 26)).alloc (.cells #[.int .i64 7] 3)) w6.heap.size 26 #[.int .i64 1, .slice A6 1 c6]) := Lib.hid ((Blk.new _ _ _).alloc _)
  have B7 : Hid (Blk ((w6.alloc (.cells #[.int .i64 1, .slice A6 1 c6] 26)).alloc (.cells #[.int .i64 7] 3)) (w6.heap.size + 1) 3 #[.int .i64 7]) := Lib.hid (Blk.newAt _ _ (by simp))
  clear cE0 cE1 lE
  generalize ((w6.alloc (.cells #[.int .i64 1, .slice A6 1 c6] 26)).alloc (.cells #[.int .i64 7] 3)) = w7 at U7 B6 B7 ⊢
  refine (esame_ok w3.heap.size 0 1 1 [7] [7] (.slice A4 1 c4) (.slice (some ⟨w6.heap.size + 1, 0, none⟩) 1 1) w7 (O4'.out.upd0 U7.out) (own_lit B7.out rfl rfl (by decide) (Nat.zero_le _)) (by decide) (by decide)).mono ?_
  rintro e w8 ⟨rfl, u8⟩
  rw [show decide ((1 : Int) = 1 ∧ ([7] : List Int) = [7]) = true by decide]
  have U8 : Hid (Upd [] w6 w8) := Lib.hid (U7.out.trans u8)
  have B6' := Lib.hid (B6.out.upd u8 (by simp))
  have cE0 : w8.cell? ⟨w6.heap.size, 0, none⟩ = some (.int .i64 1) := B6'.out.cell 0
  have cE1 : w8.cell? ⟨w6.heap.size, 1, none⟩ = some (.slice A6 1 c6) := B6'.out.cell 1
  have lE : w6.heap.size < w8.heap.size := B6'.out.lt
  clear u8
  go_wp2_with fail
  refine (esame_ok w5.heap.size 0 1 1 [-1] [-1] (.slice A6 1 c6) (.slice (some ⟨w8.heap.size, 0, none⟩) 1 1) _ (O6.out.upd0 (U8.out.alloc _)) (own_lit (Blk.new _ _ _) rfl rfl (by decide) (Nat.zero_le _)) (by decide) (by decide)).mono ?_
  rintro e w9 ⟨rfl, u9⟩
  rw [show decide ((1 : Int) = 1 ∧ ([-1] : List Int) = [-1]) = true by decide]
  have U9 : Hid (Upd [] w w9) := Lib.hid (U6.out.trans ((U8.out.alloc _).trans u9))
  clear u9 cE0 cE1 lE
  go_wp2_with fail
  go_ret
  exact ⟨rfl, U9.out⟩
end Go.Proofs.YtfbeaklplefojaaDoor.Ev

namespace Go.Proofs.YtfbeaklplefojaaDoor
open Go.RowKit Go.Deep Go.WideShapes Go.ChangeShapes

theorem list9 {α : Type} {l : List α} (h : l.length = 9) : ∃ a0 a1 a2 a3 a4 a5 a6 a7 a8, l = [a0, a1, a2, a3, a4, a5, a6, a7, a8] := by
  match l, h with
  | [a0, a1, a2, a3, a4, a5, a6, a7, a8], _ => exact ⟨a0, a1, a2, a3, a4, a5, a6, a7, a8, rfl⟩

section
variable {H : Type} {enc : TypeId × Value → H} {W : World} {base : Nat} {spare : Nat → Bool} {held : Bool}
theorem arg_of {fuel : Nat} {a b : Value} {x : DataW H × List MemPlace} (h : DataW.trod enc Tryd.prog W base spare held fuel 58 [a, b] = some x) : ∃ i j : Int, a = .int .i64 i ∧ b = .int .i64 j := by
  obtain ⟨xs, n, _, _, hl, hxl, hf⟩ := DataW.trod_struct Tryd.underlying58 h
  have t0 := hf 0 _ rfl
  have t1 := hf 1 _ rfl
  have c1 : Tryd.prog.cellsOf 3 = 1 := by kernel_rfl
  simp only [List.getElem_toArray, List.getElem_cons_zero, List.getElem_cons_succ, c1, List.drop_zero, List.drop_succ_cons, List.take_succ_cons, List.take_zero] at t0 t1
  have hx0 : xs[0]? = some (xs[0]'(by rw [hxl]; decide)) := List.getElem?_eq_getElem _
  have hx1 : xs[1]? = some (xs[1]'(by rw [hxl]; decide)) := List.getElem?_eq_getElem _
  rw [hx0] at t0
  rw [hx1] at t1
  obtain ⟨y0, g0, _, _⟩ := DataW.trod_int Tryd.underlying3 t0
  obtain ⟨y1, g1, _, _⟩ := DataW.trod_int Tryd.underlying3 t1
  simp only [List.cons.injEq, and_true] at g0 g1
  exact ⟨y0, y1, g0, g1⟩

set_option maxRecDepth 100000 in
theorem stms_trod : ∀ (fuel : Nat) (v : Value) (x : DataW H × List MemPlace), DataW.trod enc Tryd.prog W base spare held fuel 22 [v] = some x → ∃ l, Stms W W.heap.size v l := by
  intro fuel
  induction fuel using Nat.strongRecOn with
  | _ fuel ih =>
    intro v x h
    rcases DataW.trod_slice Tryd.underlying22 h with ⟨h0, _⟩ | ⟨a, len, cap, elems, rest, n, hfu, hcs, _, _, hlc, hcm, hel, hi, _⟩
    · simp only [List.cons.injEq, and_true] at h0
      subst h0
      exact ⟨[], .mk none 0 0 [] (fun _ => .nilIface) (fun _ => .nilIface) rfl (Nat.le_refl _) (by omega) (by simp) (by simp) (by simp)⟩
    · simp only [List.cons.injEq, and_true] at hcs
      subst hcs
      have c9 : Tryd.prog.cellsOf 60 = 9 := by kernel_rfl
      have c1 : Tryd.prog.cellsOf 3 = 1 := by kernel_rfl
      have c2 : Tryd.prog.cellsOf 58 = 2 := by kernel_rfl
      have cb : Tryd.prog.cellsOf 22 = 1 := by kernel_rfl
      rw [c9] at hi
      have key : ∀ i, i < len → ∃ F : (Int × Int × Int × Int × Int × Int × Int) × (List Stm × List Stm) × (Value × Value), a.block < W.heap.size ∧ (∀ j u, (stmCells F.1.1 F.1.2.1 F.1.2.2.1 F.1.2.2.2.1 F.1.2.2.2.2.1 F.1.2.2.2.2.2.1 F.1.2.2.2.2.2.2 F.2.2.1 F.2.2.2)[j]? = some u → W.cell? (a.add (i * 9 + j)) = some u) ∧
          Stms W W.heap.size F.2.2.1 F.2.1.1 ∧ Stms W W.heap.size F.2.2.2 F.2.1.2 := by
        intro i hlt
        have h1 := hi i hlt
        have he : elems[i]? = some (elems[i]'(by omega)) := List.getElem?_eq_getElem _
        rw [he, Option.bind_eq_some_iff] at h1
        obtain ⟨cs', hc, ht⟩ := h1
        obtain ⟨_, hcl, hat⟩ := World.cells?_some hc
        obtain ⟨v0, v1, v2, v3, v4, v5, v6, v7, v8, rfl⟩ := list9 hcl
        obtain ⟨xs, k, hk, _, _, hxl, hf⟩ := DataW.trod_struct Tryd.underlying60 ht
        have hx : ∀ j (hj : j < 7), xs[j]? = some (xs[j]'(by rw [hxl]; exact hj)) := fun j hj => List.getElem?_eq_getElem _
        have t0 := hf 0 _ rfl
        have t1 := hf 1 _ rfl
        have t2 := hf 2 _ rfl
        have t3 := hf 3 _ rfl
        have t4 := hf 4 _ rfl
        have t5 := hf 5 _ rfl
        have t6 := hf 6 _ rfl
        simp only [List.getElem_toArray, List.getElem_cons_zero, List.getElem_cons_succ, c1, c2, cb, List.drop_zero, List.drop_succ_cons, List.take_succ_cons, List.take_zero, List.drop_nil, List.take_nil] at t0 t1 t2 t3 t4 t5 t6
        rw [hx 0 (by omega)] at t0
        rw [hx 1 (by omega)] at t1
        rw [hx 2 (by omega)] at t2
        rw [hx 3 (by omega)] at t3
        rw [hx 4 (by omega)] at t4
        rw [hx 5 (by omega)] at t5
        rw [hx 6 (by omega)] at t6
        obtain ⟨y0, g0, _, _⟩ := DataW.trod_int Tryd.underlying3 t0
        obtain ⟨y1, g1, _, _⟩ := DataW.trod_int Tryd.underlying3 t1
        obtain ⟨y2, g2, _, _⟩ := DataW.trod_int Tryd.underlying3 t2
        obtain ⟨y3, y4, g3, g4⟩ := arg_of t3
        obtain ⟨y5, y6, g5, g6⟩ := arg_of t4
        simp only [List.cons.injEq, and_true] at g0 g1 g2
        subst g0 g1 g2 g3 g4 g5 g6
        obtain ⟨lb, hb⟩ := ih k (by omega) v7 _ t5
        obtain ⟨le, hle⟩ := ih k (by omega) v8 _ t6
        refine ⟨((y0, y1, y2, y3, y4, y5, y6), (lb, le), (v7, v8)), ?_, fun j u hu => ?_, hb, hle⟩
        · have h9 := hat 0 (by omega)
          have := World.block_lt_of_cell? _ _ h9
          rwa [block_add, block_add] at this
        · have hj : j < 9 := (List.getElem?_eq_some_iff.1 hu).1
          rw [← Go.Deep.add_add, hat j hj]
          exact hu
      obtain ⟨F, hF⟩ : ∃ F : Nat → (Int × Int × Int × Int × Int × Int × Int) × (List Stm × List Stm) × (Value × Value), ∀ i, i < len → a.block < W.heap.size ∧ (∀ j u, (stmCells (F i).1.1 (F i).1.2.1 (F i).1.2.2.1 (F i).1.2.2.2.1 (F i).1.2.2.2.2.1 (F i).1.2.2.2.2.2.1 (F i).1.2.2.2.2.2.2 (F i).2.2.1 (F i).2.2.2)[j]? = some u → W.cell? (a.add (i * 9 + j)) = some u) ∧
          Stms W W.heap.size (F i).2.2.1 (F i).2.1.1 ∧ Stms W W.heap.size (F i).2.2.2 (F i).2.1.2 :=
        ⟨fun i => if h : i < len then (key i h).choose else ((0, 0, 0, 0, 0, 0, 0), ([], []), (.nilIface, .nilIface)), fun i h => by simp only [dif_pos h]; exact (key i h).choose_spec⟩
      have get : ∀ k a1 a2 a3 a4 a5 a6 a7 b e, ((List.range len).map fun i => Stm.mk (F i).1.1 (F i).1.2.1 (F i).1.2.2.1 (F i).1.2.2.2.1 (F i).1.2.2.2.2.1 (F i).1.2.2.2.2.2.1 (F i).1.2.2.2.2.2.2 (F i).2.1.1 (F i).2.1.2)[k]? = some (.mk a1 a2 a3 a4 a5 a6 a7 b e) →
          k < len ∧ (F k).1 = (a1, a2, a3, a4, a5, a6, a7) ∧ (F k).2.1 = (b, e) := by
        intro k a1 a2 a3 a4 a5 a6 a7 b e h
        have hk : k < len := by have := (List.getElem?_eq_some_iff.1 h).1; simpa using this
        simp only [List.getElem?_map, List.getElem?_range hk, Option.map_some, Option.some.injEq, Stm.mk.injEq] at h
        obtain ⟨h1, h2, h3, h4, h5, h6, h7, h8, h9⟩ := h
        exact ⟨hk, Prod.ext h1 (Prod.ext h2 (Prod.ext h3 (Prod.ext h4 (Prod.ext h5 (Prod.ext h6 h7))))), Prod.ext h8 h9⟩
      refine ⟨_, .mk (some a) len cap ((List.range len).map fun i => Stm.mk (F i).1.1 (F i).1.2.1 (F i).1.2.2.1 (F i).1.2.2.2.1 (F i).1.2.2.2.2.1 (F i).1.2.2.2.2.2.1 (F i).1.2.2.2.2.2.2 (F i).2.1.1 (F i).2.1.2) (fun i => (F i).2.2.1) (fun i => (F i).2.2.2) (by simp) hlc (by simpa [maxLen] using hcm)
        (fun k a1 a2 a3 a4 a5 a6 a7 b e h => ?_) (fun k a1 a2 a3 a4 a5 a6 a7 b e h => ?_) (fun k a1 a2 a3 a4 a5 a6 a7 b e h => ?_)⟩
      · obtain ⟨hk, e1, e2⟩ := get _ _ _ _ _ _ _ _ _ _ h
        obtain ⟨q1, q2, _, _⟩ := hF k hk
        rw [e1] at q2
        exact ⟨a, rfl, q1, q2⟩
      · obtain ⟨hk, e1, e2⟩ := get _ _ _ _ _ _ _ _ _ _ h
        obtain ⟨_, _, q3, _⟩ := hF k hk
        rw [e2] at q3
        exact q3
      · obtain ⟨hk, e1, e2⟩ := get _ _ _ _ _ _ _ _ _ _ h
        obtain ⟨_, _, _, q4⟩ := hF k hk
        rw [e2] at q4
        exact q4
end
set_option maxRecDepth 100000 in
/-- An argument that is a transaction. -/
theorem stms_of {H : Type} {enc : TypeId × Value → H} {W : World} {base b0 : Nat} {spare : Nat → Bool} {held : Bool} {v : Value} {d : DataW H} {ps : List MemPlace} {r : Reach}
    (hok : Value.okWide Tryd.prog W r b0 22 v) (h : DataW.Trod enc Tryd.prog W base spare held 22 v d ps) : ∃ l, Stms W W.heap.size v l := by
  obtain ⟨a0, len, cap, rfl⟩ := okWide_slice Tryd.underlying22 hok
  obtain ⟨fuel, hf⟩ := h
  exact stms_trod fuel _ _ hf
set_option maxRecDepth 100000 in
/-- An argument that is a list of ints. -/
theorem ints_of {H : Type} {enc : TypeId × Value → H} {W : World} {base b0 : Nat} {spare : Nat → Bool} {held : Bool} {v : Value} {d : DataW H} {ps : List MemPlace} {r : Reach}
    (hok : Value.okWide Tryd.prog W r b0 24 v) (h : DataW.Trod enc Tryd.prog W base spare held 24 v d ps) : ∃ (A : Option Addr) (n c : Nat) (ks : List Int), v = .slice A n c ∧ n ≤ c ∧ c ≤ 9223372036854775807 ∧ Src W 1 (.slice A n c) n (ks.map (Value.int .i64)) := by
  obtain ⟨a0, len, cap, rfl⟩ := okWide_slice Tryd.underlying24 hok
  obtain ⟨fuel, hf⟩ := h
  rcases DataW.trod_slice Tryd.underlying24 hf with ⟨h0, _⟩ | ⟨a, len', cap', elems, rest, n, hfu, hcs, _, _, hlc, hcm, hel, hi, _⟩
  · simp only [Value.cells, List.cons.injEq, and_true] at h0
    injection h0 with h1 h2 h3
    subst h1 h2 h3
    exact ⟨none, 0, 0, [], rfl, Nat.le_refl _, by omega, by simp, none, 0, rfl, by simp⟩
  · simp only [Value.cells, List.cons.injEq, and_true] at hcs
    injection hcs with h1 h2 h3
    subst h1 h2 h3
    have c1 : Tryd.prog.cellsOf 3 = 1 := by kernel_rfl
    rw [c1] at hi
    have key : ∀ i, i < len → ∃ k : Int, W.cell? (a.add i) = some (.int .i64 k) := by
      intro i hlt
      have h1 := hi i hlt
      have he : elems[i]? = some (elems[i]'(by omega)) := List.getElem?_eq_getElem _
      rw [he, Option.bind_eq_some_iff] at h1
      obtain ⟨cs', hc, ht⟩ := h1
      obtain ⟨y0, g0, _, _⟩ := DataW.trod_int Tryd.underlying3 ht
      obtain ⟨_, hcl, hat⟩ := World.cells?_some hc
      have := hat 0 (by omega)
      rw [g0] at this
      rw [Go.Deep.add_add, Nat.mul_one, Nat.add_zero] at this
      exact ⟨y0, this⟩
    obtain ⟨F, hF⟩ : ∃ F : Nat → Int, ∀ i, i < len → W.cell? (a.add i) = some (.int .i64 (F i)) := ⟨fun i => if h : i < len then (key i h).choose else 0, fun i h => by simp only [dif_pos h]; exact (key i h).choose_spec⟩
    refine ⟨some a, len, cap, (List.range len).map F, rfl, hlc, by simpa [maxLen] using hcm, by simp, some a, cap, rfl, fun j u hj => ?_⟩
    have hjl : j < len := by have := (List.getElem?_eq_some_iff.1 hj).1; simpa using this
    have hc := hF j hjl
    simp [List.getElem?_range hjl] at hj
    subst hj
    exact ⟨a, rfl, by have := World.block_lt_of_cell? _ _ hc; rwa [block_add] at this, hc⟩
end Go.Proofs.YtfbeaklplefojaaDoor

namespace Go.Proofs.YtfbeaklplefojaaDoor.DoorKit
open Go.ChangeShapes Go.WideShapes Go.ChangeAt Go.RowKit

theorem own : ownKnob Tryd.prog.godebug = none := by kernel_rfl
theorem laidOut : laidOutB Tryd.prog = true := by kernel_rfl
theorem et : Tryd.prog.globalNamed "errors.errorType" = some 0 := by kernel_rfl
theorem rt : (Tryd.prog.cutTypes.find? (·.1 == "internal/reflectlite.rtype")).map (·.2) = some 102 := by kernel_rfl
theorem oneRow : ((List.range 197).filter fun t => Tryd.prog.rowNamed t [101, 114, 114, 111, 114]) = [28] := by kernel_rfl
theorem size : Tryd.prog.types.size = 197 := by kernel_rfl

theorem of_laid {W : World} (h : laidMetH Tryd.prog [("errors.errorType", Rows.laid_errors_errorType)] W) : Typed W := by
  have h' : laidMet Tryd.prog [] W ∧ handlesMet Tryd.prog [("errors.errorType", Rows.laid_errors_errorType)] W := h
  obtain ⟨name, u, ty, e1, e2, e3, e4, e5⟩ := h'.2 _ (List.mem_singleton.2 rfl)
  have en : name = [101, 114, 114, 111, 114] := (Option.some.inj e1).symm
  subst en
  obtain rfl := Option.some.inj (rt.symm.trans e2)
  have hm : ty ∈ (List.range 197).filter fun t => Tryd.prog.rowNamed t [101, 114, 114, 111, 114] := List.mem_filter.2 ⟨List.mem_range.2 (by rw [← size]; exact e3), e4⟩
  rw [oneRow] at hm
  obtain rfl := List.mem_singleton.1 hm
  have hh : typeHandle Tryd.prog 28 = .pointer (some ⟨1, 28, none⟩) := by kernel_rfl
  rw [hh] at e5
  have hc : W.cell? ⟨0, 0, none⟩ = some (.iface 102 (.agg #[.pointer (some ⟨1, 28, none⟩)])) := by simpa using World.var?_cell et e5 0
  exact ⟨hc, World.block_lt_of_cell? _ _ hc⟩

theorem door_met (os : Os) (args : Array Value) : laidMetH Tryd.prog [("errors.errorType", Rows.laid_errors_errorType)] ((World.doorLaid Tryd.prog 400 os).forCall (fun _ _ => 0) ⟨#[], args, []⟩).memory :=
  laidMetH_of_parts3 (fuel := 8) (laidMet_nil _ _) (by kernel_rfl) (by kernel_rfl)
end Go.Proofs.YtfbeaklplefojaaDoor.DoorKit

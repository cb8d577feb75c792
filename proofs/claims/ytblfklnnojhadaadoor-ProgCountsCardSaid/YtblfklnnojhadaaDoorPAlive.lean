/-
  concordlaw09.Few, alive.
-/
import Derived.Test.YtblfklnnojhadaaDoorWeight
import Derived.Test.YtblfklnnojhadaaDoorRightW
set_option linter.unusedVariables false
namespace Go.Proofs.YtblfklnnojhadaaDoor
open Go.RowKit

/-- Is a transaction gone through? -/
def fewB (l : List Stm) : Bool := decide (wtF 32 0 l ≤ 250)
theorem few_sizes {l : List Stm} (h : fewB l = true) : sizes l ≤ 250 := by
  have h1 : wtF 32 0 l ≤ 250 := by simpa [fewB] using h
  rw [← wtF_sizes 32 0 l (by omega) (by omega) (by omega)]
  exact h1
theorem few_ok (l : List Stm) (v : Value) (w : World) (hv : Stms w w.heap.size v l) : Calls Tryd.prog 8 #[v] w fun e w' => e = .returned (.bool (fewB l)) ∧ Upd [] w w' := by
  have hc := weight_ok 32 0 l v w (by omega) (by omega) hv (Nat.le_refl _)
  rw [show ((0 : Nat) : Int) = 0 from rfl] at hc
  have HC := Lib.hid hc
  have HF : Hid (fewB l = decide ((wtF 32 0 l : Int) ≤ 250)) := Lib.hid (by unfold fewB; rw [Bool.eq_iff_iff]; simp; omega)
  clear hc hv
  go_enter Tryd.func8, Tryd.ntmps8
  go_wp2_with fail
  refine HC.out.mono ?_; rintro e w1 ⟨rfl, u1⟩
  have U1 := Lib.hid u1
  clear u1
  go_wp2_with fail
  go_ret
  rw [HF.out]
  exact ⟨rfl, U1.out⟩

theorem stms_one {w : World} {g : Nat} {t : TypeId} {a1 a2 a3 a4 a5 a6 a7 : Int} {vb ve : Value} {bo el : List Stm} (h : Blk w g t (stmCells a1 a2 a3 a4 a5 a6 a7 vb ve).toArray) (B : Nat) (hg : g < B) (c : Nat) (hc : 1 ≤ c) (hm : c ≤ 9223372036854775807) (hb : Stms w B vb bo) (he : Stms w B ve el) :
    Stms w B (.slice (some ⟨g, 0, none⟩) 1 c) [.mk a1 a2 a3 a4 a5 a6 a7 bo el] := by
  have one : ∀ {k : Nat} {s : Stm}, [Stm.mk a1 a2 a3 a4 a5 a6 a7 bo el][k]? = some s → k = 0 ∧ s = .mk a1 a2 a3 a4 a5 a6 a7 bo el := fun {k s} h => by
    cases k with
    | zero => simp at h; exact ⟨rfl, h.symm⟩
    | succ k => simp at h
  refine .mk _ 1 c _ (fun _ => vb) (fun _ => ve) rfl hc hm (fun k b1 b2 b3 b4 b5 b6 b7 b e hk => ?_) (fun k b1 b2 b3 b4 b5 b6 b7 b e hk => ?_) (fun k b1 b2 b3 b4 b5 b6 b7 b e hk => ?_)
  · obtain ⟨rfl, hs⟩ := one hk
    cases hs
    refine ⟨_, rfl, hg, fun j u hu => ?_⟩
    rw [add_head, h.cell, ← Array.getElem?_toList, Nat.zero_mul, Nat.zero_add]
    exact hu
  · obtain ⟨rfl, hs⟩ := one hk
    cases hs
    exact hb
  · obtain ⟨rfl, hs⟩ := one hk
    cases hs
    exact he
theorem stms_nil (w : World) (B : Nat) : Stms w B (.slice none 0 0) [] := .mk none 0 0 [] (fun _ => .nilIface) (fun _ => .nilIface) rfl (Nat.le_refl _) (by omega) (by simp) (by simp) (by simp)
theorem src_nil (w : World) : Src w 1 (.slice none 0 0) 0 (([] : List Int).map (Value.int .i64)) := ⟨rfl, none, 0, rfl, by simp⟩

theorem ex1 : rightR [] [.mk 1 0 1 0 0 0 0 [] []] = (9, 1) := by decide
theorem ex2 : rightR [] [.mk 15 0 0 0 0 0 0 [] []] = (0, 0) := by decide
theorem ex3 : sizeR [.mk 13 0 0 0 0 0 0 [.mk 0 0 0 0 0 0 0 [] []] []] = 2 := by decide
set_option maxRecDepth 100000 in
set_option maxHeartbeats 2000000 in
theorem palive_ok (w : World) (hg : Typed w) : Calls Tryd.prog 9 #[] w fun e w' => e = .returned (.bool true) ∧ Upd [] w w' := by
  have HG := Lib.hid hg
  clear hg
  go_enter Tryd.func9, Tryd.ntmps9
  go_wp2_with fail
  refine (prog_right_ok [.mk 1 0 1 0 0 0 0 [] []] _ none 0 0 [] _ (by exact stms_one (Blk.newAt _ _ rfl) _ (by simp) 1 (by omega) (by omega) (stms_nil _ _) (stms_nil _ _)) (src_nil _) (by omega) (by decide)).mono ?_; rintro e w1 ⟨v1, rfl, e1, u1⟩
  rw [ex1] at e1
  have E1 := Lib.hid e1
  have U1 := Lib.hid (((Upd.refl [] w).alloc _).trans u1)
  clear e1 u1
  go_wp2_with fail
  refine (prog_right_ok [.mk 15 0 0 0 0 0 0 [] []] _ none 0 0 [] _ (by exact stms_one (Blk.newAt _ _ rfl) _ (by simp) 1 (by omega) (by omega) (stms_nil _ _) (stms_nil _ _)) (src_nil _) (by omega) (by decide)).mono ?_; rintro e w2 ⟨v2, rfl, e2, u2⟩
  rw [ex2] at e2
  have E2 := Lib.hid e2
  have E3 := Lib.hid (E1.out.upd (((Upd.refl [] w1).alloc _).trans u2))
  have U2 := Lib.hid (U1.out.trans (((Upd.refl [] w1).alloc _).trans u2))
  clear e2 u2 E1 U1
  go_wp2_with fail
  refine (no_err E2.out).mono ?_; rintro e w3 ⟨rfl, rfl⟩
  go_wp2_with fail
  refine (no_err E3.out).mono ?_; rintro e w3 ⟨rfl, rfl⟩
  go_wp2_with fail
  refine (place_err E3.out (HG.out.upd U2.out (by simp))).mono ?_; rintro e w3 ⟨rfl, u3⟩
  have U3 := Lib.hid (U2.out.trans u3)
  clear u3 E2 E3
  go_wp2_with fail
  refine (size_ok [.mk 13 0 0 0 0 0 0 [.mk 0 0 0 0 0 0 0 [] []] []] _ _ (by exact stms_one (Blk.newAt _ _ (by simp)) _ (by simp) 1 (by omega) (by omega) (stms_one ((Blk.newAt _ _ rfl).alloc _) _ (by simp; omega) 1 (by omega) (by omega) (stms_nil _ _) (stms_nil _ _)) (stms_nil _ _)) (by decide)).mono ?_; rintro e w4 ⟨rfl, u4⟩
  rw [ex3]
  have U4 := Lib.hid (((U3.out.alloc _).alloc _).trans u4)
  clear u4
  go_wp2_with fail
  go_ret
  exact ⟨rfl, U4.out⟩
end Go.Proofs.YtblfklnnojhadaaDoor

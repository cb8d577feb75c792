/-
  A law's argument: a slice of slices of ints, with the inner ones' lengths.
  An argument that is a slice of ints: what it reads as. No program in sight.
  A world that meets the row's listed variable.
-/
import Derived.Test.YtkldpdldjalpeaaGreatDoorWoB10
import Derived.Test.YtkldpdldjalpeaaGreatDoorProg
import Derived.Test.YtkldpdldjalpeaaGreatDoorWoB0
import Derived.Test.YtkldpdldjalpeaaGreatDoorRows
import Derived.LaidMore
import Derived.LaidHandle
import Derived.Stop.Joined
set_option linter.unusedVariables false
namespace Go.Proofs.YtkldpdldjalpeaaGreatDoor
open Go.RowKit Go.Deep Go.WideShapes Go.ChangeShapes
section
variable {H : Type} {enc : TypeId × Value → H} {P : Program} {w : World} {base : Nat} {spare : Nat → Bool} {held : Bool}
theorem rd_arg23 {α : Type} {E : Enc α} {good : α → Prop} {t e1 e2 : TypeId} {v : Value} {d : DataW H} {ps : List MemPlace} {r : Reach} {b0 : Nat} (ht : P.underlying t = some (.slice e1)) (ht1 : P.underlying e1 = some (.slice e2)) (hc1 : P.cellsOf e1 = 1) (hr : ReadsAs P e2 E good)
    (hok : Value.okWide P w r b0 t v) (h : DataW.Trod enc P w base spare held t v d ps) :
    ∃ (L : List (List α)) (vs : List Value) (A : Option Addr) (c : Nat), v = .slice A L.length c ∧ L.length ≤ c ∧ c ≤ maxLen ∧ Src w 1 (.slice A L.length c) L.length vs ∧ ∀ (i : Nat) u l, vs[i]? = some u → L[i]? = some l → Rd E w u l ∧ l.length ≤ maxLen := by
  obtain ⟨a0, len, cap, rfl⟩ := okWide_slice ht hok
  obtain ⟨fuel, hf⟩ := h
  rcases open_slice ht hf with ⟨h0, _⟩ | ⟨a, len', cap', m, k, D, Pl, hcs, hb, hl, hm, hmm, hx, hi⟩
  · simp only [Value.cells, List.cons.injEq, and_true] at h0
    injection h0 with h1 h2 h3
    subst h1 h2 h3
    exact ⟨[], [], none, 0, rfl, Nat.le_refl _, by simp [maxLen], ⟨by simp, none, 0, rfl, by simp⟩, fun i u l hi => by simp at hi⟩
  · simp only [Value.cells, List.cons.injEq, and_true] at hcs
    injection hcs with h1 h2 h3
    subst h1 h2 h3
    obtain ⟨M, hM, hQ⟩ := pick_list (Q := fun i (x : Value × List α) => w.cell? (a.add i) = some x.1 ∧ Rd E w x.1 x.2 ∧ x.2.length ≤ maxLen) len (fun i hil => by
      have him : i < m := by rw [hmm]; split <;> omega
      obtain ⟨cs', hc, ht'⟩ := hi i him
      obtain ⟨l, A, c, rfl, h2, h3, h4, h5⟩ := rd_trod ht1 hr ht'
      rw [hc1] at hc
      obtain ⟨_, hcl, hat⟩ := World.cells?_some hc
      have h0 := hat 0 (by omega)
      rw [Nat.mul_one] at h0
      exact ⟨(_, l), h0, h4, Nat.le_trans h2 h3⟩)
    subst hM
    refine ⟨M.map (·.2), M.map (·.1), some a, cap, by simp, by simpa using hl, hm, ⟨by simp, some a, cap, by simp, fun j u hj => ?_⟩, fun i u l hu hl' => ?_⟩
    · rw [List.getElem?_map] at hj
      cases hx' : M[j]? with
      | none => rw [hx'] at hj; cases hj
      | some x =>
        rw [hx'] at hj
        injection hj with hj
        subst hj
        have hc := (hQ j x hx').1
        refine ⟨a, rfl, ?_, hc⟩
        have := World.block_lt_of_cell? _ _ hc
        rwa [block_add] at this
    · rw [List.getElem?_map] at hu hl'
      cases hx' : M[i]? with
      | none => rw [hx'] at hu; cases hu
      | some x =>
        rw [hx'] at hu hl'
        injection hu with hu
        injection hl' with hl'
        subst hu hl'
        exact (hQ i x hx').2
end
section
variable {H : Type} {enc : TypeId × Value → H} {W : World} {base b0 : Nat} {spare : Nat → Bool} {held : Bool} {v : Value} {d : DataW H} {ps : List MemPlace} {r : Reach}
set_option maxRecDepth 100000 in
theorem intsL_of (hok : Value.okWide Tryz.prog W r b0 22 v) (h : DataW.Trod enc Tryz.prog W base spare held 22 v d ps) :
    ∃ (L : List (List Int)) (vs : List Value) (A : Option Addr) (c : Nat), v = .slice A L.length c ∧ L.length ≤ 9223372036854775807 ∧ Src W 1 (.slice A L.length c) L.length vs ∧ ∀ (i : Nat) u l, vs[i]? = some u → L[i]? = some l → Src W 1 u l.length (l.map (Value.int .i64)) ∧ l.length ≤ 9223372036854775807 := by
  obtain ⟨L, vs, A, c, h1, h2, h3, h4, h5⟩ := rd_arg23 Tryz.underlying22 Tryz.underlying23 (by kernel_rfl) (reads_int Tryz.underlying3 (by kernel_rfl)) hok h
  have hf : ∀ l : List Int, flat (encI .i64) l = l.map (Value.int .i64) := fun l => by
    clear h1 h2 h4 h3 h5
    induction l with
    | nil => rfl
    | cons a l ih => rw [flat_cons, ih]; rfl
  refine ⟨L, vs, A, c, h1, by simp only [maxLen] at h3; omega, h4, fun i u l hu hl => ?_⟩
  obtain ⟨g1, g2⟩ := h5 i u l hu hl
  have g3 : Src W 1 u l.length (flat (encI .i64) l) := g1
  rw [hf] at g3
  exact ⟨g3, by simp only [maxLen] at g2; omega⟩
end
end Go.Proofs.YtkldpdldjalpeaaGreatDoor

namespace Go.Proofs.YtkldpdldjalpeaaGreatDoor
open Go.RowKit Go.Deep Go.WideShapes Go.ChangeShapes
section
variable {H : Type} {enc : TypeId × Value → H} {W : World} {base b0 : Nat} {spare : Nat → Bool} {held : Bool} {v : Value} {d : DataW H} {ps : List MemPlace} {r : Reach}
set_option maxRecDepth 100000 in
theorem ints6_of (hok : Value.okWide Tryz.prog W r b0 23 v) (h : DataW.Trod enc Tryz.prog W base spare held 23 v d ps) :
    ∃ (L : List Int) (A : Option Addr) (c : Nat), v = .slice A L.length c ∧ L.length ≤ 9223372036854775807 ∧ Src W 1 (.slice A L.length c) L.length (L.map (Value.int .i64)) := by
  obtain ⟨L, A, c, h1, h2, h3, h4, h6⟩ := rd_arg Tryz.underlying23 (reads_int Tryz.underlying3 (by kernel_rfl)) hok h
  have hf : flat (encI .i64) L = L.map (Value.int .i64) := by
    clear h1 h2 h4 h6 h3
    induction L with
    | nil => rfl
    | cons a L ih => rw [flat_cons, ih]; rfl
  refine ⟨L, A, c, h1, by simp only [maxLen] at h3; omega, ?_⟩
  have h5 : Src W 1 v L.length (flat (encI .i64) L) := h4
  rw [hf, h1] at h5
  exact h5
end
end Go.Proofs.YtkldpdldjalpeaaGreatDoor

namespace Go.Proofs.YtkldpdldjalpeaaGreatDoor
open Go.ChangeShapes Go.WideShapes Go.ChangeAt Go.RowKit
theorem in_u64 {n : Int} (h : (Lit.int .u64 n).wf = true) : 0 ≤ n ∧ n ≤ 18446744073709551615 := by
  simp only [Lit.wf, Bool.and_eq_true, decide_eq_true_eq] at h
  have h1 : IntKind.u64.min = 0 := by decide
  have h2 : IntKind.u64.max = 18446744073709551615 := by decide
  rw [h1, h2] at h
  exact h
end Go.Proofs.YtkldpdldjalpeaaGreatDoor
namespace Go.Proofs.YtkldpdldjalpeaaGreatDoor.DoorKit
open Go.ChangeShapes Go.WideShapes Go.ChangeAt Go.RowKit

theorem own : ownKnob Tryz.prog.godebug = none := by kernel_rfl
theorem laidOut : laidOutB Tryz.prog = true := by kernel_rfl
theorem door_met (os : Os) (args : Array Value) : laidMetH Tryz.prog [("errors.errorType", Rows.laid_errors_errorType)] ((World.doorLaid Tryz.prog 400 os).forCall (fun _ _ => 0) ⟨#[], args, []⟩).memory :=
  laidMetH_of_parts3 (fuel := 8) (laidMet_nil _ _) (by kernel_rfl) (by kernel_rfl)
end Go.Proofs.YtkldpdldjalpeaaGreatDoor.DoorKit

/-
  A timer out of an argument.
-/
import Derived.Test.YtainiojlhdbhgaaDoorBase
import Derived.Test.YtainiojlhdbhgaaDoorProg
import Derived.Test.YtainiojlhdbhgaaDoorPost
set_option linter.unusedVariables false
namespace Go.Proofs.YtainiojlhdbhgaaDoor
open Go.RowKit Go.Deep Go.WideShapes Go.ChangeShapes

section
variable {H : Type} {enc : TypeId × Value → H} {W : World} {base : Nat} {spare : Nat → Bool} {held : Bool}
set_option maxRecDepth 100000 in
theorem timer_cells {fuel : Nat} {a b : Value} {x : DataW H × List MemPlace} (h : DataW.trod enc Tryd.prog W base spare held fuel 29 [a, b] = some x) : ∃ i j : Int, a = .int .i64 i ∧ b = .int .i64 j := by
  obtain ⟨xs, n, _, _, hl, hxl, hf⟩ := DataW.trod_struct Tryd.underlying29 h
  have t0 := hf 0 _ rfl
  have t1 := hf 1 _ rfl
  have c1 : Tryd.prog.cellsOf 3 = 1 := by kernel_rfl
  simp only [List.getElem_toArray, List.getElem_cons_zero, List.getElem_cons_succ, c1, List.drop_zero, List.drop_succ_cons, List.take_succ_cons, List.take_zero] at t0 t1
  have hx0 : xs[0]? = some (xs[0]'(by rw [hxl]; decide)) := List.getElem?_eq_getElem _
  have hx1 : xs[1]? = some (xs[1]'(by rw [hxl]; decide)) := List.getElem?_eq_getElem _
  rw [hx0] at t0
  rw [hx1] at t1
  obtain ⟨y0, g0, _, _⟩ := DataW.trod_int Tryd.underlying3 t0
  obtain ⟨y1, g1, _, _⟩ := DataW.trod_int Tryd.underlying3 t1
  simp only [List.cons.injEq, and_true] at g0 g1
  exact ⟨y0, y1, g0, g1⟩
set_option maxRecDepth 100000 in
theorem timer_of {v : Value} {d : DataW H} {ps : List MemPlace} {r : Reach} {b0 : Nat}
    (hok : Value.okWide Tryd.prog W r b0 29 v) (h : DataW.Trod enc Tryd.prog W base spare held 29 v d ps) : ∃ a b, v = .agg #[.int .i64 a, .int .i64 b] := by
  obtain ⟨cs, rfl, hs⟩ := okWide_struct Tryd.underlying29 hok
  obtain ⟨fuel, hf⟩ := h
  have hc : Tryd.prog.cellsOf 29 = 2 := by kernel_rfl
  rw [hc] at hs
  obtain ⟨l⟩ := cs
  match l, hs with
  | [a, b], _ =>
    obtain ⟨i, j, rfl, rfl⟩ := timer_cells hf
    exact ⟨i, j, rfl⟩
end
end Go.Proofs.YtainiojlhdbhgaaDoor

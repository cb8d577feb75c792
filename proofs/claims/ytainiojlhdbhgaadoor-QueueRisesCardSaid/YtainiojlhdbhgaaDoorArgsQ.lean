/-
  Arguments of the queue's laws: slices of calls, of timers, of integers.
-/
import Derived.Test.YtainiojlhdbhgaaDoorArg
import Derived.Test.YtainiojlhdbhgaaDoorTimerOf
import Derived.Test.YtainiojlhdbhgaaDoorSortT
set_option linter.unusedVariables false
namespace Go.Proofs.YtainiojlhdbhgaaDoor
open Go.RowKit Go.Deep Go.WideShapes Go.ChangeShapes

set_option maxRecDepth 100000 in
theorem reads_timer : ReadsAs Tryd.prog 29 encT (fun _ => True) :=
  ⟨by kernel_rfl, fun {H enc w base spare held fuel cs x} h => by
    obtain ⟨xs, n, _, _, hl, _, _⟩ := DataW.trod_struct Tryd.underlying29 h
    rw [show Tryd.prog.cellsOf 29 = 2 by kernel_rfl] at hl
    match cs, hl with
    | [a, b], _ =>
      obtain ⟨i, j, rfl, rfl⟩ := timer_cells h
      exact ⟨⟨i, j⟩, rfl, trivial⟩⟩
set_option maxRecDepth 100000 in
theorem reads_act : ReadsAs Tryd.prog 49 (encI3 .i64 .i64 .i64) (fun _ => True) :=
  ⟨by kernel_rfl, fun {H enc w base spare held fuel cs x} h => by
    obtain ⟨xs, n, _, _, hl, hxl, hf⟩ := DataW.trod_struct Tryd.underlying49 h
    rw [show Tryd.prog.cellsOf 49 = 3 by kernel_rfl] at hl
    match cs, hl with
    | [a0, a1, a2], _ =>
      have t0 := hf 0 _ rfl
      have t1 := hf 1 _ rfl
      have c1 : Tryd.prog.cellsOf 3 = 1 := by kernel_rfl
      have c2 : Tryd.prog.cellsOf 29 = 2 := by kernel_rfl
      simp only [List.getElem_toArray, List.getElem_cons_zero, List.getElem_cons_succ, c1, c2, List.drop_zero, List.drop_succ_cons, List.take_succ_cons, List.take_zero] at t0 t1
      have hx0 : xs[0]? = some (xs[0]'(by rw [hxl]; decide)) := List.getElem?_eq_getElem _
      have hx1 : xs[1]? = some (xs[1]'(by rw [hxl]; decide)) := List.getElem?_eq_getElem _
      rw [hx0] at t0
      rw [hx1] at t1
      obtain ⟨y0, g0, _, _⟩ := DataW.trod_int Tryd.underlying3 t0
      simp only [List.cons.injEq, and_true] at g0
      subst g0
      obtain ⟨i, j, rfl, rfl⟩ := timer_cells t1
      exact ⟨(y0, i, j), rfl, trivial⟩⟩
section
variable {H : Type} {enc : TypeId × Value → H} {W : World} {base b0 : Nat} {spare : Nat → Bool} {held : Bool} {v : Value} {d : DataW H} {ps : List MemPlace} {r : Reach}
set_option maxRecDepth 100000 in
theorem acts04_of (hok : Value.okWide Tryd.prog W r b0 44 v) (h : DataW.Trod enc Tryd.prog W base spare held 44 v d ps) :
    ∃ (L : List (Int × Int × Int)) (A : Option Addr) (c : Nat), v = .slice A L.length c ∧ L.length ≤ c ∧ c ≤ maxLen ∧ Rd (encI3 .i64 .i64 .i64) W v L := by
  obtain ⟨L, A, c, h1, h2, h3, h4, _⟩ := rd_arg Tryd.underlying44 reads_act hok h
  exact ⟨L, A, c, h1, h2, h3, h4⟩
set_option maxRecDepth 100000 in
theorem timers04_of (hok : Value.okWide Tryd.prog W r b0 36 v) (h : DataW.Trod enc Tryd.prog W base spare held 36 v d ps) :
    ∃ (L : List Tm) (A : Option Addr) (c : Nat), v = .slice A L.length c ∧ L.length ≤ c ∧ c ≤ maxLen ∧ Rd encT W v L := by
  obtain ⟨L, A, c, h1, h2, h3, h4, _⟩ := rd_arg Tryd.underlying36 reads_timer hok h
  exact ⟨L, A, c, h1, h2, h3, h4⟩
set_option maxRecDepth 100000 in
theorem ints04_of (hok : Value.okWide Tryd.prog W r b0 37 v) (h : DataW.Trod enc Tryd.prog W base spare held 37 v d ps) :
    ∃ (L : List Int) (A : Option Addr) (c : Nat), v = .slice A L.length c ∧ L.length ≤ c ∧ c ≤ maxLen ∧ Rd (encI .i64) W v L := by
  obtain ⟨L, A, c, h1, h2, h3, h4, _⟩ := rd_arg Tryd.underlying37 (reads_int Tryd.underlying3 (by kernel_rfl)) hok h
  exact ⟨L, A, c, h1, h2, h3, h4⟩
end
end Go.Proofs.YtainiojlhdbhgaaDoor

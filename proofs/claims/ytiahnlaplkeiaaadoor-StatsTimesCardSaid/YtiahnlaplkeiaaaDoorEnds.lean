/-
  Transactions that ended, out of an argument.
-/
import Derived.Test.YtiahnlaplkeiaaaDoorStP
import Derived.Test.YtiahnlaplkeiaaaDoorArg
import Derived.Test.YtiahnlaplkeiaaaDoorProg
set_option linter.unusedVariables false
namespace Go.Proofs.YtiahnlaplkeiaaaDoor
open Go.RowKit Go.Deep Go.WideShapes Go.ChangeShapes St

def enCells (x : En) : List Value := [.int .i64 x.th, .int .i64 x.ix, .int .i64 x.st, .bool x.wr, .int .i64 x.be, .int .i64 x.en, .int .i64 x.kd, .slice x.ta x.tn x.tc, .int .i64 x.er]
def encE : Enc En := ⟨enCells, 9, fun _ => rfl, by intro a u hu; simp [enCells] at hu; rcases hu with rfl | rfl | rfl | rfl | rfl | rfl | rfl | rfl | rfl <;> rfl, by omega⟩
theorem list9 {α : Type} {l : List α} (h : l.length = 9) : ∃ a0 a1 a2 a3 a4 a5 a6 a7 a8, l = [a0, a1, a2, a3, a4, a5, a6, a7, a8] := by
  match l, h with
  | [a0, a1, a2, a3, a4, a5, a6, a7, a8], _ => exact ⟨a0, a1, a2, a3, a4, a5, a6, a7, a8, rfl⟩
set_option maxRecDepth 100000 in
theorem reads_en : ReadsAs Tryd.prog 45 encE (fun x => inK .i64 x.th) :=
  ⟨by kernel_rfl, fun {H enc w base spare held fuel cs x} h => by
    have c9 : Tryd.prog.cellsOf 45 = 9 := by kernel_rfl
    have c6 : Tryd.prog.cellsOf 42 = 6 := by kernel_rfl
    have c1 : Tryd.prog.cellsOf 3 = 1 := by kernel_rfl
    have cb : Tryd.prog.cellsOf 4 = 1 := by kernel_rfl
    have cs1 : Tryd.prog.cellsOf 29 = 1 := by kernel_rfl
    have ce : Tryd.prog.cellsOf 43 = 1 := by kernel_rfl
    obtain ⟨xs, n, _, _, hl, hxl, hf⟩ := DataW.trod_struct Tryd.underlying45 h
    rw [c9] at hl
    obtain ⟨v0, v1, v2, v3, v4, v5, v6, v7, v8, rfl⟩ := list9 hl
    have hx : ∀ j (hj : j < 4), xs[j]? = some (xs[j]'(by rw [hxl]; exact hj)) := fun j hj => List.getElem?_eq_getElem _
    have t0 := hf 0 _ rfl
    have t1 := hf 1 _ rfl
    have t2 := hf 2 _ rfl
    have t3 := hf 3 _ rfl
    simp only [List.getElem_toArray, List.getElem_cons_zero, List.getElem_cons_succ, c1, c6, cs1, ce, List.drop_zero, List.drop_succ_cons, List.take_succ_cons, List.take_zero, List.drop_nil, List.take_nil] at t0 t1 t2 t3
    rw [hx 0 (by omega)] at t0
    rw [hx 1 (by omega)] at t1
    rw [hx 2 (by omega)] at t2
    rw [hx 3 (by omega)] at t3
    obtain ⟨ys, m, _, _, yl, hyl, yf⟩ := DataW.trod_struct Tryd.underlying42 t0
    have hy : ∀ j (hj : j < 6), ys[j]? = some (ys[j]'(by rw [hyl]; exact hj)) := fun j hj => List.getElem?_eq_getElem _
    have s0 := yf 0 _ rfl
    have s1 := yf 1 _ rfl
    have s2 := yf 2 _ rfl
    have s3 := yf 3 _ rfl
    have s4 := yf 4 _ rfl
    have s5 := yf 5 _ rfl
    simp only [List.getElem_toArray, List.getElem_cons_zero, List.getElem_cons_succ, c1, cb, List.drop_zero, List.drop_succ_cons, List.take_succ_cons, List.take_zero, List.drop_nil, List.take_nil] at s0 s1 s2 s3 s4 s5
    rw [hy 0 (by omega)] at s0
    rw [hy 1 (by omega)] at s1
    rw [hy 2 (by omega)] at s2
    rw [hy 3 (by omega)] at s3
    rw [hy 4 (by omega)] at s4
    rw [hy 5 (by omega)] at s5
    obtain ⟨y0, g0, _, w0⟩ := DataW.trod_int Tryd.underlying3 s0
    obtain ⟨y1, g1, _, _⟩ := DataW.trod_int Tryd.underlying3 s1
    obtain ⟨y2, g2, _, _⟩ := DataW.trod_int Tryd.underlying3 s2
    obtain ⟨y3, g3, _⟩ := DataW.trod_bool Tryd.underlying4 s3
    obtain ⟨y4, g4, _, _⟩ := DataW.trod_int Tryd.underlying3 s4
    obtain ⟨y5, g5, _, _⟩ := DataW.trod_int Tryd.underlying3 s5
    obtain ⟨y6, g6, _, _⟩ := DataW.trod_int Tryd.underlying3 t1
    obtain ⟨y8, g8, _, _⟩ := DataW.trod_int Tryd.underlying43 t3
    obtain ⟨ta, tn, tc, g7⟩ : ∃ ta tn tc, v7 = .slice ta tn tc := by
      rcases DataW.trod_slice Tryd.underlying29 t2 with ⟨h0, _⟩ | ⟨a, len, cap, elems, rest, n, hfu, hcs, _⟩
      · simp only [List.cons.injEq, and_true] at h0
        exact ⟨_, _, _, h0⟩
      · simp only [List.cons.injEq, and_true] at hcs
        exact ⟨_, _, _, hcs⟩
    simp only [List.cons.injEq, and_true] at g0 g1 g2 g3 g4 g5 g6 g8
    subst g0 g1 g2 g3 g4 g5 g6 g7 g8
    exact ⟨⟨y0, y1, y2, y3, y4, y5, y6, y8, ta, tn, tc⟩, rfl, w0⟩⟩
end Go.Proofs.YtiahnlaplkeiaaaDoor

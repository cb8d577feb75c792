/-
  Statements out of an argument.
-/
import Derived.Test.YtblfklnnojhadaaDoorStm
import Derived.Test.YtblfklnnojhadaaDoorPost
set_option linter.unusedVariables false
namespace Go.Proofs.YtblfklnnojhadaaDoor
open Go.RowKit Go.Deep Go.WideShapes Go.ChangeShapes

theorem list9 {α : Type} {l : List α} (h : l.length = 9) : ∃ a0 a1 a2 a3 a4 a5 a6 a7 a8, l = [a0, a1, a2, a3, a4, a5, a6, a7, a8] := by
  match l, h with
  | [a0, a1, a2, a3, a4, a5, a6, a7, a8], _ => exact ⟨a0, a1, a2, a3, a4, a5, a6, a7, a8, rfl⟩

section
variable {H : Type} {enc : TypeId × Value → H} {W : World} {base : Nat} {spare : Nat → Bool} {held : Bool}
theorem arg_of {fuel : Nat} {a b : Value} {x : DataW H × List MemPlace} (h : DataW.trod enc Tryd.prog W base spare held fuel 37 [a, b] = some x) : ∃ i j : Int, a = .int .i64 i ∧ b = .int .i64 j := by
  obtain ⟨xs, n, _, _, hl, hxl, hf⟩ := DataW.trod_struct Tryd.underlying37 h
  have t0 := hf 0 _ rfl
  have t1 := hf 1 _ rfl
  have c1 : Tryd.prog.cellsOf 3 = 1 := by kernel_rfl
  simp only [List.getElem_toArray, List.getElem_cons_zero, List.getElem_cons_succ, c1, List.drop_zero, List.drop_succ_cons, List.take_succ_cons, List.take_zero] at t0 t1
  have hx0 : xs[0]? = some (xs[0]'(by rw [hxl]; decide)) := List.getElem?_eq_getElem _
  have hx1 : xs[1]? = some (xs[1]'(by rw [hxl]; decide)) := List.getElem?_eq_getElem _
  rw [hx0] at t0
  rw [hx1] at t1
  obtain ⟨y0, g0, _, _⟩ := DataW.trod_int Tryd.underlying3 t0
  obtain ⟨y1, g1, _, _⟩ := DataW.trod_int Tryd.underlying3 t1
  simp only [List.cons.injEq, and_true] at g0 g1
  exact ⟨y0, y1, g0, g1⟩

set_option maxRecDepth 100000 in
theorem stms_trod : ∀ (fuel : Nat) (v : Value) (x : DataW H × List MemPlace), DataW.trod enc Tryd.prog W base spare held fuel 22 [v] = some x → ∃ l, Stms W W.heap.size v l := by
  intro fuel
  induction fuel using Nat.strongRecOn with
  | _ fuel ih =>
    intro v x h
    rcases DataW.trod_slice Tryd.underlying22 h with ⟨h0, _⟩ | ⟨a, len, cap, elems, rest, n, hfu, hcs, _, _, hlc, hcm, hel, hi, _⟩
    · simp only [List.cons.injEq, and_true] at h0
      subst h0
      exact ⟨[], .mk none 0 0 [] (fun _ => .nilIface) (fun _ => .nilIface) rfl (Nat.le_refl _) (by omega) (by simp) (by simp) (by simp)⟩
    · simp only [List.cons.injEq, and_true] at hcs
      subst hcs
      have c9 : Tryd.prog.cellsOf 39 = 9 := by kernel_rfl
      have c1 : Tryd.prog.cellsOf 3 = 1 := by kernel_rfl
      have c2 : Tryd.prog.cellsOf 37 = 2 := by kernel_rfl
      have cb : Tryd.prog.cellsOf 22 = 1 := by kernel_rfl
      rw [c9] at hi
      have key : ∀ i, i < len → ∃ F : (Int × Int × Int × Int × Int × Int × Int) × (List Stm × List Stm) × (Value × Value), a.block < W.heap.size ∧ (∀ j u, (stmCells F.1.1 F.1.2.1 F.1.2.2.1 F.1.2.2.2.1 F.1.2.2.2.2.1 F.1.2.2.2.2.2.1 F.1.2.2.2.2.2.2 F.2.2.1 F.2.2.2)[j]? = some u → W.cell? (a.add (i * 9 + j)) = some u) ∧
          Stms W W.heap.size F.2.2.1 F.2.1.1 ∧ Stms W W.heap.size F.2.2.2 F.2.1.2 := by
        intro i hlt
        have h1 := hi i hlt
        have he : elems[i]? = some (elems[i]'(by omega)) := List.getElem?_eq_getElem _
        rw [he, Option.bind_eq_some_iff] at h1
        obtain ⟨cs', hc, ht⟩ := h1
        obtain ⟨_, hcl, hat⟩ := World.cells?_some hc
        obtain ⟨v0, v1, v2, v3, v4, v5, v6, v7, v8, rfl⟩ := list9 hcl
        obtain ⟨xs, k, hk, _, _, hxl, hf⟩ := DataW.trod_struct Tryd.underlying39 ht
        have hx : ∀ j (hj : j < 7), xs[j]? = some (xs[j]'(by rw [hxl]; exact hj)) := fun j hj => List.getElem?_eq_getElem _
        have t0 := hf 0 _ rfl
        have t1 := hf 1 _ rfl
        have t2 := hf 2 _ rfl
        have t3 := hf 3 _ rfl
        have t4 := hf 4 _ rfl
        have t5 := hf 5 _ rfl
        have t6 := hf 6 _ rfl
        simp only [List.getElem_toArray, List.getElem_cons_zero, List.getElem_cons_succ, c1, c2, cb, List.drop_zero, List.drop_succ_cons, List.take_succ_cons, List.take_zero, List.drop_nil, List.take_nil] at t0 t1 t2 t3 t4 t5 t6
        rw [hx 0 (by omega)] at t0
        rw [hx 1 (by omega)] at t1
        rw [hx 2 (by omega)] at t2
        rw [hx 3 (by omega)] at t3
        rw [hx 4 (by omega)] at t4
        rw [hx 5 (by omega)] at t5
        rw [hx 6 (by omega)] at t6
        obtain ⟨y0, g0, _, _⟩ := DataW.trod_int Tryd.underlying3 t0
        obtain ⟨y1, g1, _, _⟩ := DataW.trod_int Tryd.underlying3 t1
        obtain ⟨y2, g2, _, _⟩ := DataW.trod_int Tryd.underlying3 t2
        obtain ⟨y3, y4, g3, g4⟩ := arg_of t3
        obtain ⟨y5, y6, g5, g6⟩ := arg_of t4
        simp only [List.cons.injEq, and_true] at g0 g1 g2
        subst g0 g1 g2 g3 g4 g5 g6
        obtain ⟨lb, hb⟩ := ih k (by omega) v7 _ t5
        obtain ⟨le, hle⟩ := ih k (by omega) v8 _ t6
        refine ⟨((y0, y1, y2, y3, y4, y5, y6), (lb, le), (v7, v8)), ?_, fun j u hu => ?_, hb, hle⟩
        · have h9 := hat 0 (by omega)
          have := World.block_lt_of_cell? _ _ h9
          rwa [block_add, block_add] at this
        · have hj : j < 9 := (List.getElem?_eq_some_iff.1 hu).1
          rw [← Go.Deep.add_add, hat j hj]
          exact hu
      obtain ⟨F, hF⟩ : ∃ F : Nat → (Int × Int × Int × Int × Int × Int × Int) × (List Stm × List Stm) × (Value × Value), ∀ i, i < len → a.block < W.heap.size ∧ (∀ j u, (stmCells (F i).1.1 (F i).1.2.1 (F i).1.2.2.1 (F i).1.2.2.2.1 (F i).1.2.2.2.2.1 (F i).1.2.2.2.2.2.1 (F i).1.2.2.2.2.2.2 (F i).2.2.1 (F i).2.2.2)[j]? = some u → W.cell? (a.add (i * 9 + j)) = some u) ∧
          Stms W W.heap.size (F i).2.2.1 (F i).2.1.1 ∧ Stms W W.heap.size (F i).2.2.2 (F i).2.1.2 :=
        ⟨fun i => if h : i < len then (key i h).choose else ((0, 0, 0, 0, 0, 0, 0), ([], []), (.nilIface, .nilIface)), fun i h => by simp only [dif_pos h]; exact (key i h).choose_spec⟩
      have get : ∀ k a1 a2 a3 a4 a5 a6 a7 b e, ((List.range len).map fun i => Stm.mk (F i).1.1 (F i).1.2.1 (F i).1.2.2.1 (F i).1.2.2.2.1 (F i).1.2.2.2.2.1 (F i).1.2.2.2.2.2.1 (F i).1.2.2.2.2.2.2 (F i).2.1.1 (F i).2.1.2)[k]? = some (.mk a1 a2 a3 a4 a5 a6 a7 b e) →
          k < len ∧ (F k).1 = (a1, a2, a3, a4, a5, a6, a7) ∧ (F k).2.1 = (b, e) := by
        intro k a1 a2 a3 a4 a5 a6 a7 b e h
        have hk : k < len := by have := (List.getElem?_eq_some_iff.1 h).1; simpa using this
        simp only [List.getElem?_map, List.getElem?_range hk, Option.map_some, Option.some.injEq, Stm.mk.injEq] at h
        obtain ⟨h1, h2, h3, h4, h5, h6, h7, h8, h9⟩ := h
        exact ⟨hk, Prod.ext h1 (Prod.ext h2 (Prod.ext h3 (Prod.ext h4 (Prod.ext h5 (Prod.ext h6 h7))))), Prod.ext h8 h9⟩
      refine ⟨_, .mk (some a) len cap ((List.range len).map fun i => Stm.mk (F i).1.1 (F i).1.2.1 (F i).1.2.2.1 (F i).1.2.2.2.1 (F i).1.2.2.2.2.1 (F i).1.2.2.2.2.2.1 (F i).1.2.2.2.2.2.2 (F i).2.1.1 (F i).2.1.2) (fun i => (F i).2.2.1) (fun i => (F i).2.2.2) (by simp) hlc (by simpa [maxLen] using hcm)
        (fun k a1 a2 a3 a4 a5 a6 a7 b e h => ?_) (fun k a1 a2 a3 a4 a5 a6 a7 b e h => ?_) (fun k a1 a2 a3 a4 a5 a6 a7 b e h => ?_)⟩
      · obtain ⟨hk, e1, e2⟩ := get _ _ _ _ _ _ _ _ _ _ h
        obtain ⟨q1, q2, _, _⟩ := hF k hk
        rw [e1] at q2
        exact ⟨a, rfl, q1, q2⟩
      · obtain ⟨hk, e1, e2⟩ := get _ _ _ _ _ _ _ _ _ _ h
        obtain ⟨_, _, q3, _⟩ := hF k hk
        rw [e2] at q3
        exact q3
      · obtain ⟨hk, e1, e2⟩ := get _ _ _ _ _ _ _ _ _ _ h
        obtain ⟨_, _, _, q4⟩ := hF k hk
        rw [e2] at q4
        exact q4
end
set_option maxRecDepth 100000 in
/-- An argument that is a transaction. -/
theorem stms_of {H : Type} {enc : TypeId × Value → H} {W : World} {base b0 : Nat} {spare : Nat → Bool} {held : Bool} {v : Value} {d : DataW H} {ps : List MemPlace} {r : Reach}
    (hok : Value.okWide Tryd.prog W r b0 22 v) (h : DataW.Trod enc Tryd.prog W base spare held 22 v d ps) : ∃ l, Stms W W.heap.size v l := by
  obtain ⟨a0, len, cap, rfl⟩ := okWide_slice Tryd.underlying22 hok
  obtain ⟨fuel, hf⟩ := h
  exact stms_trod fuel _ _ hf
set_option maxRecDepth 100000 in
/-- An argument that is a list of ints. -/
theorem ints_of {H : Type} {enc : TypeId × Value → H} {W : World} {base b0 : Nat} {spare : Nat → Bool} {held : Bool} {v : Value} {d : DataW H} {ps : List MemPlace} {r : Reach}
    (hok : Value.okWide Tryd.prog W r b0 23 v) (h : DataW.Trod enc Tryd.prog W base spare held 23 v d ps) : ∃ (A : Option Addr) (n c : Nat) (ks : List Int), v = .slice A n c ∧ n ≤ c ∧ c ≤ 9223372036854775807 ∧ Src W 1 (.slice A n c) n (ks.map (Value.int .i64)) := by
  obtain ⟨a0, len, cap, rfl⟩ := okWide_slice Tryd.underlying23 hok
  obtain ⟨fuel, hf⟩ := h
  rcases DataW.trod_slice Tryd.underlying23 hf with ⟨h0, _⟩ | ⟨a, len', cap', elems, rest, n, hfu, hcs, _, _, hlc, hcm, hel, hi, _⟩
  · simp only [Value.cells, List.cons.injEq, and_true] at h0
    injection h0 with h1 h2 h3
    subst h1 h2 h3
    exact ⟨none, 0, 0, [], rfl, Nat.le_refl _, by omega, by simp, none, 0, rfl, by simp⟩
  · simp only [Value.cells, List.cons.injEq, and_true] at hcs
    injection hcs with h1 h2 h3
    subst h1 h2 h3
    have c1 : Tryd.prog.cellsOf 3 = 1 := by kernel_rfl
    rw [c1] at hi
    have key : ∀ i, i < len → ∃ k : Int, W.cell? (a.add i) = some (.int .i64 k) := by
      intro i hlt
      have h1 := hi i hlt
      have he : elems[i]? = some (elems[i]'(by omega)) := List.getElem?_eq_getElem _
      rw [he, Option.bind_eq_some_iff] at h1
      obtain ⟨cs', hc, ht⟩ := h1
      obtain ⟨y0, g0, _, _⟩ := DataW.trod_int Tryd.underlying3 ht
      obtain ⟨_, hcl, hat⟩ := World.cells?_some hc
      have := hat 0 (by omega)
      rw [g0] at this
      rw [Go.Deep.add_add, Nat.mul_one, Nat.add_zero] at this
      exact ⟨y0, this⟩
    obtain ⟨F, hF⟩ : ∃ F : Nat → Int, ∀ i, i < len → W.cell? (a.add i) = some (.int .i64 (F i)) := ⟨fun i => if h : i < len then (key i h).choose else 0, fun i h => by simp only [dif_pos h]; exact (key i h).choose_spec⟩
    refine ⟨some a, len, cap, (List.range len).map F, rfl, hlc, by simpa [maxLen] using hcm, by simp, some a, cap, rfl, fun j u hj => ?_⟩
    have hjl : j < len := by have := (List.getElem?_eq_some_iff.1 hj).1; simpa using this
    have hc := hF j hjl
    simp [List.getElem?_range hjl] at hj
    subst hj
    exact ⟨a, rfl, by have := World.block_lt_of_cell? _ _ hc; rwa [block_add] at this, hc⟩
end Go.Proofs.YtblfklnnojhadaaDoor

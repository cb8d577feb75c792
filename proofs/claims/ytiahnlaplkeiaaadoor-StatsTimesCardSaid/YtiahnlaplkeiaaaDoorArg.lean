/-
  Arguments that are slices of plain things: what they read as. No program in sight.
-/
import Derived.Test.YtiahnlaplkeiaaaDoorFlat
import Derived.Test.YtiahnlaplkeiaaaDoorPost
set_option linter.unusedVariables false
namespace Go.Proofs.YtiahnlaplkeiaaaDoor
open Go.RowKit Go.Deep Go.WideShapes Go.ChangeShapes

/-- Whatever reads at a type is such a thing. -/
def ReadsAs {α : Type} (P : Program) (t : TypeId) (E : Enc α) (good : α → Prop) : Prop :=
  P.cellsOf t = E.s ∧ ∀ {H : Type} {enc : TypeId × Value → H} {w : World} {base : Nat} {spare : Nat → Bool} {held : Bool} {fuel : Nat} {cs : List Value} {x : DataW H × List MemPlace},
    DataW.trod enc P w base spare held fuel t cs = some x → ∃ a, cs = E.c a ∧ good a
theorem pick_list {α : Type} {Q : Nat → α → Prop} : ∀ n, (∀ i, i < n → ∃ a, Q i a) → ∃ L : List α, L.length = n ∧ ∀ i a, L[i]? = some a → Q i a
  | 0, _ => ⟨[], rfl, by simp⟩
  | n + 1, h => by
    obtain ⟨L, hl, hL⟩ := pick_list n (fun i hi => h i (by omega))
    obtain ⟨a, ha⟩ := h n (by omega)
    refine ⟨L ++ [a], by simp [hl], fun i b hb => ?_⟩
    rw [List.getElem?_append] at hb
    split at hb
    · exact hL i b hb
    · rename_i hi
      have hi' : i = n := by
        have := (List.getElem?_eq_some_iff.1 hb).1
        simp at this
        omega
      subst hi'
      simp [hl] at hb
      subst hb
      exact ha
section
variable {H : Type} {enc : TypeId × Value → H} {P : Program} {w : World} {base : Nat} {spare : Nat → Bool} {held : Bool}
theorem rd_arg {α : Type} {E : Enc α} {good : α → Prop} {t e : TypeId} {v : Value} {d : DataW H} {ps : List MemPlace} {r : Reach} {b0 : Nat} (ht : P.underlying t = some (.slice e)) (hr : ReadsAs P e E good)
    (hok : Value.okWide P w r b0 t v) (h : DataW.Trod enc P w base spare held t v d ps) :
    ∃ (L : List α) (A : Option Addr) (c : Nat), v = .slice A L.length c ∧ L.length ≤ c ∧ c ≤ maxLen ∧ Rd E w v L ∧ ∀ a ∈ L, good a := by
  obtain ⟨a0, len, cap, rfl⟩ := okWide_slice ht hok
  obtain ⟨fuel, hf⟩ := h
  rcases open_slice ht hf with ⟨h0, _⟩ | ⟨a, len', cap', m, k, D, Pl, hcs, hb, hl, hm, hmm, hx, hi⟩
  · simp only [Value.cells, List.cons.injEq, and_true] at h0
    injection h0 with h1 h2 h3
    subst h1 h2 h3
    exact ⟨[], _, _, rfl, Nat.le_refl _, by simp [maxLen], Rd.nil E w 0, by simp⟩
  · simp only [Value.cells, List.cons.injEq, and_true] at hcs
    injection hcs with h1 h2 h3
    subst h1 h2 h3
    obtain ⟨L, hL, hQ⟩ := pick_list (Q := fun i (x : α) => good x ∧ ∀ j u, (E.c x)[j]? = some u → w.cell? (a.add (i * E.s + j)) = some u) len (fun i hil => by
      have him : i < m := by rw [hmm]; split <;> omega
      obtain ⟨cs', hc, ht'⟩ := hi i him
      obtain ⟨x, rfl, hg⟩ := hr.2 ht'
      rw [hr.1] at hc
      obtain ⟨_, hcl, hat⟩ := World.cells?_some hc
      refine ⟨x, hg, fun j u hu => ?_⟩
      have hj : j < E.s := by have := (List.getElem?_eq_some_iff.1 hu).1; rwa [E.len] at this
      rw [← Go.Deep.add_add, hat j hj]
      exact hu)
    subst hL
    refine ⟨L, some a, cap, rfl, hl, hm, ⟨flat_len, some a, cap, rfl, fun j u hj => ?_⟩, fun x hx => ?_⟩
    · have hjl := (List.getElem?_eq_some_iff.1 hj).1
      rw [flat_len] at hjl
      have hk : j / E.s < L.length := Nat.div_lt_of_lt_mul (by rw [Nat.mul_comm]; exact hjl)
      have hr' : j % E.s < E.s := Nat.mod_lt _ E.pos
      obtain ⟨x, hx⟩ : ∃ x, L[j / E.s]? = some x := ⟨_, List.getElem?_eq_getElem hk⟩
      have he : j / E.s * E.s + j % E.s = j := by rw [Nat.mul_comm]; exact Nat.div_add_mod j E.s
      have hg := flat_get (E := E) hx hr'
      rw [he, hj] at hg
      have hc := (hQ _ x hx).2 _ u hg.symm
      rw [he] at hc
      refine ⟨a, rfl, ?_, hc⟩
      have := World.block_lt_of_cell? _ _ hc
      rwa [block_add] at this
    · obtain ⟨i, hi', rfl⟩ := List.getElem_of_mem hx
      exact (hQ i _ (List.getElem?_eq_getElem hi')).1
end
/-- An integer; two; in whatever kinds. -/
def encI (q : IntKind) : Enc Int := ⟨fun a => [.int q a], 1, fun _ => rfl, by intro a u hu; simp at hu; subst hu; rfl, by omega⟩
def encII (q q' : IntKind) : Enc (Int × Int) := ⟨fun p => [.int q p.1, .int q' p.2], 2, fun _ => rfl, by intro a u hu; simp at hu; rcases hu with rfl | rfl <;> rfl, by omega⟩
def inK (q : IntKind) (a : Int) : Prop := (Lit.int q a).wf = true
theorem reads_int {P : Program} {t : TypeId} {q : IntKind} (ht : P.underlying t = some (.int q)) (hc : P.cellsOf t = 1) : ReadsAs P t (encI q) (inK q) :=
  ⟨hc, fun h => by
    obtain ⟨y, hy, _, hw⟩ := DataW.trod_int ht h
    exact ⟨y, hy, hw⟩⟩
/-- A struct of two integers. -/
theorem reads_two {P : Program} {t t0 t1 : TypeId} {f0 f1 : Field} {q q' : IntKind} (ht : P.underlying t = some (.struct #[f0, f1])) (hc : P.cellsOf t = 2) (o0 : f0.offset = 0) (o1 : f1.offset = 1) (c0 : P.cellsOf f0.type = 1) (c1 : P.cellsOf f1.type = 1)
    (h0 : P.underlying f0.type = some (.int q)) (h1 : P.underlying f1.type = some (.int q')) : ReadsAs P t (encII q q') (fun p => inK q p.1 ∧ inK q' p.2) :=
  ⟨hc, fun {H enc w base spare held fuel cs x} h => by
    obtain ⟨xs, n, _, _, hl, hxl, hf⟩ := DataW.trod_struct ht h
    rw [hc] at hl
    match cs, hl with
    | [a, b], _ =>
      have g0 := hf 0 f0 rfl
      have g1 := hf 1 f1 rfl
      have hx0 : xs[0]? = some (xs[0]'(by rw [hxl]; simp)) := List.getElem?_eq_getElem _
      have hx1 : xs[1]? = some (xs[1]'(by rw [hxl]; simp)) := List.getElem?_eq_getElem _
      rw [o0, c0, hx0] at g0
      rw [o1, c1, hx1] at g1
      obtain ⟨y0, e0, _, w0⟩ := DataW.trod_int h0 g0
      obtain ⟨y1, e1, _, w1⟩ := DataW.trod_int h1 g1
      simp at e0 e1
      subst e0 e1
      exact ⟨(y0, y1), rfl, w0, w1⟩⟩
def encI3 (q0 q1 q2 : IntKind) : Enc (Int × Int × Int) := ⟨fun p => [.int q0 p.1, .int q1 p.2.1, .int q2 p.2.2], 3, fun _ => rfl, by intro a u hu; simp at hu; rcases hu with rfl | rfl | rfl <;> rfl, by omega⟩
theorem reads_3 {P : Program} {t : TypeId} {f0 f1 f2 : Field} {q0 q1 q2 : IntKind} (ht : P.underlying t = some (.struct #[f0, f1, f2])) (hc : P.cellsOf t = 3) (o0 : f0.offset = 0) (o1 : f1.offset = 1) (o2 : f2.offset = 2) (c0 : P.cellsOf f0.type = 1) (c1 : P.cellsOf f1.type = 1) (c2 : P.cellsOf f2.type = 1)
    (h0 : P.underlying f0.type = some (.int q0)) (h1 : P.underlying f1.type = some (.int q1)) (h2 : P.underlying f2.type = some (.int q2)) : ReadsAs P t (encI3 q0 q1 q2) (fun p => inK q0 p.1 ∧ inK q1 p.2.1 ∧ inK q2 p.2.2) :=
  ⟨hc, fun {H enc w base spare held fuel cs x} h => by
    obtain ⟨xs, n, _, _, hl, hxl, hf⟩ := DataW.trod_struct ht h
    rw [hc] at hl
    match cs, hl with
    | [a0, a1, a2], _ =>
      have g0 := hf 0 f0 rfl
      have hx0 : xs[0]? = some (xs[0]'(by rw [hxl]; simp)) := List.getElem?_eq_getElem _
      rw [o0, c0, hx0] at g0
      obtain ⟨y0, e0, _, w0⟩ := DataW.trod_int h0 g0
      simp at e0
      subst e0
      have g1 := hf 1 f1 rfl
      have hx1 : xs[1]? = some (xs[1]'(by rw [hxl]; simp)) := List.getElem?_eq_getElem _
      rw [o1, c1, hx1] at g1
      obtain ⟨y1, e1, _, w1⟩ := DataW.trod_int h1 g1
      simp at e1
      subst e1
      have g2 := hf 2 f2 rfl
      have hx2 : xs[2]? = some (xs[2]'(by rw [hxl]; simp)) := List.getElem?_eq_getElem _
      rw [o2, c2, hx2] at g2
      obtain ⟨y2, e2, _, w2⟩ := DataW.trod_int h2 g2
      simp at e2
      subst e2
      exact ⟨(y0, y1, y2), rfl, w0, w1, w2⟩⟩
def encI4 (q0 q1 q2 q3 : IntKind) : Enc (Int × Int × Int × Int) := ⟨fun p => [.int q0 p.1, .int q1 p.2.1, .int q2 p.2.2.1, .int q3 p.2.2.2], 4, fun _ => rfl, by intro a u hu; simp at hu; rcases hu with rfl | rfl | rfl | rfl <;> rfl, by omega⟩
theorem reads_4 {P : Program} {t : TypeId} {f0 f1 f2 f3 : Field} {q0 q1 q2 q3 : IntKind} (ht : P.underlying t = some (.struct #[f0, f1, f2, f3])) (hc : P.cellsOf t = 4) (o0 : f0.offset = 0) (o1 : f1.offset = 1) (o2 : f2.offset = 2) (o3 : f3.offset = 3) (c0 : P.cellsOf f0.type = 1) (c1 : P.cellsOf f1.type = 1) (c2 : P.cellsOf f2.type = 1) (c3 : P.cellsOf f3.type = 1)
    (h0 : P.underlying f0.type = some (.int q0)) (h1 : P.underlying f1.type = some (.int q1)) (h2 : P.underlying f2.type = some (.int q2)) (h3 : P.underlying f3.type = some (.int q3)) : ReadsAs P t (encI4 q0 q1 q2 q3) (fun p => inK q0 p.1 ∧ inK q1 p.2.1 ∧ inK q2 p.2.2.1 ∧ inK q3 p.2.2.2) :=
  ⟨hc, fun {H enc w base spare held fuel cs x} h => by
    obtain ⟨xs, n, _, _, hl, hxl, hf⟩ := DataW.trod_struct ht h
    rw [hc] at hl
    match cs, hl with
    | [a0, a1, a2, a3], _ =>
      have g0 := hf 0 f0 rfl
      have hx0 : xs[0]? = some (xs[0]'(by rw [hxl]; simp)) := List.getElem?_eq_getElem _
      rw [o0, c0, hx0] at g0
      obtain ⟨y0, e0, _, w0⟩ := DataW.trod_int h0 g0
      simp at e0
      subst e0
      have g1 := hf 1 f1 rfl
      have hx1 : xs[1]? = some (xs[1]'(by rw [hxl]; simp)) := List.getElem?_eq_getElem _
      rw [o1, c1, hx1] at g1
      obtain ⟨y1, e1, _, w1⟩ := DataW.trod_int h1 g1
      simp at e1
      subst e1
      have g2 := hf 2 f2 rfl
      have hx2 : xs[2]? = some (xs[2]'(by rw [hxl]; simp)) := List.getElem?_eq_getElem _
      rw [o2, c2, hx2] at g2
      obtain ⟨y2, e2, _, w2⟩ := DataW.trod_int h2 g2
      simp at e2
      subst e2
      have g3 := hf 3 f3 rfl
      have hx3 : xs[3]? = some (xs[3]'(by rw [hxl]; simp)) := List.getElem?_eq_getElem _
      rw [o3, c3, hx3] at g3
      obtain ⟨y3, e3, _, w3⟩ := DataW.trod_int h3 g3
      simp at e3
      subst e3
      exact ⟨(y0, y1, y2, y3), rfl, w0, w1, w2, w3⟩⟩
end Go.Proofs.YtiahnlaplkeiaaaDoor

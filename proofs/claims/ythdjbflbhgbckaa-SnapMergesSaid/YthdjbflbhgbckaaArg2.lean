/-
  An argument that is a slice of slices of plain things. No program in sight.
-/
import Derived.Test.YthdjbflbhgbckaaArg
set_option linter.unusedVariables false
namespace Go.Proofs.Ythdjbflbhgbckaa
open Go.RowKit Go.Deep Go.WideShapes Go.ChangeShapes
section
variable {H : Type} {enc : TypeId × Value → H} {P : Program} {w : World} {base : Nat} {spare : Nat → Bool} {held : Bool}
theorem rd_trod {α : Type} {E : Enc α} {good : α → Prop} {t e : TypeId} {cs0 : List Value} {x0 : DataW H × List MemPlace} {fuel : Nat} (ht : P.underlying t = some (.slice e)) (hr : ReadsAs P e E good)
    (hf : DataW.trod enc P w base spare held fuel t cs0 = some x0) :
    ∃ (L : List α) (A : Option Addr) (c : Nat), cs0 = [.slice A L.length c] ∧ L.length ≤ c ∧ c ≤ maxLen ∧ Rd E w (.slice A L.length c) L ∧ ∀ a ∈ L, good a := by
  obtain ⟨d, ps⟩ := x0
  rcases open_slice ht hf with ⟨h0, _⟩ | ⟨a, len', cap', m, k, D, Pl, hcs, hb, hl, hm, hmm, hx, hi⟩
  · exact ⟨[], none, 0, h0, Nat.le_refl _, by simp [maxLen], Rd.nil E w 0, by simp⟩
  · subst hcs
    obtain ⟨L, hL, hQ⟩ := pick_list (Q := fun i (x : α) => good x ∧ ∀ j u, (E.c x)[j]? = some u → w.cell? (a.add (i * E.s + j)) = some u) len' (fun i hil => by
      have him : i < m := by rw [hmm]; split <;> omega
      obtain ⟨cs', hc, ht'⟩ := hi i him
      obtain ⟨x, rfl, hg⟩ := hr.2 ht'
      rw [hr.1] at hc
      obtain ⟨_, hcl, hat⟩ := World.cells?_some hc
      refine ⟨x, hg, fun j u hu => ?_⟩
      have hj : j < E.s := by have := (List.getElem?_eq_some_iff.1 hu).1; rwa [E.len] at this
      rw [← Go.Deep.add_add, hat j hj]
      exact hu)
    subst hL
    refine ⟨L, some a, cap', rfl, hl, hm, ⟨flat_len, some a, cap', rfl, fun j u hj => ?_⟩, fun x hx => ?_⟩
    · have hjl := (List.getElem?_eq_some_iff.1 hj).1
      rw [flat_len] at hjl
      have hk : j / E.s < L.length := Nat.div_lt_of_lt_mul (by rw [Nat.mul_comm]; exact hjl)
      have hr' : j % E.s < E.s := Nat.mod_lt _ E.pos
      obtain ⟨x, hx⟩ : ∃ x, L[j / E.s]? = some x := ⟨_, List.getElem?_eq_getElem hk⟩
      have he : j / E.s * E.s + j % E.s = j := by rw [Nat.mul_comm]; exact Nat.div_add_mod j E.s
      have hg := flat_get (E := E) hx hr'
      rw [he, hj] at hg
      have hc := (hQ _ x hx).2 _ u hg.symm
      rw [he] at hc
      refine ⟨a, rfl, ?_, hc⟩
      have := World.block_lt_of_cell? _ _ hc
      rwa [block_add] at this
    · obtain ⟨i, hi', rfl⟩ := List.getElem_of_mem hx
      exact (hQ i _ (List.getElem?_eq_getElem hi')).1
/-- A slice of slices: the inner ones' values, what each reads as. -/
theorem rd_arg2 {α : Type} {E : Enc α} {good : α → Prop} {t e1 e2 : TypeId} {v : Value} {d : DataW H} {ps : List MemPlace} {r : Reach} {b0 : Nat} (ht : P.underlying t = some (.slice e1)) (ht1 : P.underlying e1 = some (.slice e2)) (hc1 : P.cellsOf e1 = 1) (hr : ReadsAs P e2 E good)
    (hok : Value.okWide P w r b0 t v) (h : DataW.Trod enc P w base spare held t v d ps) :
    ∃ (L : List (List α)) (vs : List Value) (A : Option Addr) (c : Nat), v = .slice A L.length c ∧ L.length ≤ c ∧ c ≤ maxLen ∧ Src w 1 (.slice A L.length c) L.length vs ∧ (∀ i, i < L.length → Rd E w (vs.getD i undef) (L.getD i [])) ∧ ∀ l ∈ L, ∀ a ∈ l, good a := by
  obtain ⟨a0, len, cap, rfl⟩ := okWide_slice ht hok
  obtain ⟨fuel, hf⟩ := h
  rcases open_slice ht hf with ⟨h0, _⟩ | ⟨a, len', cap', m, k, D, Pl, hcs, hb, hl, hm, hmm, hx, hi⟩
  · simp only [Value.cells, List.cons.injEq, and_true] at h0
    injection h0 with h1 h2 h3
    subst h1 h2 h3
    exact ⟨[], [], none, 0, rfl, Nat.le_refl _, by simp [maxLen], ⟨by simp, none, 0, rfl, by simp⟩, fun i hi => by simp at hi, by simp⟩
  · simp only [Value.cells, List.cons.injEq, and_true] at hcs
    injection hcs with h1 h2 h3
    subst h1 h2 h3
    obtain ⟨M, hM, hQ⟩ := pick_list (Q := fun i (x : Value × List α) => w.cell? (a.add i) = some x.1 ∧ Rd E w x.1 x.2 ∧ ∀ y ∈ x.2, good y) len (fun i hil => by
      have him : i < m := by rw [hmm]; split <;> omega
      obtain ⟨cs', hc, ht'⟩ := hi i him
      obtain ⟨l, A, c, rfl, _, _, h4, h5⟩ := rd_trod ht1 hr ht'
      rw [hc1] at hc
      obtain ⟨_, hcl, hat⟩ := World.cells?_some hc
      have h0 := hat 0 (by omega)
      rw [Nat.mul_one] at h0
      exact ⟨(_, l), h0, h4, h5⟩)
    subst hM
    refine ⟨M.map (·.2), M.map (·.1), some a, cap, by simp, by simpa using hl, hm, ⟨by simp, some a, cap, by simp, fun j u hj => ?_⟩, fun i hi' => ?_, fun l hl' y hy => ?_⟩
    · rw [List.getElem?_map] at hj
      cases hx' : M[j]? with
      | none => rw [hx'] at hj; cases hj
      | some x =>
        rw [hx'] at hj
        injection hj with hj
        subst hj
        have hc := (hQ j x hx').1
        refine ⟨a, rfl, ?_, hc⟩
        have := World.block_lt_of_cell? _ _ hc
        rwa [block_add] at this
    · simp at hi'
      have := (hQ i M[i] (List.getElem?_eq_getElem hi')).2.1
      rw [List.getD_eq_getElem?_getD, List.getD_eq_getElem?_getD, List.getElem?_map, List.getElem?_map, List.getElem?_eq_getElem hi']
      exact this
    · obtain ⟨x, hx', rfl⟩ := List.mem_map.1 hl'
      obtain ⟨i, hi', rfl⟩ := List.getElem_of_mem hx'
      exact (hQ i _ (List.getElem?_eq_getElem hi')).2.2 y hy
end
end Go.Proofs.Ythdjbflbhgbckaa

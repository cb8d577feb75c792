/-
  Arguments that are slices of plain things: what they read as. No program in sight.
  Lists of pairs by rising keys, plain: looked up, put, taken out; such a list is what its look-ups say. No program in sight.
  A state of collections, plainly. No program in sight.
  errors.Is over the program's own errors (a number, or a place that wraps a number), and the law's 'No': by contracts.
  The law's 'No': which number an error has.
  Errors as the program makes them: none, a number, a fault at a place; what No says of them.
  A region that draws its order, where the order is forced in all that matters: what it does, it does as if in the order of the text. No program in sight.
-/
import Derived.Test.YtfbeaklplefojaaGreatDoorEvB0
import Derived.Test.YtfbeaklplefojaaGreatDoorProg
import Derived.Stop.Asserts
import Derived.RowKitTokens
import Derived.Orders
import Derived.Tactics
import Derived.Laws.World
set_option linter.unusedVariables false
namespace Go.Proofs.YtfbeaklplefojaaGreatDoor
open Go.RowKit Go.Deep Go.WideShapes Go.ChangeShapes

/-- Whatever reads at a type is such a thing. -/
def ReadsAs {α : Type} (P : Program) (t : TypeId) (E : Enc α) (good : α → Prop) : Prop :=
  P.cellsOf t = E.s ∧ ∀ {H : Type} {enc : TypeId × Value → H} {w : World} {base : Nat} {spare : Nat → Bool} {held : Bool} {fuel : Nat} {cs : List Value} {x : DataW H × List MemPlace},
    DataW.trod enc P w base spare held fuel t cs = some x → ∃ a, cs = E.c a ∧ good a
theorem pick_list {α : Type} {Q : Nat → α → Prop} : ∀ n, (∀ i, i < n → ∃ a, Q i a) → ∃ L : List α, L.length = n ∧ ∀ i a, L[i]? = some a → Q i a
  | 0, _ => ⟨[], rfl, by simp⟩
  | n + 1, h => by
    obtain ⟨L, hl, hL⟩ := pick_list n (fun i hi => h i (by omega))
    obtain ⟨a, ha⟩ := h n (by omega)
    refine ⟨L ++ [a], by simp [hl], fun i b hb => ?_⟩
    rw [List.getElem?_append] at hb
    split at hb
    · exact hL i b hb
    · rename_i hi
      have hi' : i = n := by
        have := (List.getElem?_eq_some_iff.1 hb).1
        simp at this
        omega
      subst hi'
      simp [hl] at hb
      subst hb
      exact ha
section
variable {H : Type} {enc : TypeId × Value → H} {P : Program} {w : World} {base : Nat} {spare : Nat → Bool} {held : Bool}
theorem rd_arg {α : Type} {E : Enc α} {good : α → Prop} {t e : TypeId} {v : Value} {d : DataW H} {ps : List MemPlace} {r : Reach} {b0 : Nat} (ht : P.underlying t = some (.slice e)) (hr : ReadsAs P e E good)
    (hok : Value.okWide P w r b0 t v) (h : DataW.Trod enc P w base spare held t v d ps) :
    ∃ (L : List α) (A : Option Addr) (c : Nat), v = .slice A L.length c ∧ L.length ≤ c ∧ c ≤ maxLen ∧ Rd E w v L ∧ ∀ a ∈ L, good a := by
  obtain ⟨a0, len, cap, rfl⟩ := okWide_slice ht hok
  obtain ⟨fuel, hf⟩ := h
  rcases open_slice ht hf with ⟨h0, _⟩ | ⟨a, len', cap', m, k, D, Pl, hcs, hb, hl, hm, hmm, hx, hi⟩
  · simp only [Value.cells, List.cons.injEq, and_true] at h0
    injection h0 with h1 h2 h3
    subst h1 h2 h3
    exact ⟨[], _, _, rfl, Nat.le_refl _, by simp [maxLen], Rd.nil E w 0, by simp⟩
  · simp only [Value.cells, List.cons.injEq, and_true] at hcs
    injection hcs with h1 h2 h3
    subst h1 h2 h3
    obtain ⟨L, hL, hQ⟩ := pick_list (Q := fun i (x : α) => good x ∧ ∀ j u, (E.c x)[j]? = some u → w.cell? (a.add (i * E.s + j)) = some u) len (fun i hil => by
      have him : i < m := by rw [hmm]; split <;> omega
      obtain ⟨cs', hc, ht'⟩ := hi i him
      obtain ⟨x, rfl, hg⟩ := hr.2 ht'
      rw [hr.1] at hc
      obtain ⟨_, hcl, hat⟩ := World.cells?_some hc
      refine ⟨x, hg, fun j u hu => ?_⟩
      have hj : j < E.s := by have := (List.getElem?_eq_some_iff.1 hu).1; rwa [E.len] at this
      rw [← Go.Deep.add_add, hat j hj]
      exact hu)
    subst hL
    refine ⟨L, some a, cap, rfl, hl, hm, ⟨flat_len, some a, cap, rfl, fun j u hj => ?_⟩, fun x hx => ?_⟩
    · have hjl := (List.getElem?_eq_some_iff.1 hj).1
      rw [flat_len] at hjl
      have hk : j / E.s < L.length := Nat.div_lt_of_lt_mul (by rw [Nat.mul_comm]; exact hjl)
      have hr' : j % E.s < E.s := Nat.mod_lt _ E.pos
      obtain ⟨x, hx⟩ : ∃ x, L[j / E.s]? = some x := ⟨_, List.getElem?_eq_getElem hk⟩
      have he : j / E.s * E.s + j % E.s = j := by rw [Nat.mul_comm]; exact Nat.div_add_mod j E.s
      have hg := flat_get (E := E) hx hr'
      rw [he, hj] at hg
      have hc := (hQ _ x hx).2 _ u hg.symm
      rw [he] at hc
      refine ⟨a, rfl, ?_, hc⟩
      have := World.block_lt_of_cell? _ _ hc
      rwa [block_add] at this
    · obtain ⟨i, hi', rfl⟩ := List.getElem_of_mem hx
      exact (hQ i _ (List.getElem?_eq_getElem hi')).1
end
/-- An integer; two; in whatever kinds. -/
def encI (q : IntKind) : Enc Int := ⟨fun a => [.int q a], 1, fun _ => rfl, by intro a u hu; simp at hu; subst hu; rfl, by omega⟩
def encII (q q' : IntKind) : Enc (Int × Int) := ⟨fun p => [.int q p.1, .int q' p.2], 2, fun _ => rfl, by intro a u hu; simp at hu; rcases hu with rfl | rfl <;> rfl, by omega⟩
def inK (q : IntKind) (a : Int) : Prop := (Lit.int q a).wf = true
theorem reads_int {P : Program} {t : TypeId} {q : IntKind} (ht : P.underlying t = some (.int q)) (hc : P.cellsOf t = 1) : ReadsAs P t (encI q) (inK q) :=
  ⟨hc, fun h => by
    obtain ⟨y, hy, _, hw⟩ := DataW.trod_int ht h
    exact ⟨y, hy, hw⟩⟩
/-- A struct of two integers. -/
theorem reads_two {P : Program} {t t0 t1 : TypeId} {f0 f1 : Field} {q q' : IntKind} (ht : P.underlying t = some (.struct #[f0, f1])) (hc : P.cellsOf t = 2) (o0 : f0.offset = 0) (o1 : f1.offset = 1) (c0 : P.cellsOf f0.type = 1) (c1 : P.cellsOf f1.type = 1)
    (h0 : P.underlying f0.type = some (.int q)) (h1 : P.underlying f1.type = some (.int q')) : ReadsAs P t (encII q q') (fun p => inK q p.1 ∧ inK q' p.2) :=
  ⟨hc, fun {H enc w base spare held fuel cs x} h => by
    obtain ⟨xs, n, _, _, hl, hxl, hf⟩ := DataW.trod_struct ht h
    rw [hc] at hl
    match cs, hl with
    | [a, b], _ =>
      have g0 := hf 0 f0 rfl
      have g1 := hf 1 f1 rfl
      have hx0 : xs[0]? = some (xs[0]'(by rw [hxl]; simp)) := List.getElem?_eq_getElem _
      have hx1 : xs[1]? = some (xs[1]'(by rw [hxl]; simp)) := List.getElem?_eq_getElem _
      rw [o0, c0, hx0] at g0
      rw [o1, c1, hx1] at g1
      obtain ⟨y0, e0, _, w0⟩ := DataW.trod_int h0 g0
      obtain ⟨y1, e1, _, w1⟩ := DataW.trod_int h1 g1
      simp at e0 e1
      subst e0 e1
      exact ⟨(y0, y1), rfl, w0, w1⟩⟩
def encI3 (q0 q1 q2 : IntKind) : Enc (Int × Int × Int) := ⟨fun p => [.int q0 p.1, .int q1 p.2.1, .int q2 p.2.2], 3, fun _ => rfl, by intro a u hu; simp at hu; rcases hu with rfl | rfl | rfl <;> rfl, by omega⟩
theorem reads_3 {P : Program} {t : TypeId} {f0 f1 f2 : Field} {q0 q1 q2 : IntKind} (ht : P.underlying t = some (.struct #[f0, f1, f2])) (hc : P.cellsOf t = 3) (o0 : f0.offset = 0) (o1 : f1.offset = 1) (o2 : f2.offset = 2) (c0 : P.cellsOf f0.type = 1) (c1 : P.cellsOf f1.type = 1) (c2 : P.cellsOf f2.type = 1)
    (h0 : P.underlying f0.type = some (.int q0)) (h1 : P.underlying f1.type = some (.int q1)) (h2 : P.underlying f2.type = some (.int q2)) : ReadsAs P t (encI3 q0 q1 q2) (fun p => inK q0 p.1 ∧ inK q1 p.2.1 ∧ inK q2 p.2.2) :=
  ⟨hc, fun {H enc w base spare held fuel cs x} h => by
    obtain ⟨xs, n, _, _, hl, hxl, hf⟩ := DataW.trod_struct ht h
    rw [hc] at hl
    match cs, hl with
    | [a0, a1, a2], _ =>
      have g0 := hf 0 f0 rfl
      have hx0 : xs[0]? = some (xs[0]'(by rw [hxl]; simp)) := List.getElem?_eq_getElem _
      rw [o0, c0, hx0] at g0
      obtain ⟨y0, e0, _, w0⟩ := DataW.trod_int h0 g0
      simp at e0
      subst e0
      have g1 := hf 1 f1 rfl
      have hx1 : xs[1]? = some (xs[1]'(by rw [hxl]; simp)) := List.getElem?_eq_getElem _
      rw [o1, c1, hx1] at g1
      obtain ⟨y1, e1, _, w1⟩ := DataW.trod_int h1 g1
      simp at e1
      subst e1
      have g2 := hf 2 f2 rfl
      have hx2 : xs[2]? = some (xs[2]'(by rw [hxl]; simp)) := List.getElem?_eq_getElem _
      rw [o2, c2, hx2] at g2
      obtain ⟨y2, e2, _, w2⟩ := DataW.trod_int h2 g2
      simp at e2
      subst e2
      exact ⟨(y0, y1, y2), rfl, w0, w1, w2⟩⟩
def encI4 (q0 q1 q2 q3 : IntKind) : Enc (Int × Int × Int × Int) := ⟨fun p => [.int q0 p.1, .int q1 p.2.1, .int q2 p.2.2.1, .int q3 p.2.2.2], 4, fun _ => rfl, by intro a u hu; simp at hu; rcases hu with rfl | rfl | rfl | rfl <;> rfl, by omega⟩
theorem reads_4 {P : Program} {t : TypeId} {f0 f1 f2 f3 : Field} {q0 q1 q2 q3 : IntKind} (ht : P.underlying t = some (.struct #[f0, f1, f2, f3])) (hc : P.cellsOf t = 4) (o0 : f0.offset = 0) (o1 : f1.offset = 1) (o2 : f2.offset = 2) (o3 : f3.offset = 3) (c0 : P.cellsOf f0.type = 1) (c1 : P.cellsOf f1.type = 1) (c2 : P.cellsOf f2.type = 1) (c3 : P.cellsOf f3.type = 1)
    (h0 : P.underlying f0.type = some (.int q0)) (h1 : P.underlying f1.type = some (.int q1)) (h2 : P.underlying f2.type = some (.int q2)) (h3 : P.underlying f3.type = some (.int q3)) : ReadsAs P t (encI4 q0 q1 q2 q3) (fun p => inK q0 p.1 ∧ inK q1 p.2.1 ∧ inK q2 p.2.2.1 ∧ inK q3 p.2.2.2) :=
  ⟨hc, fun {H enc w base spare held fuel cs x} h => by
    obtain ⟨xs, n, _, _, hl, hxl, hf⟩ := DataW.trod_struct ht h
    rw [hc] at hl
    match cs, hl with
    | [a0, a1, a2, a3], _ =>
      have g0 := hf 0 f0 rfl
      have hx0 : xs[0]? = some (xs[0]'(by rw [hxl]; simp)) := List.getElem?_eq_getElem _
      rw [o0, c0, hx0] at g0
      obtain ⟨y0, e0, _, w0⟩ := DataW.trod_int h0 g0
      simp at e0
      subst e0
      have g1 := hf 1 f1 rfl
      have hx1 : xs[1]? = some (xs[1]'(by rw [hxl]; simp)) := List.getElem?_eq_getElem _
      rw [o1, c1, hx1] at g1
      obtain ⟨y1, e1, _, w1⟩ := DataW.trod_int h1 g1
      simp at e1
      subst e1
      have g2 := hf 2 f2 rfl
      have hx2 : xs[2]? = some (xs[2]'(by rw [hxl]; simp)) := List.getElem?_eq_getElem _
      rw [o2, c2, hx2] at g2
      obtain ⟨y2, e2, _, w2⟩ := DataW.trod_int h2 g2
      simp at e2
      subst e2
      have g3 := hf 3 f3 rfl
      have hx3 : xs[3]? = some (xs[3]'(by rw [hxl]; simp)) := List.getElem?_eq_getElem _
      rw [o3, c3, hx3] at g3
      obtain ⟨y3, e3, _, w3⟩ := DataW.trod_int h3 g3
      simp at e3
      subst e3
      exact ⟨(y0, y1, y2, y3), rfl, w0, w1, w2, w3⟩⟩
end Go.Proofs.YtfbeaklplefojaaGreatDoor

namespace Go.Proofs.YtfbeaklplefojaaGreatDoor.Assoc

abbrev AL := List (Int × Int)
def Srt (l : AL) : Prop := l.Pairwise (fun a b => a.1 < b.1)
def get (l : AL) (k : Int) : Option Int := (l.find? (fun p => p.1 == k)).map (·.2)
def has (l : AL) (k : Int) : Bool := l.any (fun p => p.1 == k)
def put : AL → Int → Int → AL
  | [], k, v => [(k, v)]
  | p :: l, k, v => if k < p.1 then (k, v) :: p :: l else if p.1 = k then (k, v) :: l else p :: put l k v
def del (l : AL) (k : Int) : AL := l.filter (fun p => !(p.1 == k))

theorem Srt.nil : Srt [] := List.Pairwise.nil
theorem Srt.tail {p : Int × Int} {l : AL} (h : Srt (p :: l)) : Srt l := (List.pairwise_cons.1 h).2
theorem Srt.head {p : Int × Int} {l : AL} (h : Srt (p :: l)) : ∀ x ∈ l, p.1 < x.1 := (List.pairwise_cons.1 h).1
theorem get_nil (k : Int) : get [] k = none := rfl
theorem get_cons (p : Int × Int) (l : AL) (k : Int) : get (p :: l) k = if p.1 = k then some p.2 else get l k := by
  unfold get
  rw [List.find?_cons]
  by_cases h : p.1 = k
  · simp [h]
  · have : (p.1 == k) = false := by simpa using h
    rw [this, if_neg h]
theorem get_none {l : AL} {k : Int} : get l k = none ↔ ∀ p ∈ l, p.1 ≠ k := by
  induction l with
  | nil => simp [get_nil]
  | cons p l ih =>
    rw [get_cons]
    by_cases h : p.1 = k
    · simp [h]
    · rw [if_neg h, ih]
      simp [h]
theorem get_low {l : AL} {k : Int} (h : ∀ x ∈ l, k < x.1) : get l k = none := get_none.2 fun p hp => by have := h p hp; omega
theorem get_mem {l : AL} (h : Srt l) {p : Int × Int} (hp : p ∈ l) : get l p.1 = some p.2 := by
  induction l with
  | nil => cases hp
  | cons a l ih =>
    rw [get_cons]
    rcases List.mem_cons.1 hp with rfl | hp
    · simp
    · rw [if_neg (by have := h.head p hp; omega)]
      exact ih h.tail hp
theorem mem_of_get {l : AL} {k v : Int} (h : get l k = some v) : (k, v) ∈ l := by
  induction l with
  | nil => cases h
  | cons a l ih =>
    rw [get_cons] at h
    by_cases e : a.1 = k
    · rw [if_pos e] at h
      injection h with h
      subst e h
      exact List.mem_cons_self ..
    · rw [if_neg e] at h
      exact List.mem_cons_of_mem _ (ih h)
theorem has_get (l : AL) (k : Int) : has l k = (get l k).isSome := by
  induction l with
  | nil => rfl
  | cons a l ih =>
    rw [get_cons]
    unfold has at ih ⊢
    rw [List.any_cons]
    by_cases e : a.1 = k
    · simp [e]
    · have : (a.1 == k) = false := by simpa using e
      rw [this, if_neg e, Bool.false_or, ih]
theorem mem_put {l : AL} {k v : Int} {x : Int × Int} (h : x ∈ put l k v) : x = (k, v) ∨ x ∈ l := by
  induction l with
  | nil => simp [put] at h; exact .inl h
  | cons p l ih =>
    unfold put at h
    split at h
    · rcases List.mem_cons.1 h with h | h
      · exact .inl h
      · exact .inr h
    · split at h
      · rcases List.mem_cons.1 h with h | h
        · exact .inl h
        · exact .inr (List.mem_cons_of_mem _ h)
      · rcases List.mem_cons.1 h with h | h
        · exact .inr (by simp [h])
        · rcases ih h with h | h
          · exact .inl h
          · exact .inr (List.mem_cons_of_mem _ h)
theorem srt_put {l : AL} (h : Srt l) (k v : Int) : Srt (put l k v) := by
  induction l with
  | nil => exact List.pairwise_singleton ..
  | cons p l ih =>
    unfold put
    split
    · rename_i hk
      refine List.pairwise_cons.2 ⟨fun x hx => ?_, h⟩
      rcases List.mem_cons.1 hx with rfl | hx
      · exact hk
      · have := h.head x hx; show k < x.1; omega
    · split
      · rename_i hk
        refine List.pairwise_cons.2 ⟨fun x hx => ?_, h.tail⟩
        have := h.head x hx; show k < x.1; omega
      · rename_i h1 h2
        refine List.pairwise_cons.2 ⟨fun x hx => ?_, ih h.tail⟩
        rcases mem_put hx with rfl | hx
        · show p.1 < k; omega
        · exact h.head x hx
theorem get_put {l : AL} (h : Srt l) (k v x : Int) : get (put l k v) x = if x = k then some v else get l x := by
  induction l with
  | nil =>
    unfold put
    rw [get_cons]
    by_cases e : x = k
    · simp [e]
    · rw [if_neg e, if_neg (fun e' => e e'.symm)]
  | cons p l ih =>
    unfold put
    split
    · rename_i hk
      rw [get_cons]
      by_cases e : x = k
      · simp [e]
      · rw [if_neg e, if_neg (fun e' => e e'.symm)]
    · split
      · rename_i hk
        rw [get_cons, get_cons]
        by_cases e : x = k
        · simp [e]
        · rw [if_neg e, if_neg (fun e' => e e'.symm), if_neg (by omega)]
      · rename_i h1 h2
        rw [get_cons, get_cons, ih h.tail]
        by_cases e : p.1 = x
        · rw [if_pos e, if_pos e, if_neg (by omega)]
        · rw [if_neg e, if_neg e]
theorem len_put {l : AL} (h : Srt l) (k v : Int) : (put l k v).length = if (get l k).isSome then l.length else l.length + 1 := by
  induction l with
  | nil => rfl
  | cons p l ih =>
    unfold put
    split
    · rename_i hk
      rw [get_low (l := p :: l) (fun x hx => by
        rcases List.mem_cons.1 hx with rfl | hx
        · exact hk
        · have := h.head x hx; omega)]
      rfl
    · split
      · rename_i hk
        rw [get_cons, if_pos hk]
        rfl
      · rename_i h1 h2
        rw [get_cons, if_neg h2, List.length_cons, ih h.tail]
        split <;> rfl
theorem srt_del {l : AL} (h : Srt l) (k : Int) : Srt (del l k) := h.sublist List.filter_sublist
theorem get_del {l : AL} (k x : Int) : get (del l k) x = if x = k then none else get l x := by
  induction l with
  | nil => unfold del; simp [get_nil]
  | cons p l ih =>
    unfold del at ih ⊢
    rw [List.filter_cons]
    by_cases e : p.1 = k
    · simp only [e, beq_self_eq_true, Bool.not_true, Bool.false_eq_true, if_false]
      rw [ih, get_cons]
      by_cases e2 : x = k
      · simp [e2]
      · rw [if_neg e2, if_neg e2, if_neg (by omega)]
    · have : (p.1 == k) = false := by simpa using e
      simp only [this, Bool.not_false, if_true]
      rw [get_cons, ih, get_cons]
      by_cases e2 : p.1 = x
      · rw [if_pos e2, if_pos e2, if_neg (by omega)]
      · rw [if_neg e2, if_neg e2]
theorem del_none {l : AL} {k : Int} (h : get l k = none) : del l k = l := by
  unfold del
  rw [List.filter_eq_self]
  intro p hp
  simpa using get_none.1 h p hp
theorem len_del {l : AL} (h : Srt l) (k : Int) : (del l k).length = if (get l k).isSome then l.length - 1 else l.length := by
  induction l with
  | nil => rfl
  | cons p l ih =>
    rw [get_cons]
    unfold del at ih ⊢
    rw [List.filter_cons]
    by_cases e : p.1 = k
    · have hn : get l k = none := get_low fun x hx => by have := h.head x hx; omega
      simp only [e, beq_self_eq_true, Bool.not_true, Bool.false_eq_true, if_false, if_true]
      have := del_none hn
      unfold del at this
      rw [this]
      simp
    · have : (p.1 == k) = false := by simpa using e
      simp only [this, Bool.not_false, if_true, if_neg e, List.length_cons]
      rw [ih h.tail]
      cases hg : get l k with
      | none => simp
      | some v =>
        have : 0 < l.length := by
          cases l with
          | nil => cases hg
          | cons _ _ => simp
        simp
        omega
theorem ext {l m : AL} (hl : Srt l) (hm : Srt m) (h : ∀ k, get l k = get m k) : l = m := by
  induction l generalizing m with
  | nil =>
    cases m with
    | nil => rfl
    | cons p m =>
      have := h p.1
      rw [get_cons, if_pos rfl] at this
      cases this
  | cons a l ih =>
    cases m with
    | nil =>
      have := h a.1
      rw [get_cons, if_pos rfl] at this
      cases this
    | cons b m =>
      have e : a.1 = b.1 := by
        rcases Int.lt_trichotomy a.1 b.1 with c | c | c
        · have := h a.1
          rw [get_cons, if_pos rfl, get_low (l := b :: m) (fun x hx => by
            rcases List.mem_cons.1 hx with rfl | hx
            · exact c
            · have := hm.head x hx; omega)] at this
          cases this
        · exact c
        · have := h b.1
          rw [get_cons b, if_pos rfl, get_low (l := a :: l) (fun x hx => by
            rcases List.mem_cons.1 hx with rfl | hx
            · exact c
            · have := hl.head x hx; omega)] at this
          cases this
      have e2 : a.2 = b.2 := by
        have := h a.1
        rw [get_cons, if_pos rfl, get_cons, if_pos e.symm] at this
        injection this
      have e3 : a = b := by cases a; cases b; simp_all
      subst e3
      rw [ih hl.tail hm.tail]
      intro k
      have hk := h k
      rw [get_cons, get_cons] at hk
      by_cases c : a.1 = k
      · rw [get_low (l := l) (fun x hx => by have := hl.head x hx; omega), get_low (l := m) (fun x hx => by have := hm.head x hx; omega)]
      · rwa [if_neg c, if_neg c] at hk
theorem perm_eq {l m : AL} (h : l.Perm m) (hl : Srt l) (hm : Srt m) : l = m := by
  refine ext hl hm fun k => ?_
  cases hg : get m k with
  | none => exact get_none.2 fun p hp => get_none.1 hg p (h.mem_iff.1 hp)
  | some v => exact get_mem hl (p := (k, v)) (h.mem_iff.2 (mem_of_get hg))
theorem put_get {l : AL} (h : Srt l) {k v : Int} (hg : get l k = some v) : put l k v = l := ext (srt_put h k v) h fun x => by
  rw [get_put h]
  by_cases e : x = k
  · rw [if_pos e, e, hg]
  · rw [if_neg e]
theorem put_put {l : AL} (h : Srt l) (k v v' : Int) : put (put l k v) k v' = put l k v' := ext (srt_put (srt_put h k v) k v') (srt_put h k v') fun x => by
  rw [get_put (srt_put h k v), get_put h, get_put h]
  by_cases e : x = k
  · rw [if_pos e, if_pos e]
  · rw [if_neg e, if_neg e, if_neg e]
theorem del_put {l : AL} (h : Srt l) {k : Int} (v : Int) (hg : get l k = none) : del (put l k v) k = l := ext (srt_del (srt_put h k v) k) h fun x => by
  rw [get_del, get_put h]
  by_cases e : x = k
  · rw [if_pos e, e, hg]
  · rw [if_neg e, if_neg e]
/-- Put by going over the list: each one ahead stays, the new one comes ahead of the first that is not below it, one with its key goes. -/
def over (k v : Int) : AL → Bool → AL
  | [], done => if done then [] else [(k, v)]
  | p :: l, done => (if k ≤ p.1 ∧ done = false then [(k, v)] else []) ++ ((if p.1 = k then [] else [p]) ++ over k v l (done || decide (k ≤ p.1)))
theorem over_done {l : AL} {k v : Int} : over k v l true = del l k := by
  induction l with
  | nil => rfl
  | cons p l ih =>
    unfold over del
    rw [List.filter_cons]
    simp only [Bool.true_eq_false, and_false, if_false, Bool.true_or, List.nil_append]
    rw [ih]
    by_cases e : p.1 = k
    · simp [e, del]
    · have : (p.1 == k) = false := by simpa using e
      simp [e, this, del]
theorem over_put {l : AL} (h : Srt l) (k v : Int) : over k v l false = put l k v := by
  induction l with
  | nil => rfl
  | cons p l ih =>
    unfold over put
    by_cases e : k < p.1
    · rw [if_pos ⟨by omega, rfl⟩, if_neg (by omega), if_pos e, decide_eq_true (by omega : k ≤ p.1), Bool.or_true, over_done, del_none (get_low fun x hx => by have := h.head x hx; omega)]
      rfl
    · rw [if_neg e]
      by_cases e2 : p.1 = k
      · rw [if_pos ⟨by omega, rfl⟩, if_pos e2, if_pos e2, decide_eq_true (by omega : k ≤ p.1), Bool.or_true, over_done, del_none (get_low fun x hx => by have := h.head x hx; omega)]
        rfl
      · rw [if_neg (fun c => by omega), if_neg e2, if_neg e2, decide_eq_false (by omega : ¬ k ≤ p.1)]
        show [] ++ ([p] ++ over k v l false) = _
        rw [ih h.tail]
        rfl
end Go.Proofs.YtfbeaklplefojaaGreatDoor.Assoc

namespace Go.Proofs.YtfbeaklplefojaaGreatDoor.MP
open Assoc

/-- The kinds of collections, and what each has, by rising keys. -/
structure MS where
  K : List Int
  L : List AL
/-- An int. -/
def kB (k : Int) : Prop := -9223372036854775808 ≤ k ∧ k ≤ 9223372036854775807
structure Good (s : MS) : Prop where
  kl : s.K.length = s.L.length
  srt : ∀ l ∈ s.L, Srt l
  len : ∀ l ∈ s.L, l.length ≤ 100
  k8 : s.K.length ≤ 8
  kb : ∀ l ∈ s.L, ∀ p ∈ l, kB p.1
def isC (s : MS) (c : Int) : Bool := decide (0 ≤ c ∧ c < s.L.length)
def coll (s : MS) (i : Nat) : AL := s.L.getD i []
def setC (s : MS) (i : Nat) (l : AL) : MS := { s with L := s.L.set i l }
def putE (l : AL) (k : Int) : Int := if (get l k).isSome = false ∧ 100 ≤ l.length then 8 else 0
/-- What a put stores. -/
def putV (s : MS) (i : Nat) (v : Int) : Int := if s.K.getD i 0 = 2 then 1 else v
def mPut (s : MS) (i : Nat) (k v : Int) : MS := if putE (coll s i) k = 0 then setC s i (put (coll s i) k (putV s i v)) else s
def mDel (s : MS) (i : Nat) (k : Int) : MS := setC s i (del (coll s i) k)
/-- The least key from one on. -/
def ceilL (l : AL) (k : Int) : Option Int := (l.find? (fun p => decide (k ≤ p.1))).map (·.1)
def rangeL (l : AL) (a b : Int) : Nat := (l.filter (fun p => decide (a ≤ p.1) && decide (p.1 ≤ b))).length
theorem coll_get {s : MS} {i : Nat} (h : i < s.L.length) : s.L[i]? = some (coll s i) := by
  unfold coll
  rw [List.getD_eq_getElem?_getD, List.getElem?_eq_getElem h]
  rfl
theorem coll_mem {s : MS} {i : Nat} (h : i < s.L.length) : coll s i ∈ s.L := List.mem_of_getElem? (coll_get h)
theorem isC_form {s : MS} {c : Int} (h : isC s c = true) : ∃ i : Nat, c = i ∧ i < s.L.length := by
  unfold isC at h
  rw [decide_eq_true_iff] at h
  exact ⟨c.toNat, by omega, by omega⟩
theorem isC_nat {s : MS} {i : Nat} (h : i < s.L.length) : isC s i = true := by
  unfold isC
  rw [decide_eq_true_iff]
  omega
theorem good_set {s : MS} (h : Good s) (i : Nat) {l : AL} (h1 : Srt l) (h2 : l.length ≤ 100) (h3 : ∀ p ∈ l, kB p.1) : Good (setC s i l) := by
  refine ⟨by simp [setC, h.kl], fun x hx => ?_, fun x hx => ?_, h.k8, fun x hx => ?_⟩
  · rcases List.mem_or_eq_of_mem_set hx with hx | rfl
    · exact h.srt x hx
    · exact h1
  · rcases List.mem_or_eq_of_mem_set hx with hx | rfl
    · exact h.len x hx
    · exact h2
  · rcases List.mem_or_eq_of_mem_set hx with hx | rfl
    · exact h.kb x hx
    · exact h3
theorem put_len100 {l : AL} (h : Srt l) (hl : l.length ≤ 100) {k : Int} (v : Int) (he : putE l k = 0) : (put l k v).length ≤ 100 := by
  rw [len_put h]
  unfold putE at he
  split at he
  · cases he
  · rename_i hc
    cases hg : (get l k).isSome with
    | true => simpa using hl
    | false =>
      rw [hg] at hc
      simp at hc ⊢
      omega
theorem good_put {s : MS} (h : Good s) {i : Nat} (hi : i < s.L.length) (k v : Int) (hk : kB k) : Good (mPut s i k v) := by
  unfold mPut
  split
  · rename_i he
    exact good_set h i (srt_put (h.srt _ (coll_mem hi)) _ _) (put_len100 (h.srt _ (coll_mem hi)) (h.len _ (coll_mem hi)) _ he) (fun p hp => by
      rcases mem_put hp with rfl | hp
      · exact hk
      · exact h.kb _ (coll_mem hi) p hp)
  · exact h
theorem good_del {s : MS} (h : Good s) {i : Nat} (hi : i < s.L.length) (k : Int) : Good (mDel s i k) :=
  good_set h i (srt_del (h.srt _ (coll_mem hi)) _) (by rw [len_del (h.srt _ (coll_mem hi))]; have := h.len _ (coll_mem hi); split <;> omega) (fun p hp => h.kb _ (coll_mem hi) p ((List.mem_filter.1 hp).1))
theorem coll_set {s : MS} {i j : Nat} (hi : i < s.L.length) (l : AL) : coll (setC s i l) j = if j = i then l else coll s j := by
  unfold coll setC
  simp only [List.getD_eq_getElem?_getD, List.getElem?_set]
  by_cases e : i = j
  · subst e
    simp [hi]
  · rw [if_neg e, if_neg (fun h => e h.symm)]
end Go.Proofs.YtfbeaklplefojaaGreatDoor.MP

namespace Go.Proofs.YtfbeaklplefojaaGreatDoor
open Go.RowKit Go.Extern.Stop Go.Stop Go.Extern

/-- The model's entry for a reflectlite type's Comparable. -/
def cmpEntry : Array Value → Sem Value := Extern.ReflectliteType.method fun t => do Extern.Rtype.noPackHeld "Comparable" t; pure (.bool (← typeInfo t).comparable)
theorem errnoTypeOf (v : Value) (w : World) : (Extern.ReflectliteType.typeOf #[.iface 63 v]).run Tryz.prog w = .ok (.iface 146 (.agg #[.pointer (some ⟨1, 63, none⟩)])) w := by kernel_rfl
theorem errnoComparable (w : World) : (cmpEntry #[.agg #[.pointer (some ⟨1, 63, none⟩)]]).run Tryz.prog w = .ok (.bool true) w := by kernel_rfl
theorem errnoComp : (Tryz.prog.info? 63).map (·.comparable) = some true := by kernel_rfl
theorem errnoNoIs (v : Value) (xT : TypeId) (w : World) : (Instr.typeAssert (.iface 63 v) xT 148 true).run Tryz.prog w = .ok (.tuple #[.nilIface, .bool false]) w := run_typeAssert_lacksB Tryz.underlying148 (by kernel_rfl) (by kernel_rfl) v xT w
theorem errnoNoUnwrap (v : Value) (xT : TypeId) (w : World) : (Instr.typeAssert (.iface 63 v) xT 151 true).run Tryz.prog w = .ok (.tuple #[.nilIface, .bool false]) w := run_typeAssert_lacksB Tryz.underlying151 (by kernel_rfl) (by kernel_rfl) v xT w
theorem errnoNoUnwraps (v : Value) (xT : TypeId) (w : World) : (Instr.typeAssert (.iface 63 v) xT 153 true).run Tryz.prog w = .ok (.tuple #[.nilIface, .bool false]) w := run_typeAssert_lacksB Tryz.underlying153 (by kernel_rfl) (by kernel_rfl) v xT w
theorem faultNoIs (v : Value) (xT : TypeId) (w : World) : (Instr.typeAssert (.iface 96 v) xT 148 true).run Tryz.prog w = .ok (.tuple #[.nilIface, .bool false]) w := run_typeAssert_lacksB Tryz.underlying148 (by kernel_rfl) (by kernel_rfl) v xT w
theorem faultHasUnwrap (v : Value) (xT : TypeId) (w : World) : (Instr.typeAssert (.iface 96 v) xT 151 true).run Tryz.prog w = .ok (.tuple #[.iface 96 v, .bool true]) w := run_typeAssert_hasB Tryz.underlying151 (by kernel_rfl) v xT w

set_option maxHeartbeats 1000000 in
/-- errors.Is of two numbers. -/
theorem is_errno (a b : Int) (w : World) :
    Calls Tryz.prog 27 #[.iface 63 (.int .i64 a), .iface 63 (.int .i64 b)] w fun e w' => e = .returned (.bool (a == b)) ∧ w = w' := by
  obtain ⟨i, hi, hcmp⟩ := Option.map_eq_some_iff.1 errnoComp
  have h8 := @run_callFunc_extern Tryz.prog 47 _ Extern.ReflectliteType.typeOf Tryz.func47 (by kernel_rfl) (by kernel_rfl) (by kernel_rfl) (by kernel_rfl)
  have h32 := @run_callFunc_extern Tryz.prog 132 _ cmpEntry Tryz.func132 (by kernel_rfl) (by kernel_rfl) (by kernel_rfl) (by kernel_rfl)
  have tT := errnoTypeOf
  have cT := errnoComparable
  have heq := run_eql_iface_int (P := Tryz.prog) w a b Tryz.underlying34 Tryz.underlying63 hi hcmp
  have n1 := errnoNoIs
  have n2 := errnoNoUnwrap
  have n3 := errnoNoUnwraps
  by_cases hab : a = b
  · subst hab
    have hb : (a == a) = true := by simp
    go_enter Tryz.func27, Tryz.ntmps27
    go_wp2
    refine wp_loop_rounds 1 ?_
    rw [rounds_succ]
    go_wp2
    go_ret
    exact ⟨by rw [hb]; rfl, rfl⟩
  · have hb : (a == b) = false := by simpa using hab
    clear hab
    go_enter Tryz.func27, Tryz.ntmps27
    go_wp2
    refine wp_loop_rounds 1 ?_
    rw [rounds_succ]
    go_wp2
    go_ret
    exact ⟨by rw [hb]; rfl, rfl⟩

set_option maxHeartbeats 1000000 in
/-- errors.Is of a place that wraps a number, and a number. -/
theorem is_fault (g : Nat) (a b : Int) (w : World) (hc : w.cell? ⟨g, 1, none⟩ = some (.int .i64 a)) :
    Calls Tryz.prog 27 #[.iface 96 (.pointer (some ⟨g, 0, none⟩)), .iface 63 (.int .i64 b)] w fun e w' => e = .returned (.bool (a == b)) ∧ w = w' := by
  obtain ⟨i, hi, hcmp⟩ := Option.map_eq_some_iff.1 errnoComp
  have h8 := @run_callFunc_extern Tryz.prog 47 _ Extern.ReflectliteType.typeOf Tryz.func47 (by kernel_rfl) (by kernel_rfl) (by kernel_rfl) (by kernel_rfl)
  have h32 := @run_callFunc_extern Tryz.prog 132 _ cmpEntry Tryz.func132 (by kernel_rfl) (by kernel_rfl) (by kernel_rfl) (by kernel_rfl)
  have tT := errnoTypeOf
  have cT := errnoComparable
  have heq := run_eql_iface_int (P := Tryz.prog) w a b Tryz.underlying34 Tryz.underlying63 hi hcmp
  have hty := run_eql_iface_types (P := Tryz.prog) 96 63 (.pointer (some ⟨g, 0, none⟩)) (.int .i64 b) Tryz.underlying34 (by decide) w
  have n1 := errnoNoIs
  have n2 := errnoNoUnwrap
  have n3 := errnoNoUnwraps
  have m1 := faultNoIs
  have m2 := faultHasUnwrap
  by_cases hab : a = b
  · subst hab
    have hb : (a == a) = true := by simp
    go_enter Tryz.func27, Tryz.ntmps27
    go_wp2
    refine wp_loop_rounds 2 ?_
    rw [rounds_succ]
    go_wp2
    rw [rounds_succ]
    go_wp2
    go_ret
    exact ⟨by rw [hb]; rfl, rfl⟩
  · have hb : (a == b) = false := by simpa using hab
    clear hab
    go_enter Tryz.func27, Tryz.ntmps27
    go_wp2
    refine wp_loop_rounds 2 ?_
    rw [rounds_succ]
    go_wp2
    rw [rounds_succ]
    go_wp2
    go_ret
    exact ⟨by rw [hb]; rfl, rfl⟩
end Go.Proofs.YtfbeaklplefojaaGreatDoor

namespace Go.Proofs.YtfbeaklplefojaaGreatDoor
open Go.RowKit

theorem no_nil (w : World) : Calls Tryz.prog 10 #[.nilIface] w fun e w' => e = .returned (.int .i64 0) ∧ w = w' := by
  go_enter Tryz.func10, Tryz.ntmps10
  go_wp2_with fail
  go_ret
  exact ⟨rfl, rfl⟩

set_option maxHeartbeats 400000 in
theorem no_errno (k : Int) (h1 : 1 ≤ k) (h2 : k ≤ 17) (w : World) : Calls Tryz.prog 10 #[.iface 63 (.int .i64 k)] w fun e w' => e = .returned (.int .i64 k) ∧ w = w' := by
  go_enter Tryz.func10, Tryz.ntmps10
  go_wp2_with fail
  go_loop [3] (fun n => ∃ j : Int, 1 ≤ j ∧ j ≤ k ∧ n = .int .i64 j) (fun n => (17 - intOf n).toNat)
  case atStart => exact ⟨1, by omega, by omega, rfl⟩
  case round =>
    obtain ⟨j, hj1, hj2, rfl⟩ := hrel
    by_cases hjk : j = k
    · subst hjk
      go_wp2_with ((go_at_call 27); (refine (is_errno _ _ _).mono ?_); (rintro e w' ⟨rfl, rfl⟩); (simp only [beq_self_eq_true]))
      go_ret
      exact ⟨rfl, rfl⟩
    · have hne : (k == j) = false := by simp; omega
      have hlt : j < k := by omega
      clear hjk hj2
      go_wp2_with ((go_at_call 27); (refine (is_errno _ _ _).mono ?_); (rintro e w' ⟨rfl, rfl⟩); (simp only [hne]))
      go_round
      case rel => exact ⟨j + 1, by omega, by omega, rfl⟩
      case measure => simp [intOf]; omega

set_option maxHeartbeats 400000 in
theorem no_fault (g : Nat) (k : Int) (h1 : 1 ≤ k) (h2 : k ≤ 17) (w : World) (hc : w.cell? ⟨g, 1, none⟩ = some (.int .i64 k)) : Calls Tryz.prog 10 #[.iface 96 (.pointer (some ⟨g, 0, none⟩))] w fun e w' => e = .returned (.int .i64 k) ∧ w = w' := by
  go_enter Tryz.func10, Tryz.ntmps10
  go_wp2_with fail
  go_loop [3] (fun n => ∃ j : Int, 1 ≤ j ∧ j ≤ k ∧ n = .int .i64 j) (fun n => (17 - intOf n).toNat)
  case atStart => exact ⟨1, by omega, by omega, rfl⟩
  case round =>
    obtain ⟨j, hj1, hj2, rfl⟩ := hrel
    by_cases hjk : j = k
    · subst hjk
      go_wp2_with ((go_at_call 27); (refine (is_fault _ _ _ _ hc).mono ?_); (rintro e w' ⟨rfl, rfl⟩); (simp only [beq_self_eq_true]))
      go_ret
      exact ⟨rfl, rfl⟩
    · have hne : (k == j) = false := by simp; omega
      have hlt : j < k := by omega
      clear hjk hj2
      go_wp2_with ((go_at_call 27); (refine (is_fault _ _ _ _ hc).mono ?_); (rintro e w' ⟨rfl, rfl⟩); (simp only [hne]))
      go_round
      case rel => exact ⟨j + 1, by omega, by omega, rfl⟩
      case measure => simp [intOf]; omega
end Go.Proofs.YtfbeaklplefojaaGreatDoor

namespace Go.Proofs.YtfbeaklplefojaaGreatDoor
open Go.RowKit

/-- An error's value: its number, its place. -/
def ErrV (w : World) (v : Value) (no at_ : Int) : Prop :=
  (v = .nilIface ∧ no = 0 ∧ at_ = 0) ∨ (v = .iface 63 (.int .i64 no) ∧ (1 ≤ no ∧ no ≤ 17) ∧ at_ = 0) ∨
  ∃ g, v = .iface 96 (.pointer (some ⟨g, 0, none⟩)) ∧ Blk w g 98 #[.int .i64 at_, .int .i64 no] ∧ 1 ≤ no ∧ no ≤ 17
theorem ErrV.nil (w : World) : ErrV w .nilIface 0 0 := .inl ⟨rfl, rfl, rfl⟩
theorem ErrV.errno (w : World) (k : Int) (h1 : 1 ≤ k) (h2 : k ≤ 17) : ErrV w (.iface 63 (.int .i64 k)) k 0 := .inr (.inl ⟨rfl, ⟨h1, h2⟩, rfl⟩)
theorem ErrV.fault {w : World} {g : Nat} {no at_ : Int} (h : Blk w g 98 #[.int .i64 at_, .int .i64 no]) (h1 : 1 ≤ no) (h2 : no ≤ 17) : ErrV w (.iface 96 (.pointer (some ⟨g, 0, none⟩))) no at_ := .inr (.inr ⟨g, rfl, h, h1, h2⟩)
theorem ErrV.upd {w w' : World} {v : Value} {no at_ : Int} (h : ErrV w v no at_) (hu : Upd [] w w') : ErrV w' v no at_ := by
  rcases h with h | h | ⟨g, h1, h2, h3⟩
  · exact .inl h
  · exact .inr (.inl h)
  · exact .inr (.inr ⟨g, h1, h2.upd hu (by simp), h3⟩)
theorem no_err {w : World} {v : Value} {no at_ : Int} (h : ErrV w v no at_) : Calls Tryz.prog 10 #[v] w fun e w' => e = .returned (.int .i64 no) ∧ w = w' := by
  rcases h with ⟨rfl, rfl, _⟩ | ⟨rfl, ⟨h1, h2⟩, _⟩ | ⟨g, rfl, hb, h1, h2⟩
  · exact no_nil w
  · exact no_errno no h1 h2 w
  · exact no_fault g no h1 h2 w (hb.cell 1)
end Go.Proofs.YtfbeaklplefojaaGreatDoor

namespace Go.Proofs.YtfbeaklplefojaaGreatDoor
open Go

/-- Operations that only compute, or read. -/
def lightOp : Op → Bool
  | .move _ | .assign _ | .pick .. | .load .. | .nilCheck _ | .binOp .. | .unOp .. | .fieldAddr .. | .field .. | .indexAddr .. | .index .. | .extract .. | .slice .. | .makeInterface .. | .lookup .. | .typeAssert .. | .convert .. | .makeFunc .. => true
  | .call { callee := .builtin .len, .. } | .call { callee := .builtin .cap, .. } | .call { callee := .builtin .min, .. } | .call { callee := .builtin .max, .. } => true
  | _ => false
/-- A copy that waits for nothing. -/
def isFloat (o : Oper) : Bool := (match o.op with | .move _ => true | _ => false) && o.guard.isNone && o.after.all (fun e => !Region.binds .any e)

/-- One light operation: it yields a value and leaves the world alone. -/
def litStep (r : Result Next) (w : World) (K : Value → Prop) : Prop :=
  match r with
  | .ok (.value v) w' => w' = w ∧ K v
  | _ => False
theorem litStep_value (v : Value) (w' w : World) (K : Value → Prop) : litStep (.ok (.value v) w') w K = (w' = w ∧ K v) := rfl

section
variable (P : Program) (ops : Array Oper) (Q : Exit → Act → World → Prop)
/-- These operations one behind the other. -/
def wpF : List Oper → Act → World → Prop
  | [], a, w => Q .normal a w
  | o :: l, a, w =>
    if Region.wanted o (yielded ops a.tmps) then (if lightOp o.op then litStep ((execOp a.eval o).run P w) w (fun v => wpF l (a.put o.dst v) w) else o.wp P a w (wpF l) Q) else wpF l (a.put o.dst undef) w
/-- The same by their numbers. -/
def wpI : List Nat → Act → World → Prop
  | [], a, w => Q .normal a w
  | i :: l, a, w => match ops[i]? with
    | none => False
    | some o => if Region.wanted o (yielded ops a.tmps) then (if lightOp o.op then litStep ((execOp a.eval o).run P w) w (fun v => wpI l (a.put o.dst v) w) else o.wp P a w (wpI l) Q) else wpI l (a.put o.dst undef) w
def dstOf (i : Nat) : Option Tmp := (ops[i]?).bind (·.dst)
def lookOf (i : Nat) : List Tmp := match ops[i]? with | some o => o.looksAt ops | none => []
def lightAt (i : Nat) : Bool := match ops[i]? with | some o => lightOp o.op | none => false
def depB (j x : Nat) : Bool := match ops[j]? with | some o => o.after.any (fun e => Region.binds .any e && e.on == x) | none => false
def depsBack (j : Nat) : Bool := match ops[j]? with | some o => o.after.all (fun e => !Region.binds .any e || decide (e.on < j)) | none => false
def pairOk (x j : Nat) : Bool :=
  (match dstOf ops x with | some d => (dstOf ops j != some d) && (!(lookOf ops j).contains d || depB ops j x) | none => true) &&
  (match dstOf ops j with | some d => !(lookOf ops x).contains d || depB ops j x | none => true)
/-- What is asked of the operations that are left when the copies are done. -/
def okR (R : List Nat) : Bool :=
  R.all (fun j => decide (j < ops.size) && depsBack ops j) &&
  R.all (fun h => lightAt ops h || R.all fun j => decide (j ≤ h) || R.any fun y => decide (h ≤ y) && depB ops j y) &&
  R.all (fun h => lightAt ops h || R.all fun x => decide (h ≤ x) || R.any fun y => decide (x < y) && decide (y ≤ h) && depB ops y x) &&
  R.all (fun j => !lightAt ops j || R.all fun x => !decide (x < j) || !lightAt ops x || pairOk ops x j)
def floats : List Nat := (List.range ops.size).filter fun i => ((ops[i]?).map isFloat).getD false
def others : List Nat := (List.range ops.size).filter fun i => !((ops[i]?).map isFloat).getD false
def markAll : List Nat → Array Bool → Array Bool
  | [], L => L
  | i :: l, L => markAll l (L.setIfInBounds i true)
def floatsOk : List Nat → Array Bool → Bool
  | [], _ => true
  | i :: l, L => (match ops[i]? with | some o => isFloat o | none => false) && Region.free .any ops L i && (Region.ready .any ops L).contains i && floatsOk l (L.setIfInBounds i true)
def forcedB : Bool := Region.noSelect ops && okR ops (others ops) && floatsOk ops (floats ops) (Array.replicate ops.size false)
end

section
variable {P : Program} {ops : Array Oper} {Q : Exit → Act → World → Prop}

theorem put_get_other {a : Act} {d : Option Tmp} {v : Value} {t : Tmp} (h : d ≠ some t) : (a.put d v).tmps[t]? = a.tmps[t]? := by
  cases d with
  | none => rfl
  | some e => simp only [Act.put]; rw [Array.getElem?_setIfInBounds_ne (fun he => h (by rw [he]))]
theorem put_size (a : Act) (d : Option Tmp) (v : Value) : (a.put d v).tmps.size = a.tmps.size := by
  cases d <;> simp [Act.put]
theorem put_get_same {a b : Act} {t : Tmp} {v : Value} (hs : a.tmps.size = b.tmps.size) : (a.put (some t) v).tmps[t]? = (b.put (some t) v).tmps[t]? := by
  simp only [Act.put, Array.getElem?_setIfInBounds_self]
  simp [hs]
def putX (ops : Array Oper) (V : Nat → Value) (X : Nat → Bool) : List Nat → Act → Act
  | [], a => a
  | i :: l, a => putX ops V X l (if X i then a.put (dstOf ops i) (V i) else a)
theorem putX_get {V : Nat → Value} {X Y : Nat → Bool} {t : Tmp} : ∀ (l : List Nat) (a b : Act), (∀ x ∈ l, dstOf ops x = some t → X x = Y x) → a.tmps[t]? = b.tmps[t]? → a.tmps.size = b.tmps.size → (putX ops V X l a).tmps[t]? = (putX ops V Y l b).tmps[t]?
  | [], _, _, _, h, _ => h
  | i :: l, a, b, hx, h, hs => by
    unfold putX
    refine putX_get l _ _ (fun x hm => hx x (List.mem_cons_of_mem _ hm)) ?_ ?_
    · by_cases hd : dstOf ops i = some t
      · rw [hx i (List.mem_cons_self ..) hd, hd]
        split
        · exact put_get_same hs
        · exact h
      · split <;> split <;> simp only [put_get_other hd, h]
    · split <;> split <;> simp only [put_size, hs]
theorem putX_congr {V V' : Nat → Value} {X Y : Nat → Bool} : ∀ (l : List Nat) (a : Act), (∀ x ∈ l, X x = Y x) → (∀ x ∈ l, V x = V' x) → putX ops V X l a = putX ops V' Y l a
  | [], _, _, _ => rfl
  | i :: l, a, hx, hv => by
    unfold putX
    rw [hx i (List.mem_cons_self ..), hv i (List.mem_cons_self ..)]
    exact putX_congr l _ (fun x hm => hx x (List.mem_cons_of_mem _ hm)) (fun x hm => hv x (List.mem_cons_of_mem _ hm))
theorem putX_none {V : Nat → Value} {X : Nat → Bool} : ∀ (l : List Nat) (a : Act), (∀ x ∈ l, X x = false) → putX ops V X l a = a
  | [], _, _ => rfl
  | i :: l, a, hx => by
    unfold putX
    rw [hx i (List.mem_cons_self ..)]
    exact putX_none l a fun x hm => hx x (List.mem_cons_of_mem _ hm)
theorem putX_out {V : Nat → Value} {X : Nat → Bool} {d : Option Tmp} {v : Value} : ∀ (l : List Nat) (a : Act), (∀ x ∈ l, ∀ t, d = some t → dstOf ops x ≠ some t) → putX ops V X l (a.put d v) = (putX ops V X l a).put d v
  | [], _, _ => rfl
  | i :: l, a, hx => by
    unfold putX
    split
    · rw [Act.put_comm a v (V i) (fun t ht => hx i (List.mem_cons_self ..) t ht)]
      exact putX_out l _ fun x hm => hx x (List.mem_cons_of_mem _ hm)
    · exact putX_out l _ fun x hm => hx x (List.mem_cons_of_mem _ hm)
theorem putX_add {V : Nat → Value} {X : Nat → Bool} {j : Nat} (hX : X j = false) : ∀ (l : List Nat) (a : Act), j ∈ l → l.Nodup → (∀ x ∈ l, x ≠ j → ∀ t, dstOf ops j = some t → dstOf ops x ≠ some t) →
    putX ops V (fun x => X x || x == j) l a = (putX ops V X l a).put (dstOf ops j) (V j)
  | [], _, hm, _, _ => by simp at hm
  | i :: l, a, hm, hn, hd => by
    rw [List.nodup_cons] at hn
    by_cases hij : i = j
    · subst hij
      unfold putX
      rw [hX]
      simp only [beq_self_eq_true, Bool.or_true, if_true, Bool.false_eq_true, if_false]
      rw [putX_congr (V' := V) (Y := X) l _ (fun x hx => by
        have : x ≠ i := fun e => hn.1 (e ▸ hx)
        simp [this]) (fun _ _ => rfl)]
      exact putX_out l a fun x hx t ht => hd x (List.mem_cons_of_mem _ hx) (fun e => hn.1 (e ▸ hx)) t ht
    · have hm' : j ∈ l := by
        rcases List.mem_cons.1 hm with h | h
        · exact absurd h.symm hij
        · exact h
      unfold putX
      rw [show (X i || i == j) = X i by simp [hij]]
      exact putX_add hX l _ hm' hn.2 fun x hx => hd x (List.mem_cons_of_mem _ hx)

/-- In the order of the text these light operations yield these values. -/
def segOK (P : Program) (ops : Array Oper) (w : World) (V : Nat → Value) (seg : List Nat) (a : Act) : Prop := ∀ j ∈ seg, ∀ o, ops[j]? = some o →
  (Region.wanted o (yielded ops (putX ops V (fun x => decide (x < j)) seg a).tmps) = true ∧ (execOp (putX ops V (fun x => decide (x < j)) seg a).eval o).run P w = .ok (.value (V j)) w) ∨
  (Region.wanted o (yielded ops (putX ops V (fun x => decide (x < j)) seg a).tmps) = false ∧ V j = undef)

theorem seg_of {w : World} {l' : List Nat} : ∀ (seg : List Nat) (a : Act), seg.Pairwise (· < ·) → (∀ x ∈ seg, lightAt ops x = true) → wpI P ops Q (seg ++ l') a w →
    ∃ V, segOK P ops w V seg a ∧ wpI P ops Q l' (putX ops V (fun _ => true) seg a) w
  | [], a, _, _, h => ⟨fun _ => undef, fun j hj => by simp at hj, h⟩
  | i :: seg, a, hp, hl, h => by
    rw [List.pairwise_cons] at hp
    have hli := hl i (List.mem_cons_self ..)
    rw [List.cons_append] at h
    unfold wpI at h
    unfold lightAt at hli
    cases hoi : ops[i]? with
    | none => rw [hoi] at h; exact h.elim
    | some o =>
      rw [hoi] at h hli
      simp only at h hli
      have key : ∀ v, wpI P ops Q (seg ++ l') (a.put o.dst v) w → ((Region.wanted o (yielded ops a.tmps) = true ∧ (execOp a.eval o).run P w = .ok (.value v) w) ∨ (Region.wanted o (yielded ops a.tmps) = false ∧ v = undef)) →
          ∃ V, segOK P ops w V (i :: seg) a ∧ wpI P ops Q l' (putX ops V (fun _ => true) (i :: seg) a) w := by
        intro v hv hy
        obtain ⟨V', hok, hw⟩ := seg_of seg (a.put o.dst v) hp.2 (fun x hx => hl x (List.mem_cons_of_mem _ hx)) hv
        have hd : dstOf ops i = o.dst := by simp [dstOf, hoi]
        have hVV : ∀ x ∈ seg, (fun x => if x = i then v else V' x) x = V' x := fun x hx => by
          have : x ≠ i := by have := hp.1 x hx; omega
          simp [this]
        refine ⟨fun x => if x = i then v else V' x, ?_, ?_⟩
        · intro j hj oj hoj
          rcases List.mem_cons.1 hj with rfl | hj
          · have e : putX ops (fun x => if x = j then v else V' x) (fun x => decide (x < j)) (j :: seg) a = a := putX_none _ _ (by
              intro x hx
              rcases List.mem_cons.1 hx with rfl | hx
              · simp
              · have := hp.1 x hx; simp; omega)
            rw [e]
            rw [hoi] at hoj
            cases hoj
            simpa using hy
          · have hij := hp.1 j hj
            have e : putX ops (fun x => if x = i then v else V' x) (fun x => decide (x < j)) (i :: seg) a = putX ops V' (fun x => decide (x < j)) seg (a.put o.dst v) := by
              conv => lhs; unfold putX
              simp only [decide_eq_true hij, if_true, hd]
              exact putX_congr _ _ (fun _ _ => rfl) hVV
            rw [e]
            have := hok j hj oj hoj
            have hne : j ≠ i := by omega
            simpa [hne] using this
        · have e : putX ops (fun x => if x = i then v else V' x) (fun _ => true) (i :: seg) a = putX ops V' (fun _ => true) seg (a.put o.dst v) := by
            conv => lhs; unfold putX
            simp only [if_true, hd]
            exact putX_congr _ _ (fun _ _ => rfl) hVV
          rw [e]
          exact hw
      cases hw : Region.wanted o (yielded ops a.tmps) with
      | true =>
        rw [hw] at h
        simp only [if_true, hli] at h
        unfold litStep at h
        cases hr : (execOp a.eval o).run P w with
        | ok n w' =>
          rw [hr] at h
          cases n with
          | value v =>
            obtain ⟨rfl, h⟩ := h
            exact key v h (.inl ⟨hw, hr⟩)
          | _ => exact h.elim
        | halt x w' => rw [hr] at h; exact h.elim
      | false =>
        rw [hw] at h
        simp only [Bool.false_eq_true, if_false] at h
        exact key undef h (.inr ⟨hw, rfl⟩)
end
end Go.Proofs.YtfbeaklplefojaaGreatDoor

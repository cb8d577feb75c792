/-
  Lists of pairs by rising keys, plain: looked up, put, taken out; such a list is what its look-ups say. No program in sight.
-/
set_option linter.unusedVariables false
namespace Go.Proofs.YthdjbflbhgbckaaDoor.Assoc

abbrev AL := List (Int × Int)
def Srt (l : AL) : Prop := l.Pairwise (fun a b => a.1 < b.1)
def get (l : AL) (k : Int) : Option Int := (l.find? (fun p => p.1 == k)).map (·.2)
def has (l : AL) (k : Int) : Bool := l.any (fun p => p.1 == k)
def put : AL → Int → Int → AL
  | [], k, v => [(k, v)]
  | p :: l, k, v => if k < p.1 then (k, v) :: p :: l else if p.1 = k then (k, v) :: l else p :: put l k v
def del (l : AL) (k : Int) : AL := l.filter (fun p => !(p.1 == k))

theorem Srt.nil : Srt [] := List.Pairwise.nil
theorem Srt.tail {p : Int × Int} {l : AL} (h : Srt (p :: l)) : Srt l := (List.pairwise_cons.1 h).2
theorem Srt.head {p : Int × Int} {l : AL} (h : Srt (p :: l)) : ∀ x ∈ l, p.1 < x.1 := (List.pairwise_cons.1 h).1
theorem get_nil (k : Int) : get [] k = none := rfl
theorem get_cons (p : Int × Int) (l : AL) (k : Int) : get (p :: l) k = if p.1 = k then some p.2 else get l k := by
  unfold get
  rw [List.find?_cons]
  by_cases h : p.1 = k
  · simp [h]
  · have : (p.1 == k) = false := by simpa using h
    rw [this, if_neg h]
theorem get_none {l : AL} {k : Int} : get l k = none ↔ ∀ p ∈ l, p.1 ≠ k := by
  induction l with
  | nil => simp [get_nil]
  | cons p l ih =>
    rw [get_cons]
    by_cases h : p.1 = k
    · simp [h]
    · rw [if_neg h, ih]
      simp [h]
theorem get_low {l : AL} {k : Int} (h : ∀ x ∈ l, k < x.1) : get l k = none := get_none.2 fun p hp => by have := h p hp; omega
theorem get_mem {l : AL} (h : Srt l) {p : Int × Int} (hp : p ∈ l) : get l p.1 = some p.2 := by
  induction l with
  | nil => cases hp
  | cons a l ih =>
    rw [get_cons]
    rcases List.mem_cons.1 hp with rfl | hp
    · simp
    · rw [if_neg (by have := h.head p hp; omega)]
      exact ih h.tail hp
theorem mem_of_get {l : AL} {k v : Int} (h : get l k = some v) : (k, v) ∈ l := by
  induction l with
  | nil => cases h
  | cons a l ih =>
    rw [get_cons] at h
    by_cases e : a.1 = k
    · rw [if_pos e] at h
      injection h with h
      subst e h
      exact List.mem_cons_self ..
    · rw [if_neg e] at h
      exact List.mem_cons_of_mem _ (ih h)
theorem has_get (l : AL) (k : Int) : has l k = (get l k).isSome := by
  induction l with
  | nil => rfl
  | cons a l ih =>
    rw [get_cons]
    unfold has at ih ⊢
    rw [List.any_cons]
    by_cases e : a.1 = k
    · simp [e]
    · have : (a.1 == k) = false := by simpa using e
      rw [this, if_neg e, Bool.false_or, ih]
theorem mem_put {l : AL} {k v : Int} {x : Int × Int} (h : x ∈ put l k v) : x = (k, v) ∨ x ∈ l := by
  induction l with
  | nil => simp [put] at h; exact .inl h
  | cons p l ih =>
    unfold put at h
    split at h
    · rcases List.mem_cons.1 h with h | h
      · exact .inl h
      · exact .inr h
    · split at h
      · rcases List.mem_cons.1 h with h | h
        · exact .inl h
        · exact .inr (List.mem_cons_of_mem _ h)
      · rcases List.mem_cons.1 h with h | h
        · exact .inr (by simp [h])
        · rcases ih h with h | h
          · exact .inl h
          · exact .inr (List.mem_cons_of_mem _ h)
theorem srt_put {l : AL} (h : Srt l) (k v : Int) : Srt (put l k v) := by
  induction l with
  | nil => exact List.pairwise_singleton ..
  | cons p l ih =>
    unfold put
    split
    · rename_i hk
      refine List.pairwise_cons.2 ⟨fun x hx => ?_, h⟩
      rcases List.mem_cons.1 hx with rfl | hx
      · exact hk
      · have := h.head x hx; show k < x.1; omega
    · split
      · rename_i hk
        refine List.pairwise_cons.2 ⟨fun x hx => ?_, h.tail⟩
        have := h.head x hx; show k < x.1; omega
      · rename_i h1 h2
        refine List.pairwise_cons.2 ⟨fun x hx => ?_, ih h.tail⟩
        rcases mem_put hx with rfl | hx
        · show p.1 < k; omega
        · exact h.head x hx
theorem get_put {l : AL} (h : Srt l) (k v x : Int) : get (put l k v) x = if x = k then some v else get l x := by
  induction l with
  | nil =>
    unfold put
    rw [get_cons]
    by_cases e : x = k
    · simp [e]
    · rw [if_neg e, if_neg (fun e' => e e'.symm)]
  | cons p l ih =>
    unfold put
    split
    · rename_i hk
      rw [get_cons]
      by_cases e : x = k
      · simp [e]
      · rw [if_neg e, if_neg (fun e' => e e'.symm)]
    · split
      · rename_i hk
        rw [get_cons, get_cons]
        by_cases e : x = k
        · simp [e]
        · rw [if_neg e, if_neg (fun e' => e e'.symm), if_neg (by omega)]
      · rename_i h1 h2
        rw [get_cons, get_cons, ih h.tail]
        by_cases e : p.1 = x
        · rw [if_pos e, if_pos e, if_neg (by omega)]
        · rw [if_neg e, if_neg e]
theorem len_put {l : AL} (h : Srt l) (k v : Int) : (put l k v).length = if (get l k).isSome then l.length else l.length + 1 := by
  induction l with
  | nil => rfl
  | cons p l ih =>
    unfold put
    split
    · rename_i hk
      rw [get_low (l := p :: l) (fun x hx => by
        rcases List.mem_cons.1 hx with rfl | hx
        · exact hk
        · have := h.head x hx; omega)]
      rfl
    · split
      · rename_i hk
        rw [get_cons, if_pos hk]
        rfl
      · rename_i h1 h2
        rw [get_cons, if_neg h2, List.length_cons, ih h.tail]
        split <;> rfl
theorem srt_del {l : AL} (h : Srt l) (k : Int) : Srt (del l k) := h.sublist List.filter_sublist
theorem get_del {l : AL} (k x : Int) : get (del l k) x = if x = k then none else get l x := by
  induction l with
  | nil => unfold del; simp [get_nil]
  | cons p l ih =>
    unfold del at ih ⊢
    rw [List.filter_cons]
    by_cases e : p.1 = k
    · simp only [e, beq_self_eq_true, Bool.not_true, Bool.false_eq_true, if_false]
      rw [ih, get_cons]
      by_cases e2 : x = k
      · simp [e2]
      · rw [if_neg e2, if_neg e2, if_neg (by omega)]
    · have : (p.1 == k) = false := by simpa using e
      simp only [this, Bool.not_false, if_true]
      rw [get_cons, ih, get_cons]
      by_cases e2 : p.1 = x
      · rw [if_pos e2, if_pos e2, if_neg (by omega)]
      · rw [if_neg e2, if_neg e2]
theorem del_none {l : AL} {k : Int} (h : get l k = none) : del l k = l := by
  unfold del
  rw [List.filter_eq_self]
  intro p hp
  simpa using get_none.1 h p hp
theorem len_del {l : AL} (h : Srt l) (k : Int) : (del l k).length = if (get l k).isSome then l.length - 1 else l.length := by
  induction l with
  | nil => rfl
  | cons p l ih =>
    rw [get_cons]
    unfold del at ih ⊢
    rw [List.filter_cons]
    by_cases e : p.1 = k
    · have hn : get l k = none := get_low fun x hx => by have := h.head x hx; omega
      simp only [e, beq_self_eq_true, Bool.not_true, Bool.false_eq_true, if_false, if_true]
      have := del_none hn
      unfold del at this
      rw [this]
      simp
    · have : (p.1 == k) = false := by simpa using e
      simp only [this, Bool.not_false, if_true, if_neg e, List.length_cons]
      rw [ih h.tail]
      cases hg : get l k with
      | none => simp
      | some v =>
        have : 0 < l.length := by
          cases l with
          | nil => cases hg
          | cons _ _ => simp
        simp
        omega
theorem ext {l m : AL} (hl : Srt l) (hm : Srt m) (h : ∀ k, get l k = get m k) : l = m := by
  induction l generalizing m with
  | nil =>
    cases m with
    | nil => rfl
    | cons p m =>
      have := h p.1
      rw [get_cons, if_pos rfl] at this
      cases this
  | cons a l ih =>
    cases m with
    | nil =>
      have := h a.1
      rw [get_cons, if_pos rfl] at this
      cases this
    | cons b m =>
      have e : a.1 = b.1 := by
        rcases Int.lt_trichotomy a.1 b.1 with c | c | c
        · have := h a.1
          rw [get_cons, if_pos rfl, get_low (l := b :: m) (fun x hx => by
            rcases List.mem_cons.1 hx with rfl | hx
            · exact c
            · have := hm.head x hx; omega)] at this
          cases this
        · exact c
        · have := h b.1
          rw [get_cons b, if_pos rfl, get_low (l := a :: l) (fun x hx => by
            rcases List.mem_cons.1 hx with rfl | hx
            · exact c
            · have := hl.head x hx; omega)] at this
          cases this
      have e2 : a.2 = b.2 := by
        have := h a.1
        rw [get_cons, if_pos rfl, get_cons, if_pos e.symm] at this
        injection this
      have e3 : a = b := by cases a; cases b; simp_all
      subst e3
      rw [ih hl.tail hm.tail]
      intro k
      have hk := h k
      rw [get_cons, get_cons] at hk
      by_cases c : a.1 = k
      · rw [get_low (l := l) (fun x hx => by have := hl.head x hx; omega), get_low (l := m) (fun x hx => by have := hm.head x hx; omega)]
      · rwa [if_neg c, if_neg c] at hk
theorem perm_eq {l m : AL} (h : l.Perm m) (hl : Srt l) (hm : Srt m) : l = m := by
  refine ext hl hm fun k => ?_
  cases hg : get m k with
  | none => exact get_none.2 fun p hp => get_none.1 hg p (h.mem_iff.1 hp)
  | some v => exact get_mem hl (p := (k, v)) (h.mem_iff.2 (mem_of_get hg))
theorem put_get {l : AL} (h : Srt l) {k v : Int} (hg : get l k = some v) : put l k v = l := ext (srt_put h k v) h fun x => by
  rw [get_put h]
  by_cases e : x = k
  · rw [if_pos e, e, hg]
  · rw [if_neg e]
theorem put_put {l : AL} (h : Srt l) (k v v' : Int) : put (put l k v) k v' = put l k v' := ext (srt_put (srt_put h k v) k v') (srt_put h k v') fun x => by
  rw [get_put (srt_put h k v), get_put h, get_put h]
  by_cases e : x = k
  · rw [if_pos e, if_pos e]
  · rw [if_neg e, if_neg e, if_neg e]
theorem del_put {l : AL} (h : Srt l) {k : Int} (v : Int) (hg : get l k = none) : del (put l k v) k = l := ext (srt_del (srt_put h k v) k) h fun x => by
  rw [get_del, get_put h]
  by_cases e : x = k
  · rw [if_pos e, e, hg]
  · rw [if_neg e, if_neg e]
/-- Put by going over the list: each one ahead stays, the new one comes ahead of the first that is not below it, one with its key goes. -/
def over (k v : Int) : AL → Bool → AL
  | [], done => if done then [] else [(k, v)]
  | p :: l, done => (if k ≤ p.1 ∧ done = false then [(k, v)] else []) ++ ((if p.1 = k then [] else [p]) ++ over k v l (done || decide (k ≤ p.1)))
theorem over_done {l : AL} {k v : Int} : over k v l true = del l k := by
  induction l with
  | nil => rfl
  | cons p l ih =>
    unfold over del
    rw [List.filter_cons]
    simp only [Bool.true_eq_false, and_false, if_false, Bool.true_or, List.nil_append]
    rw [ih]
    by_cases e : p.1 = k
    · simp [e, del]
    · have : (p.1 == k) = false := by simpa using e
      simp [e, this, del]
theorem over_put {l : AL} (h : Srt l) (k v : Int) : over k v l false = put l k v := by
  induction l with
  | nil => rfl
  | cons p l ih =>
    unfold over put
    by_cases e : k < p.1
    · rw [if_pos ⟨by omega, rfl⟩, if_neg (by omega), if_pos e, decide_eq_true (by omega : k ≤ p.1), Bool.or_true, over_done, del_none (get_low fun x hx => by have := h.head x hx; omega)]
      rfl
    · rw [if_neg e]
      by_cases e2 : p.1 = k
      · rw [if_pos ⟨by omega, rfl⟩, if_pos e2, if_pos e2, decide_eq_true (by omega : k ≤ p.1), Bool.or_true, over_done, del_none (get_low fun x hx => by have := h.head x hx; omega)]
        rfl
      · rw [if_neg (fun c => by omega), if_neg e2, if_neg e2, decide_eq_false (by omega : ¬ k ≤ p.1)]
        show [] ++ ([p] ++ over k v l false) = _
        rw [ih h.tail]
        rfl
end Go.Proofs.YthdjbflbhgbckaaDoor.Assoc

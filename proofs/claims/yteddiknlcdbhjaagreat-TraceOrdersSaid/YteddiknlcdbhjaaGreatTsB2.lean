/-
  Events in another order; events of transactions that ran one behind the other: plainly, no Go in sight.
  An order found by counting who is ahead; a ring found by noting where one came from: plainly, no Go in sight.
  What a tracer's maps hold, and which block serves what.
  What a cell's versions give: plainly, no Go in sight.
  From a walk that ends 'true, and nothing that was there has turned' to what a law's row asks. No program in sight.
  Arguments that are slices of plain things: what they read as. No program in sight.
  Lists of pairs by rising keys, plain: looked up, put, taken out; such a list is what its look-ups say. No program in sight.
  Lists of pairs as what a map of integers holds. No program in sight.
  A region that draws its order, where the order is forced in all that matters: what it does, it does as if in the order of the text. No program in sight.
-/
import Derived.Test.YteddiknlcdbhjaaGreatTsB1
import Derived.Test.YteddiknlcdbhjaaGreatTsB0
import Derived.ProofKit
import Derived.Carry
import Derived.OpenShut
import Derived.Deep.Slices
import Derived.Deep.Fields
import Derived.Orders
import Derived.Tactics
import Derived.Laws.World
set_option linter.unusedVariables false
namespace Go.Proofs.YteddiknlcdbhjaaGreat.TrP

theorem noted_iff {l : List Ev} : Noted l ↔ (∀ x ∈ l, argB x = false) ∧ ∀ x ∈ l, ∀ k ∈ l, x.wr = true → k.wr = true → x.cell = k.cell → x.ver = k.ver → x.txn = k.txn := by
  refine ⟨fun h => ⟨fun x hx => h.arg hx, fun x hx k hk => h.one hx hk⟩, fun ⟨h1, h2⟩ pre x r e => ?_⟩
  have hx : x ∈ l := by rw [e]; simp
  unfold noteE
  rw [h1 x hx, if_neg (by simp), if_neg]
  intro ha
  obtain ⟨k, hk, hh⟩ := List.any_eq_true.1 ha
  obtain ⟨g1, g2, g3, g4, g5⟩ := hits_iff.1 hh
  exact g5 (h2 x hx k (by rw [e]; simp [hk]) g1 g2 g3 g4)
theorem lostB_iff {l : List Ev} {x : Ev} : lostB l x = true ↔ x.wr = false ∧ 0 < x.ver ∧ ∀ y ∈ l, y.wr = true → y.cell = x.cell → y.ver ≠ x.ver := by
  unfold lostB
  rw [Bool.and_eq_true, Bool.and_eq_true, Option.isNone_iff_eq_none, wroteOf_none]
  simp [and_assoc]
theorem lostE_iff (l : List Ev) : ∀ (r : List Ev) (i : Nat), ((lostE l i r).1 = 0 ↔ ∀ x ∈ r, lostB l x = false) ∧ ((lostE l i r).1 = 0 → lostE l i r = (0, 0))
  | [], i => by simp [lostE]
  | x :: r, i => by
    unfold lostE
    cases h : lostB l x with
    | true => simp [h]
    | false =>
      have := lostE_iff l r (i + 1)
      simp only [Bool.false_eq_true, if_false]
      refine ⟨?_, this.2⟩
      rw [this.1]
      simp [h]
/-- Nothing is wrong. -/
structure OkE (l : List Ev) : Prop where
  arg : ∀ x ∈ l, argB x = false
  one : ∀ x ∈ l, ∀ k ∈ l, x.wr = true → k.wr = true → x.cell = k.cell → x.ver = k.ver → x.txn = k.txn
  got : ∀ x ∈ l, lostB l x = false
theorem wrongE_iff {l : List Ev} : ((wrongE l).1 = 0 ↔ OkE l) ∧ ((wrongE l).1 = 0 → wrongE l = (0, 0)) := by
  obtain ⟨h1, h2⟩ := notesE_ok (l := l) Noted.nil (by rfl : [] ++ l = l)
  obtain ⟨h3, h4⟩ := lostE_iff l l 0
  unfold wrongE
  by_cases h : (notesE [] l).1 = 0
  · rw [if_neg (by simpa using h)]
    refine ⟨?_, h4⟩
    rw [h3]
    have := noted_iff.1 (h1.1 h)
    exact ⟨fun g => ⟨this.1, this.2, g⟩, fun g => g.got⟩
  · rw [if_pos h]
    refine ⟨⟨fun g => absurd g h, fun g => absurd (h1.2 (noted_iff.2 ⟨g.arg, g.one⟩)) h⟩, fun g => absurd g h⟩
theorem OkE.noted {l : List Ev} (h : OkE l) : Noted l := noted_iff.2 ⟨h.arg, h.one⟩
section
variable {l m : List Ev}
theorem OkE.perm (h : OkE l) (hp : ∀ x, x ∈ m ↔ x ∈ l) : OkE m := by
  refine ⟨fun x hx => h.arg x ((hp x).1 hx), fun x hx k hk => h.one x ((hp x).1 hx) k ((hp k).1 hk), fun x hx => ?_⟩
  cases e : lostB m x with
  | false => rfl
  | true =>
    obtain ⟨h1, h2, h3⟩ := lostB_iff.1 e
    have := lostB_iff.2 ⟨h1, h2, fun y hy => h3 y ((hp y).2 hy)⟩
    rw [h.got x ((hp x).1 hx)] at this
    cases this
theorem wroteOf_perm (h : OkE l) (hp : ∀ x, x ∈ m ↔ x ∈ l) (c v : Int) : wroteOf m c v = wroteOf l c v := by
  have key : ∀ t, wroteOf m c v = some t ↔ wroteOf l c v = some t := fun t => by
    rw [(h.perm hp).noted.wroteOf_iff, h.noted.wroteOf_iff]
    constructor
    · rintro ⟨x, hx, g⟩; exact ⟨x, (hp x).1 hx, g⟩
    · rintro ⟨x, hx, g⟩; exact ⟨x, (hp x).2 hx, g⟩
  cases e : wroteOf l c v with
  | some t => exact (key t).2 e
  | none =>
    cases e' : wroteOf m c v with
    | none => rfl
    | some t => rw [(key t).1 e'] at e; cases e
theorem edge_perm (h : OkE l) (hp : ∀ x, x ∈ m ↔ x ∈ l) (e : Ed) : EdgeP m e ↔ EdgeP l e := by
  have hr : ∀ c v t, Reads m c v t ↔ Reads l c v t := fun c v t => by
    constructor
    · rintro ⟨x, hx, g⟩; exact ⟨x, (hp x).1 hx, g⟩
    · rintro ⟨x, hx, g⟩; exact ⟨x, (hp x).2 hx, g⟩
  unfold EdgeP Succ
  simp only [wroteOf_perm h hp, hr]
theorem graph_perm (h : OkE l) (hp : ∀ x, x ∈ m ↔ x ∈ l) : graphR m = graphR l :=
  riseE_uniq (graphR_rise m).1 (graphR_rise l).1 fun e => by rw [graphR_iff (h.perm hp).noted, graphR_iff h.noted, edge_perm h hp]
theorem txns_perm (hp : ∀ x, x ∈ m ↔ x ∈ l) : txnsR m = txnsR l :=
  riseI_uniq (txnsR_rise m).1 (txnsR_rise l).1 fun e => by
    rw [(txnsR_rise m).2, (txnsR_rise l).2]
    constructor
    · rintro ⟨x, hx, g⟩; exact ⟨x, (hp x).1 hx, g⟩
    · rintro ⟨x, hx, g⟩; exact ⟨x, (hp x).2 hx, g⟩
theorem gok (h : OkE l) : GOk (graphR l) (txnsR l) where
  ne e he := ((graphR_iff h.noted e).1 he).1
  fr e he := by
    rw [(txnsR_rise l).2]
    obtain ⟨_, ⟨_, c, v, h1, _⟩ | ⟨_, c, v, v', h1, _⟩ | ⟨_, c, v, v', ⟨x, hx, _, _, _, h1⟩, _⟩⟩ := (graphR_iff h.noted e).1 he
    · obtain ⟨x, hx, _, _, _, g⟩ := wroteOf_mem h1; exact ⟨x, hx, g⟩
    · obtain ⟨x, hx, _, _, _, g⟩ := wroteOf_mem h1; exact ⟨x, hx, g⟩
    · exact ⟨x, hx, h1⟩
  to e he := by
    rw [(txnsR_rise l).2]
    obtain ⟨_, ⟨_, c, v, _, ⟨x, hx, _, _, _, h1⟩⟩ | ⟨_, c, v, v', _, _, h1⟩ | ⟨_, c, v, v', _, _, h1⟩⟩ := (graphR_iff h.noted e).1 he
    · exact ⟨x, hx, h1⟩
    · obtain ⟨x, hx, _, _, _, g⟩ := wroteOf_mem h1; exact ⟨x, hx, g⟩
    · obtain ⟨x, hx, _, _, _, g⟩ := wroteOf_mem h1; exact ⟨x, hx, g⟩
  rise := (txnsR_rise l).1
end

/-- If edges go on only, the order is that of the numbers. -/
theorem find_pick {p : Int → Bool} : ∀ {l : List Int} {k : Nat} {b : Int}, l[k]? = some b → p b = true → (∀ j a, j < k → l[j]? = some a → p a = false) → l.find? p = some b
  | [], k, b, h, _, _ => by simp at h
  | a :: l, 0, b, h, hp, _ => by
    simp at h; subst h
    rw [List.find?_cons, hp]
  | a :: l, k + 1, b, h, hp, hn => by
    rw [List.find?_cons, hn 0 a (by omega) rfl]
    exact find_pick (by simpa using h) hp (fun j c hj hc => hn (j + 1) c (by omega) (by simpa using hc))
theorem serial_fwd {g : List Ed} {all : List Int} (hg : GOk g all) (hf : ∀ e ∈ g, e.1 < e.2.1) : serialL g all = some all := by
  have key : ∀ (n k : Nat), k ≤ all.length → all.length ≤ k + n → serialGo g all n (all.take k) = some all := by
    intro n
    induction n with
    | zero =>
      intro k hk hn
      unfold serialGo
      have : k = all.length := by omega
      subst this
      simp
    | succ n ih =>
      intro k hk hn
      unfold serialGo
      rcases Nat.lt_or_ge k all.length with hlt | hge
      · rw [if_pos (by rw [List.length_take]; omega)]
        have hb : all[k]? = some all[k] := List.getElem?_eq_getElem hlt
        have hnx : nextF g all (all.take k) = some all[k] := by
          refine find_pick hb ?_ ?_
          · rw [pickB_iff]
            refine ⟨fun hm => ?_, fun p hp hl => ?_⟩
            · obtain ⟨j, hj, e⟩ := List.mem_take_iff_getElem.1 hm
              have := List.pairwise_iff_getElem.1 hg.rise j k (by omega) hlt (by omega)
              omega
            · obtain ⟨j, hj, rfl⟩ := List.getElem_of_mem hp
              obtain ⟨e, he, h1, h2⟩ := leadsB_iff.1 hl
              have h3 := hf e he
              rcases Nat.lt_trichotomy j k with h | h | h
              · exact List.mem_take_iff_getElem.2 ⟨j, by omega, rfl⟩
              · subst h; omega
              · have := List.pairwise_iff_getElem.1 hg.rise k j hlt hj h
                omega
          · intro j a hj ha
            cases e : pickB g all (all.take k) a with
            | false => rfl
            | true =>
              have hjl : j < all.length := by omega
              rw [List.getElem?_eq_getElem hjl] at ha
              cases ha
              exact absurd (List.mem_take_iff_getElem.2 ⟨j, by omega, rfl⟩) (pickB_iff.1 e).1
        rw [hnx]
        have : all.take k ++ [all[k]] = all.take (k + 1) := by
          rw [List.take_add_one, hb]; rfl
        simp only [this]
        exact ih (k + 1) hlt (by omega)
      · have : k = all.length := by omega
        subst this
        simp
  exact key all.length 0 (by omega) (by omega)

/-- Transactions one behind the other: each reads what is there last, and writes the next version. -/
abbrev Op := Int × Int × Bool
structure AS where
  l : List Ev
  last : Int → Int
def stepA (s : AS) (o : Op) : AS :=
  if o.2.2 = true then ⟨s.l ++ [⟨o.1, o.2.1, s.last o.2.1 + 1, true⟩], fun c => if c = o.2.1 then s.last o.2.1 + 1 else s.last c⟩
  else ⟨s.l ++ [⟨o.1, o.2.1, s.last o.2.1, false⟩], s.last⟩
def runA (ops : List Op) : AS := ops.foldl stepA ⟨[], fun _ => 0⟩
theorem runA_snoc (ops : List Op) (o : Op) : runA (ops ++ [o]) = stepA (runA ops) o := by simp [runA]
structure InvA (s : AS) (n : Int) : Prop where
  pos : ∀ c, 0 ≤ s.last c
  nn : 0 ≤ n
  txn : ∀ x ∈ s.l, 0 ≤ x.txn ∧ x.txn ≤ n
  ver : ∀ x ∈ s.l, 0 ≤ x.ver ∧ x.ver ≤ s.last x.cell ∧ (x.wr = true → 1 ≤ x.ver)
  has : ∀ c v, 1 ≤ v → v ≤ s.last c → ∃ x ∈ s.l, x.wr = true ∧ x.cell = c ∧ x.ver = v
  one : ∀ x ∈ s.l, ∀ k ∈ s.l, x.wr = true → k.wr = true → x.cell = k.cell → x.ver = k.ver → x.txn = k.txn
  up : ∀ x ∈ s.l, ∀ k ∈ s.l, x.wr = true → k.wr = true → x.cell = k.cell → x.ver < k.ver → x.txn ≤ k.txn
  rd : ∀ x ∈ s.l, ∀ k ∈ s.l, x.wr = false → k.wr = true → x.cell = k.cell → (k.ver ≤ x.ver → k.txn ≤ x.txn) ∧ (x.ver < k.ver → x.txn ≤ k.txn)
theorem InvA.start : InvA ⟨[], fun _ => 0⟩ 0 := ⟨by simp, by simp, by simp, by simp, by intro c v h1 h2; simp only at h2; omega, by simp, by simp, by simp⟩
theorem InvA.mono {s : AS} {n m : Int} (h : InvA s n) (hm : n ≤ m) : InvA s m := { h with nn := by have := h.nn; omega, txn := fun x hx => by have := h.txn x hx; omega }
theorem InvA.step {s : AS} {n : Int} (h : InvA s n) {o : Op} (ho : n ≤ o.1) : InvA (stepA s o) o.1 := by
  have hm := h.mono ho
  unfold stepA
  have hp := h.pos o.2.1
  split
  · refine ⟨fun c => ?_, hm.nn, fun x hx => ?_, fun x hx => ?_, fun c v h1 h2 => ?_, fun x hx k hk a1 a2 a3 a4 => ?_, fun x hx k hk a1 a2 a3 a4 => ?_, fun x hx k hk a1 a2 a3 => ?_⟩
    · have := h.pos c
      show 0 ≤ if c = o.2.1 then s.last o.2.1 + 1 else s.last c
      split <;> omega
    · rcases List.mem_append.1 hx with hx | hx
      · exact hm.txn x hx
      · simp at hx; subst hx
        have := hm.nn
        exact ⟨by omega, by simp⟩
    · show 0 ≤ x.ver ∧ x.ver ≤ (if x.cell = o.2.1 then s.last o.2.1 + 1 else s.last x.cell) ∧ _
      rcases List.mem_append.1 hx with hx | hx
      · have := h.ver x hx
        refine ⟨this.1, ?_, this.2.2⟩
        split
        · rename_i e; rw [e] at this; omega
        · exact this.2.1
      · simp at hx; subst hx
        simp
        omega
    · have h2' : v ≤ (if c = o.2.1 then s.last o.2.1 + 1 else s.last c) := h2
      split at h2'
      · rename_i e
        rcases Decidable.em (v = s.last o.2.1 + 1) with e1 | e1
        · exact ⟨_, List.mem_append_right _ (List.mem_singleton.2 rfl), rfl, e.symm, e1.symm⟩
        · obtain ⟨x, hx, g⟩ := h.has c v h1 (by rw [e]; omega)
          exact ⟨x, List.mem_append_left _ hx, g⟩
      · obtain ⟨x, hx, g⟩ := h.has c v h1 h2'
        exact ⟨x, List.mem_append_left _ hx, g⟩
    · rcases List.mem_append.1 hx with hx | hx <;> rcases List.mem_append.1 hk with hk | hk
      · exact h.one x hx k hk a1 a2 a3 a4
      · simp at hk; subst hk
        have := (h.ver x hx).2.1
        simp at a3 a4
        rw [a3] at this
        omega
      · simp at hx; subst hx
        have := (h.ver k hk).2.1
        simp at a3 a4
        rw [← a3] at this
        omega
      · simp at hx hk; rw [hx, hk]
    · rcases List.mem_append.1 hx with hx | hx <;> rcases List.mem_append.1 hk with hk | hk
      · exact h.up x hx k hk a1 a2 a3 a4
      · simp at hk; subst hk
        exact (hm.txn x hx).2
      · simp at hx; subst hx
        have := (h.ver k hk).2.1
        simp at a3 a4
        rw [← a3] at this
        omega
      · simp at hx hk; subst hx hk; simp at a4
    · rcases List.mem_append.1 hx with hx | hx <;> rcases List.mem_append.1 hk with hk | hk
      · exact h.rd x hx k hk a1 a2 a3
      · simp at hk; subst hk
        have := (h.ver x hx).2.1
        simp at a3
        rw [a3] at this
        refine ⟨fun g => ?_, fun _ => (hm.txn x hx).2⟩
        have g' : s.last o.2.1 + 1 ≤ x.ver := g
        omega
      · simp at hx; subst hx; cases a1
      · simp at hx; subst hx; cases a1
  · refine ⟨h.pos, hm.nn, fun x hx => ?_, fun x hx => ?_, fun c v h1 h2 => ?_, fun x hx k hk a1 a2 a3 a4 => ?_, fun x hx k hk a1 a2 a3 a4 => ?_, fun x hx k hk a1 a2 a3 => ?_⟩
    · rcases List.mem_append.1 hx with hx | hx
      · exact hm.txn x hx
      · simp at hx; subst hx
        have := hm.nn
        exact ⟨by omega, by simp⟩
    · rcases List.mem_append.1 hx with hx | hx
      · exact h.ver x hx
      · simp at hx; subst hx
        simp
        omega
    · obtain ⟨x, hx, g⟩ := h.has c v h1 h2
      exact ⟨x, List.mem_append_left _ hx, g⟩
    · rcases List.mem_append.1 hx with hx | hx <;> rcases List.mem_append.1 hk with hk | hk
      · exact h.one x hx k hk a1 a2 a3 a4
      · simp at hk; subst hk; cases a2
      · simp at hx; subst hx; cases a1
      · simp at hx; subst hx; cases a1
    · rcases List.mem_append.1 hx with hx | hx <;> rcases List.mem_append.1 hk with hk | hk
      · exact h.up x hx k hk a1 a2 a3 a4
      · simp at hk; subst hk; cases a2
      · simp at hx; subst hx; cases a1
      · simp at hx; subst hx; cases a1
    · rcases List.mem_append.1 hx with hx | hx <;> rcases List.mem_append.1 hk with hk | hk
      · exact h.rd x hx k hk a1 a2 a3
      · simp at hk; subst hk; cases a2
      · simp at hx; subst hx
        have := (h.ver k hk).2.1
        simp at a3
        rw [← a3] at this
        refine ⟨fun _ => (hm.txn k hk).2, fun g => ?_⟩
        have g' : s.last o.2.1 < k.ver := g
        omega
      · simp at hk; subst hk; cases a2
theorem runA_inv : ∀ (ops : List Op), ops.Pairwise (fun a b => a.1 ≤ b.1) → (∀ o ∈ ops, 0 ≤ o.1) → ∃ n, InvA (runA ops) n := by
  have key : ∀ (ops : List Op) (s : AS) (n : Int), InvA s n → ops.Pairwise (fun a b => a.1 ≤ b.1) → (∀ o ∈ ops, n ≤ o.1) → ∃ m, InvA (ops.foldl stepA s) m := by
    intro ops
    induction ops with
    | nil => intro s n h _ _; exact ⟨n, h⟩
    | cons o ops ih =>
      intro s n h hp ho
      rw [List.pairwise_cons] at hp
      exact ih _ _ (h.step (ho o (by simp))) hp.2 hp.1
  intro ops hp h0
  exact key ops _ 0 InvA.start hp h0
theorem InvA.ok {s : AS} {n : Int} (h : InvA s n) : OkE s.l where
  arg x hx := by
    rw [argB_iff]
    have h1 := h.txn x hx
    have h2 := h.ver x hx
    exact ⟨h1.1, h2.1, fun e => by have := h2.2.2 e; omega⟩
  one := h.one
  got x hx := by
    cases e : lostB s.l x with
    | false => rfl
    | true =>
      obtain ⟨h1, h2, h3⟩ := lostB_iff.1 e
      obtain ⟨y, hy, g1, g2, g3⟩ := h.has x.cell x.ver (by omega) (h.ver x hx).2.1
      exact absurd g3 (h3 y hy g1 g2)
theorem InvA.fwd {s : AS} {n : Int} (h : InvA s n) {e : Ed} (he : e ∈ graphR s.l) : e.1 < e.2.1 := by
  obtain ⟨h0, ⟨_, c, v, h1, ⟨y, hy, b1, b2, b3, b4⟩⟩ | ⟨_, c, v, v', h1, hs, h2⟩ | ⟨_, c, v, v', ⟨y, hy, b1, b2, b3, b4⟩, hs, h2⟩⟩ := (graphR_iff h.ok.noted e).1 he
  · obtain ⟨x, hx, a1, a2, a3, a4⟩ := wroteOf_mem h1
    have := (h.rd y hy x hx b1 a1 (by rw [b2, a2])).1 (by omega)
    omega
  · obtain ⟨x, hx, a1, a2, a3, a4⟩ := wroteOf_mem h1
    obtain ⟨y, hy, b1, b2, b3, b4⟩ := wroteOf_mem h2
    have := h.up x hx y hy a1 b1 (by rw [b2, a2]) (by have := hs.2.1; omega)
    omega
  · obtain ⟨x, hx, a1, a2, a3, a4⟩ := wroteOf_mem h2
    have := (h.rd y hy x hx b1 a1 (by rw [b2, a2])).2 (by have := hs.2.1; omega)
    omega
end Go.Proofs.YteddiknlcdbhjaaGreat.TrP

namespace Go.Proofs.YteddiknlcdbhjaaGreat.TrP

section
variable {g : List Ed} {all : List Int}
/-- Who stands behind one, each once, rising. -/
def succL (g : List Ed) (all : List Int) (a : Int) : List Int := all.filter (fun b => leadsB g a b)
/-- How many that are not out stand ahead of one. -/
def remain (g : List Ed) (all out : List Int) (b : Int) : Nat := (all.filter (fun k => !out.contains k && leadsB g k b)).length
theorem mem_succL {a b : Int} : b ∈ succL g all a ↔ b ∈ all ∧ leadsB g a b = true := by simp [succL]
theorem succL_nodup (hg : GOk g all) (a : Int) : (succL g all a).Nodup := (hg.rise.nodup).sublist List.filter_sublist
theorem pick_remain {out : List Int} {b : Int} : pickB g all out b = true ↔ b ∉ out ∧ remain g all out b = 0 := by
  rw [pickB_iff]
  unfold remain
  rw [List.length_eq_zero_iff, List.filter_eq_nil_iff]
  constructor
  · rintro ⟨h1, h2⟩
    refine ⟨h1, fun k hk hh => ?_⟩
    simp at hh
    exact hh.1 (h2 k hk hh.2)
  · rintro ⟨h1, h2⟩
    refine ⟨h1, fun k hk hl => Classical.byContradiction fun e => h2 k hk ?_⟩
    simp [e, hl]
theorem filter_split {p : Int → Bool} {n : Int} (hp : p n = true) : ∀ {l : List Int}, l.Nodup → n ∈ l → (l.filter p).length = (l.filter (fun k => p k && !decide (k = n))).length + 1
  | [], _, h => by cases h
  | a :: l, hn, hm => by
    rw [List.nodup_cons] at hn
    by_cases e : a = n
    · subst e
      have h1 : l.filter (fun k => p k && !decide (k = a)) = l.filter p := by
        refine List.filter_congr fun k hk => ?_
        have : k ≠ a := fun e => hn.1 (e ▸ hk)
        simp [this]
      rw [List.filter_cons, List.filter_cons, if_pos hp, h1]
      simp
    · have hm' : n ∈ l := by
        rcases List.mem_cons.1 hm with h | h
        · exact absurd h.symm e
        · exact h
      have ih := filter_split hp hn.2 hm'
      rw [List.filter_cons, List.filter_cons]
      cases ha : p a with
      | true => simp [e]; omega
      | false => simp; omega
/-- One more is out: those behind it wait for one less. -/
theorem remain_snoc (hg : GOk g all) {out : List Int} {n : Int} (hn : n ∈ all) (ho : n ∉ out) (b : Int) : remain g all out b = remain g all (out ++ [n]) b + (if leadsB g n b = true then 1 else 0) := by
  unfold remain
  cases hl : leadsB g n b with
  | true =>
    rw [if_pos rfl, filter_split (n := n) (by simp [ho, hl]) hg.rise.nodup hn]
    congr 2
    refine List.filter_congr fun k hk => ?_
    by_cases e : k = n <;> simp [e]
  | false =>
    rw [if_neg (by simp)]
    show _ = _
    congr 1
    refine List.filter_congr fun k hk => ?_
    by_cases e : k = n
    · subst e; simp [hl]
    · simp [e]
theorem succ_notin {out : List Int} (hs : Ser g all out) {n b : Int} (hn : n ∈ all) (ho : n ∉ out) (hl : leadsB g n b = true) : b ∉ out := by
  intro hb
  obtain ⟨pre, r, e⟩ := List.append_of_mem hb
  have := hs.fits pre b r e n hn hl
  exact ho (by rw [e]; simp [this])
/-- Those that are ready. -/
def readyL (g : List Ed) (all out : List Int) : List Int := all.filter (pickB g all out)
theorem readyL_nodup (hg : GOk g all) (out : List Int) : (readyL g all out).Nodup := (hg.rise.nodup).sublist List.filter_sublist
/-- What is ready behind the next one. -/
theorem ready_next (hg : GOk g all) {out : List Int} (hs : Ser g all out) {n : Int} (hn : n ∈ all) (ho : pickB g all out n = true) {H : List Int} (hH : (n :: H).Perm (readyL g all out)) :
    (H ++ (succL g all n).filter (fun b => decide (remain g all (out ++ [n]) b = 0))).Perm (readyL g all (out ++ [n])) := by
  have hno : n ∉ out := (pickB_iff.1 ho).1
  have hHn : (n :: H).Nodup := hH.symm.nodup_iff.1 (readyL_nodup hg out)
  rw [List.nodup_cons] at hHn
  have hmemH : ∀ b, b ∈ H ↔ b ≠ n ∧ b ∈ all ∧ pickB g all out b = true := by
    intro b
    have h1 : b ∈ n :: H ↔ b ∈ readyL g all out := hH.mem_iff
    rw [List.mem_cons] at h1
    unfold readyL at h1
    rw [List.mem_filter] at h1
    constructor
    · intro hb
      exact ⟨fun e => hHn.1 (e ▸ hb), h1.1 (.inr hb)⟩
    · rintro ⟨h2, h3⟩
      rcases h1.2 h3 with e | e
      · exact absurd e h2
      · exact e
  have hnd : (H ++ (succL g all n).filter (fun b => decide (remain g all (out ++ [n]) b = 0))).Nodup := by
    rw [List.nodup_append]
    refine ⟨hHn.2, (succL_nodup hg n).sublist List.filter_sublist, fun a ha c hc e => ?_⟩
    subst e
    have h1 := (pick_remain.1 ((hmemH a).1 ha).2.2).2
    have h2 := (mem_succL.1 (List.mem_filter.1 hc).1).2
    have := remain_snoc hg hn hno a
    rw [h2, if_pos rfl] at this
    omega
  refine (List.perm_ext_iff_of_nodup hnd (readyL_nodup hg _)).2 fun b => ?_
  rw [List.mem_append, List.mem_filter, mem_succL, hmemH]
  unfold readyL
  rw [List.mem_filter, pick_remain, pick_remain]
  have hr := remain_snoc hg hn hno b
  constructor
  · rintro (⟨h1, h2, h3, h4⟩ | ⟨⟨h1, h2⟩, h3⟩)
    · exact ⟨h2, by simp [h3, h1], by omega⟩
    · refine ⟨h1, ?_, by simpa using h3⟩
      have := succ_notin hs hn hno h2
      have hbn : b ≠ n := fun e => by subst e; rw [hg.irr] at h2; cases h2
      simp [this, hbn]
  · rintro ⟨h1, h2, h3⟩
    have hbo : b ∉ out := fun e => h2 (by simp [e])
    have hbn : b ≠ n := fun e => h2 (by simp [e])
    cases hl : leadsB g n b with
    | true => exact .inr ⟨⟨h1, rfl⟩, by simpa using h3⟩
    | false =>
      rw [hl, if_neg (by simp)] at hr
      exact .inl ⟨hbn, h1, hbo, by omega⟩
/-- The least that is ready is the next one. -/
theorem next_least (hg : GOk g all) {out : List Int} {n : Int} (h : n ∈ readyL g all out) (hm : ∀ b ∈ readyL g all out, n ≤ b) : nextF g all out = some n := by
  obtain ⟨h1, h2⟩ := List.mem_filter.1 h
  obtain ⟨k, hk, rfl⟩ := List.getElem_of_mem h1
  refine find_pick (List.getElem?_eq_getElem hk) h2 fun j a hj ha => ?_
  cases e : pickB g all out a with
  | false => rfl
  | true =>
    have h3 := hm a (List.mem_filter.2 ⟨List.mem_of_getElem? ha, e⟩)
    have hjl : j < all.length := by omega
    rw [List.getElem?_eq_getElem hjl] at ha
    cases ha
    have := List.pairwise_iff_getElem.1 hg.rise j k hjl hk hj
    omega
theorem next_none {out : List Int} (h : readyL g all out = []) : nextF g all out = none := by
  unfold nextF
  rw [List.find?_eq_none]
  exact List.filter_eq_nil_iff.1 h
/-- The order so far is what all comes to. -/
theorem serialGo_next {out : List Int} {n : Nat} {b : Int} (h : nextF g all out = some b) (hl : out.length < all.length) : serialGo g all (n + 1) out = serialGo g all n (out ++ [b]) := by
  conv => lhs; unfold serialGo
  rw [if_pos hl, h]
theorem Ser.lt {out : List Int} (hs : Ser g all out) (hg : GOk g all) {b : Int} (hb : b ∈ all) (ho : b ∉ out) : out.length < all.length := by
  have := len_sub (l := b :: out) (m := all) (List.nodup_cons.2 ⟨ho, hs.nodup⟩) (fun y hy => by
    rcases List.mem_cons.1 hy with rfl | hy
    · exact hb
    · exact hs.sub y hy)
  exact this
theorem serialGo_end {out : List Int} {n : Nat} (h : readyL g all out = []) : serialGo g all n out = if out.length < all.length then none else some out := by
  cases n with
  | zero => rfl
  | succ n =>
    unfold serialGo
    rw [next_none h]

/-- Where one came from. -/
structure From (g : List Ed) (all : List Int) (n : Int) (fr : Int → Option Int) (met : List Int) (ways : List (List Int)) : Prop where
  bfs : Bfs g all n met ways
  dom : ∀ x, (fr x).isSome = true ↔ x ∈ met
  par : ∀ (i : Nat) w, ways[i + 1]? = some w → ∃ (j : Nat) (w' : List Int) (k : Int), j ≤ i ∧ ways[j]? = some w' ∧ w = w' ++ [k] ∧ fr k = some (w'.getLastD 0)
theorem From.start (n : Int) : From g all n (fun _ => none) [] [[n]] := ⟨Bfs.start n, by simp, fun i w h => by simp at h⟩
theorem From.push {n : Int} {fr : Int → Option Int} {met : List Int} {ways : List (List Int)} {w : List Int} {k : Int} {m : Nat} (h : From g all n fr met ways) (hw : ways[m]? = some w) (hl : leadsB g (w.getLastD 0) k = true) (hn : k ≠ n) (hm : k ∉ met) (hk : k ∈ all) :
    From g all n (fun x => if x = k then some (w.getLastD 0) else fr x) (met ++ [k]) (ways ++ [w ++ [k]]) := by
  have hwm := (List.getElem?_eq_some_iff.1 hw).1
  refine ⟨h.bfs.push (List.mem_of_getElem? hw) hl hn hm hk, fun x => ?_, fun i v hv => ?_⟩
  · by_cases e : x = k
    · simp [e]
    · simp [e, h.dom]
  · rcases Nat.lt_or_ge (i + 1) ways.length with hi | hi
    · rw [List.getElem?_append_left hi] at hv
      obtain ⟨j, w', k', h1, h2, h3, h4⟩ := h.par i v hv
      refine ⟨j, w', k', h1, by rw [List.getElem?_append_left (by omega)]; exact h2, h3, ?_⟩
      have : k' ≠ k := fun e => by
        subst e
        have := (h.dom k').1 (by rw [h4]; rfl)
        exact hm this
      rw [if_neg this]
      exact h4
    · rw [List.getElem?_append_right hi] at hv
      have := (List.getElem?_eq_some_iff.1 hv).1
      simp at this
      have e : i + 1 - ways.length = 0 := by omega
      rw [e] at hv
      simp at hv
      subst hv
      exact ⟨m, w, k, by omega, by rw [List.getElem?_append_left hwm]; exact hw, rfl, by rw [if_pos rfl]⟩
/-- The way back: one more step. -/
theorem From.back {n : Int} {fr : Int → Option Int} {met : List Int} {ways : List (List Int)} (h : From g all n fr met ways) {i : Nat} {w : List Int} (hw : ways[i]? = some w) : (w = [n] ∧ i = 0) ∨ w.getLastD 0 ≠ n ∧ ∃ (j : Nat) (w' : List Int), j < i ∧ ways[j]? = some w' ∧ w = w' ++ [w.getLastD 0] ∧ fr (w.getLastD 0) = some (w'.getLastD 0) := by
  cases i with
  | zero => rw [h.bfs.w0] at hw; cases hw; exact .inl ⟨rfl, rfl⟩
  | succ i =>
    have h1 := h.bfs.last i w hw
    obtain ⟨j, w', k, hj, h2, h3, h4⟩ := h.par i w hw
    have hk : w.getLastD 0 = k := by rw [h3, List.getLastD_eq_getLast?]; simp
    refine .inr ⟨fun e => h.bfs.notn ?_, j, w', by omega, h2, by rw [hk]; exact h3, by rw [hk]; exact h4⟩
    rw [← e]
    exact List.mem_of_getElem? h1
/-- To go over all and skip, or over those behind alone, is the same. -/
theorem scanR_skip {n last : Int} {w : List Int} : ∀ (ks met : List Int) (ways : List (List Int)), scanR g n last w ks met ways = scanR g n last w (ks.filter (fun b => leadsB g last b)) met ways
  | [], _, _ => rfl
  | k :: ks, met, ways => by
    rw [List.filter_cons]
    split
    · rename_i h
      unfold scanR
      rw [if_pos h, if_pos h]
      split
      · rfl
      · split
        · exact scanR_skip ks _ _
        · exact scanR_skip ks _ _
    · rename_i h
      conv => lhs; unfold scanR
      rw [if_neg h]
      exact scanR_skip ks _ _
end
end Go.Proofs.YteddiknlcdbhjaaGreat.TrP

namespace Go.Proofs.YteddiknlcdbhjaaGreat
open Go Go.RowKit TrP

/-- What a block serves. -/
inductive Ro where
  | other | tr | txns | wrote | read | edges | leads | aux
  | wroteC (c : Int) | readC (c : Int) | row (c v : Int) | lead (a : Int)
abbrev Rho := Nat → Ro
def kE : Ed → Value := kIII .i64 .i64 .i64
def kP : Int × Int → Value := kII .i64
def setR (ρ : Rho) (x : Nat) (r : Ro) : Rho := fun y => if y = x then r else ρ y
/-- The blocks that are there serve what they served. -/
def Agr (w : World) (ρ ρ' : Rho) : Prop := ∀ x, x < w.heap.size → ρ' x = ρ x
theorem Agr.refl (w : World) (ρ : Rho) : Agr w ρ ρ := fun _ _ => rfl
theorem Agr.set {w : World} {ρ : Rho} {x : Nat} (h : w.heap.size ≤ x) (r : Ro) : Agr w ρ (setR ρ x r) := fun y hy => by
  unfold setR
  rw [if_neg (by omega)]
theorem Agr.trans {w w' : World} {ρ ρ' ρ'' : Rho} (h : Agr w ρ ρ') (hs : w.heap.size ≤ w'.heap.size) (k : Agr w' ρ' ρ'') : Agr w ρ ρ'' := fun x hx => (k x (by omega)).trans (h x hx)
theorem setR_at (ρ : Rho) (x : Nat) (r : Ro) : setR ρ x r x = r := by simp [setR]

section
variable {κ : Type} [DecidableEq κ] {O : Nat → Prop} {w w' : World} {q : IntKind} {b n B s : Nat} {f : Int → Option Value} {kv : κ → Value} {fk : κ → Option Value} {e : TypeId} {v : Value} {xs : List Value}
theorem IMap.updP (h : IMap w q b f n) (hu : UpdP O w w') (hb : ¬ O b) : IMap w' q b f n := by
  obtain ⟨L, c, h, h1, h2⟩ := h
  exact ⟨L, c, ⟨(hu.keep b h.lt' hb).trans h.blk, h.keys, h.stamps, h.lt⟩, h1, h2⟩
theorem KMap.updP (h : KMap w kv b fk n) (hu : UpdP O w w') (hb : ¬ O b) : KMap w' kv b fk n := by
  obtain ⟨L, c, h, h1, h2⟩ := h
  exact ⟨L, c, ⟨(hu.keep b h.lt' hb).trans h.blk, h.keys, h.stamps, h.lt⟩, h1, h2⟩
theorem own_updP (h : w.ownsRow B e s v n xs) (hu : UpdP O w w') (hne : ∀ x, v.ownBlock = some x → ¬ O x) : w'.ownsRow B e s v n xs := by
  refine ⟨h.1, ?_⟩
  rcases h.2 with hz | ⟨g, cap, cur, rfl, h1, hb, h3⟩
  · exact .inl hz
  · exact .inr ⟨g, cap, cur, rfl, h1, (hu.keep g (Blk.lt hb) (hne g rfl)).trans hb, h3⟩
end

/-- How often one is waited for, or 0 for all. -/
def TxM (w : World) (ρ : Rho) (b : Nat) (f : Int → Option Int) (n : Nat) : Prop := ρ b = .txns ∧ IMap w .i64 b (fun k => (f k).map (.int .i64)) n
/-- Who wrote which version of which cell; C: the cells that are known. -/
def WrM (w : World) (ρ : Rho) (b : Nat) (C : Int → Prop) (wr : Int → Int → Option Int) : Prop :=
  ρ b = .wrote ∧ ∃ f n, IMap w .u64 b f n ∧ (∀ c, f c = none ↔ ¬ C c) ∧ ∀ c v, f c = some v → ∃ b' m, v = .map (some b') ∧ ρ b' = .wroteC c ∧ IMap w .i64 b' (fun k => (wr c k).map (.int .i64)) m
/-- A map of slices of numbers, each owned; r k: what its slice at k serves. -/
def RowsM (w : World) (ρ : Rho) (B : Nat) (e : TypeId) (b : Nat) (r : Int → Ro) (rd : Int → List Int) : Prop :=
  ∃ g m, IMap w .i64 b g m ∧ ∀ k, (g k = none ∧ rd k = []) ∨ ∃ v, g k = some v ∧ w.ownsRow B e 1 v (rd k).length ((rd k).map (.int .i64)) ∧ ∀ x, v.ownBlock = some x → ρ x = r k
/-- Who read which version of which cell. -/
def RdM (w : World) (ρ : Rho) (B : Nat) (e : TypeId) (b : Nat) (C : Int → Prop) (rd : Int → Int → List Int) : Prop :=
  ρ b = .read ∧ ∃ f n, IMap w .u64 b f n ∧ (∀ c, f c = none ↔ ¬ C c) ∧ ∀ c v, f c = some v → ∃ b', v = .map (some b') ∧ ρ b' = .readC c ∧ RowsM w ρ B e b' (.row c) (rd c)
def EdM (w : World) (ρ : Rho) (b : Nat) (S : List Ed) : Prop := ρ b = .edges ∧ ∃ n, KMap w kE b (fun e => if e ∈ S then some (.int .i64 1) else none) n
def LdM (w : World) (ρ : Rho) (B : Nat) (e : TypeId) (b : Nat) (ld : Int → List Int) : Prop := ρ b = .leads ∧ RowsM w ρ B e b .lead ld

section
variable {O : Nat → Prop} {w w' : World} {ρ ρ' : Rho} {b B n : Nat} {e : TypeId} {C : Int → Prop} {wr : Int → Int → Option Int} {rd : Int → Int → List Int} {f : Int → Option Int} {S : List Ed} {ld : Int → List Int}
theorem TxM.fr (h : TxM w ρ b f n) (hu : UpdP O w w') (ha : Agr w ρ ρ') (ho : ∀ x, O x → ρ x ≠ .txns) : TxM w' ρ' b f n :=
  ⟨(ha b h.2.lt).trans h.1, h.2.updP hu (fun hb => ho b hb h.1)⟩
theorem WrM.fr (h : WrM w ρ b C wr) (hu : UpdP O w w') (ha : Agr w ρ ρ') (ho : ∀ x, O x → ρ x ≠ .wrote ∧ ∀ c, ρ x ≠ .wroteC c) : WrM w' ρ' b C wr := by
  obtain ⟨h0, f, n, h1, h2, h3⟩ := h
  refine ⟨(ha b h1.lt).trans h0, f, n, h1.updP hu (fun hb => (ho b hb).1 h0), h2, fun c v hv => ?_⟩
  obtain ⟨b', m, e, g1, g2⟩ := h3 c v hv
  exact ⟨b', m, e, (ha b' g2.lt).trans g1, g2.updP hu (fun hb => (ho b' hb).2 c g1)⟩
theorem RowsM.lt {r : Int → Ro} {rd : Int → List Int} (h : RowsM w ρ B e b r rd) : b < w.heap.size := by
  obtain ⟨g, m, h, _⟩ := h
  exact h.lt
theorem RowsM.fr {r : Int → Ro} {rd : Int → List Int} (h : RowsM w ρ B e b r rd) (hu : UpdP O w w') (ha : Agr w ρ ρ') (hb : ¬ O b) (ho : ∀ x k, O x → ρ x ≠ r k) : RowsM w' ρ' B e b r rd := by
  obtain ⟨g, m, h1, h2⟩ := h
  refine ⟨g, m, h1.updP hu hb, fun k => ?_⟩
  rcases h2 k with h | ⟨v, g1, g2, g3⟩
  · exact .inl h
  · exact .inr ⟨v, g1, own_updP g2 hu (fun x hx hO => ho x k hO (g3 x hx)), fun x hx => (ha x (own_lt g2 hx).2).trans (g3 x hx)⟩
theorem RdM.fr (h : RdM w ρ B e b C rd) (hu : UpdP O w w') (ha : Agr w ρ ρ') (ho : ∀ x, O x → ρ x ≠ .read ∧ (∀ c, ρ x ≠ .readC c) ∧ ∀ c k, ρ x ≠ .row c k) : RdM w' ρ' B e b C rd := by
  obtain ⟨h0, f, n, h1, h2, h3⟩ := h
  refine ⟨(ha b h1.lt).trans h0, f, n, h1.updP hu (fun hb => (ho b hb).1 h0), h2, fun c v hv => ?_⟩
  obtain ⟨b', e, g1, g2⟩ := h3 c v hv
  exact ⟨b', e, (ha b' g2.lt).trans g1, g2.fr hu ha (fun hb => (ho b' hb).2.1 c g1) (fun x k hx => (ho x hx).2.2 c k)⟩
theorem EdM.fr (h : EdM w ρ b S) (hu : UpdP O w w') (ha : Agr w ρ ρ') (ho : ∀ x, O x → ρ x ≠ .edges) : EdM w' ρ' b S := by
  obtain ⟨h0, n, h1⟩ := h
  exact ⟨(ha b h1.lt).trans h0, n, h1.updP hu (fun hb => ho b hb h0)⟩
theorem LdM.fr (h : LdM w ρ B e b ld) (hu : UpdP O w w') (ha : Agr w ρ ρ') (ho : ∀ x, O x → ρ x ≠ .leads ∧ ∀ a, ρ x ≠ .lead a) : LdM w' ρ' B e b ld :=
  ⟨(ha b h.2.lt).trans h.1, h.2.fr hu ha (fun hb => (ho b hb).1 h.1) (fun x k hx => (ho x hx).2 k)⟩
end
end Go.Proofs.YteddiknlcdbhjaaGreat

namespace Go.Proofs.YteddiknlcdbhjaaGreat.TrP

/-- Who read a version of a cell, each once. -/
def addOnce (out : List Int) (t : Int) : List Int := if t ∈ out then out else out ++ [t]
def readAt (c v : Int) (x : Ev) : Bool := !x.wr && decide (x.cell = c) && decide (x.ver = v)
def readsOf (l : List Ev) (c v : Int) : List Int := l.foldl (fun out x => if readAt c v x = true then addOnce out x.txn else out) []
theorem readAt_iff {c v : Int} {x : Ev} : readAt c v x = true ↔ x.wr = false ∧ x.cell = c ∧ x.ver = v := by
  unfold readAt
  cases x.wr <;> simp
theorem readsOf_snoc (l : List Ev) (x : Ev) (c v : Int) : readsOf (l ++ [x]) c v = if readAt c v x = true then addOnce (readsOf l c v) x.txn else readsOf l c v := by
  unfold readsOf
  rw [List.foldl_append]
  rfl
theorem mem_addOnce {out : List Int} {t u : Int} : u ∈ addOnce out t ↔ u ∈ out ∨ u = t := by
  unfold addOnce
  split
  · rename_i h
    exact ⟨.inl, fun g => g.elim id fun e => e ▸ h⟩
  · simp
theorem readsOf_iff (l : List Ev) (c v t : Int) : t ∈ readsOf l c v ↔ Reads l c v t := by
  have key : ∀ (r : List Ev) (out : List Int), t ∈ r.foldl (fun out x => if readAt c v x = true then addOnce out x.txn else out) out ↔ t ∈ out ∨ Reads r c v t := by
    intro r
    induction r with
    | nil => intro out; simp [Reads]
    | cons x r ih =>
      intro out
      rw [List.foldl_cons, ih]
      unfold Reads
      split
      · rename_i h
        have h' := readAt_iff.1 h
        rw [mem_addOnce]
        constructor
        · rintro ((g | g) | ⟨y, hy, g⟩)
          · exact .inl g
          · exact .inr ⟨x, by simp, h'.1, h'.2.1, h'.2.2, g.symm⟩
          · exact .inr ⟨y, by simp [hy], g⟩
        · rintro (g | ⟨y, hy, g1, g2, g3, g4⟩)
          · exact .inl (.inl g)
          · rcases List.mem_cons.1 hy with rfl | hy
            · exact .inl (.inr g4.symm)
            · exact .inr ⟨y, hy, g1, g2, g3, g4⟩
      · rename_i h
        constructor
        · rintro (g | ⟨y, hy, g⟩)
          · exact .inl g
          · exact .inr ⟨y, by simp [hy], g⟩
        · rintro (g | ⟨y, hy, g1, g2, g3, g4⟩)
          · exact .inl g
          · rcases List.mem_cons.1 hy with rfl | hy
            · exact absurd (readAt_iff.2 ⟨g1, g2, g3⟩) h
            · exact .inr ⟨y, hy, g1, g2, g3, g4⟩
  have := key l []
  simpa [readsOf] using this
theorem readsOf_len (l : List Ev) (c v : Int) : (readsOf l c v).length ≤ l.length := by
  have key : ∀ (r : List Ev) (out : List Int), (r.foldl (fun out x => if readAt c v x = true then addOnce out x.txn else out) out).length ≤ out.length + r.length := by
    intro r
    induction r with
    | nil => intro out; simp
    | cons x r ih =>
      intro out
      rw [List.foldl_cons]
      have := ih (if readAt c v x = true then addOnce out x.txn else out)
      have h2 : (if readAt c v x = true then addOnce out x.txn else out).length ≤ out.length + 1 := by
        split
        · unfold addOnce; split <;> simp
        · omega
      simp only [List.length_cons]
      omega
  have := key l []
  simpa [readsOf] using this

/-- What one cell gives. -/
def EdgeAt (l : List Ev) (c : Int) (e : Ed) : Prop := e.1 ≠ e.2.1 ∧ (
  (e.2.2 = 1 ∧ ∃ v, wroteOf l c v = some e.1 ∧ Reads l c v e.2.1) ∨
  (e.2.2 = 2 ∧ ∃ v v', wroteOf l c v = some e.1 ∧ Succ l c v v' ∧ wroteOf l c v' = some e.2.1) ∨
  (e.2.2 = 3 ∧ ∃ v v', Reads l c v e.1 ∧ Succ l c v v' ∧ wroteOf l c v' = some e.2.1))
theorem edgeP_at {l : List Ev} {e : Ed} : EdgeP l e ↔ ∃ c, EdgeAt l c e := by
  unfold EdgeP EdgeAt
  constructor
  · rintro ⟨h, ⟨h1, c, g⟩ | ⟨h1, c, g⟩ | ⟨h1, c, g⟩⟩
    · exact ⟨c, h, .inl ⟨h1, g⟩⟩
    · exact ⟨c, h, .inr (.inl ⟨h1, g⟩)⟩
    · exact ⟨c, h, .inr (.inr ⟨h1, g⟩)⟩
  · rintro ⟨c, h, ⟨h1, g⟩ | ⟨h1, g⟩ | ⟨h1, g⟩⟩
    · exact ⟨h, .inl ⟨h1, c, g⟩⟩
    · exact ⟨h, .inr (.inl ⟨h1, c, g⟩)⟩
    · exact ⟨h, .inr (.inr ⟨h1, c, g⟩)⟩
theorem edgeAt_cell {l : List Ev} {c : Int} {e : Ed} (h : EdgeAt l c e) : ∃ x ∈ l, x.cell = c := by
  obtain ⟨_, ⟨_, v, h1, _⟩ | ⟨_, v, v', h1, _⟩ | ⟨_, v, v', ⟨x, hx, _, h1, _⟩, _⟩⟩ := h
  · obtain ⟨x, hx, _, h2, _⟩ := wroteOf_mem h1; exact ⟨x, hx, h2⟩
  · obtain ⟨x, hx, _, h2, _⟩ := wroteOf_mem h1; exact ⟨x, hx, h2⟩
  · exact ⟨x, hx, h1⟩
/-- The versions of a cell, rising. -/
structure Vers (l : List Ev) (c : Int) (vs : List Int) : Prop where
  rise : RiseI vs
  mem : ∀ v, v ∈ vs ↔ (wroteOf l c v).isSome = true
section
variable {l : List Ev} {c : Int} {vs : List Int}
theorem Vers.lt (h : Vers l c vs) {i j : Nat} (hij : i < j) (hj : j < vs.length) : vs[i] < vs[j] := List.pairwise_iff_getElem.1 h.rise i j (by omega) hj hij
theorem Vers.le (h : Vers l c vs) {i j : Nat} (hij : i ≤ j) (hj : j < vs.length) : vs[i] ≤ vs[j] := by
  rcases Nat.lt_or_ge i j with h1 | h1
  · have := h.lt h1 hj; omega
  · have : i = j := by omega
    subst this; omega
/-- Behind where a version stands, or would stand, is the next one. -/
theorem Vers.succ (h : Vers l c vs) {v : Int} {i : Nat} (h1 : ∀ j (hj : j < vs.length), j < i → vs[j] ≤ v) (h2 : ∀ j (hj : j < vs.length), i ≤ j → v < vs[j]) (v' : Int) : Succ l c v v' ↔ ∃ hi : i < vs.length, v' = vs[i] := by
  constructor
  · rintro ⟨g1, g2, g3⟩
    obtain ⟨j, hj, rfl⟩ := List.getElem_of_mem ((h.mem v').2 g1)
    have hij : i ≤ j := by
      rcases Nat.lt_or_ge j i with e | e
      · have := h1 j hj e; omega
      · exact e
    have hi : i < vs.length := by omega
    refine ⟨hi, ?_⟩
    have := g3 vs[i] ((h.mem _).1 (List.getElem_mem hi)) (h2 i hi (Nat.le_refl _))
    have := h.le hij hj
    omega
  · rintro ⟨hi, rfl⟩
    refine ⟨(h.mem _).1 (List.getElem_mem hi), h2 i hi (Nat.le_refl _), fun u hu hv => ?_⟩
    obtain ⟨j, hj, rfl⟩ := List.getElem_of_mem ((h.mem u).2 hu)
    rcases Nat.lt_or_ge j i with e | e
    · have := h1 j hj e; omega
    · exact h.le e hj
theorem Vers.succ_at (h : Vers l c vs) {i : Nat} (hi : i < vs.length) (v' : Int) : Succ l c vs[i] v' ↔ ∃ hi' : i + 1 < vs.length, v' = vs[i + 1] :=
  h.succ (fun j hj hlt => h.le (by omega) hi) (fun j hj hge => h.lt (by omega) hj) v'
/-- What the i-th version gives. -/
def EdA (l : List Ev) (c : Int) (vs : List Int) (i : Nat) (e : Ed) : Prop := ∃ hi : i < vs.length, e.1 ≠ e.2.1 ∧ wroteOf l c vs[i] = some e.1 ∧ (
  (e.2.2 = 1 ∧ e.2.1 ∈ readsOf l c vs[i]) ∨ (e.2.2 = 2 ∧ ∃ hi' : i + 1 < vs.length, wroteOf l c vs[i + 1] = some e.2.1))
/-- What those that read a version give. -/
def EdB (l : List Ev) (c : Int) (v : Int) (e : Ed) : Prop := e.1 ≠ e.2.1 ∧ e.2.2 = 3 ∧ e.1 ∈ readsOf l c v ∧ ∃ v', Succ l c v v' ∧ wroteOf l c v' = some e.2.1
theorem Vers.edge (h : Vers l c vs) (e : Ed) : EdgeAt l c e ↔ (∃ i, EdA l c vs i e) ∨ ∃ v, readsOf l c v ≠ [] ∧ EdB l c v e := by
  constructor
  · rintro ⟨h0, ⟨h1, v, g1, g2⟩ | ⟨h1, v, v', g1, g2, g3⟩ | ⟨h1, v, v', g1, g2, g3⟩⟩
    · obtain ⟨i, hi, rfl⟩ := List.getElem_of_mem ((h.mem v).2 (by rw [g1]; rfl))
      exact .inl ⟨i, hi, h0, g1, .inl ⟨h1, (readsOf_iff ..).2 g2⟩⟩
    · obtain ⟨i, hi, rfl⟩ := List.getElem_of_mem ((h.mem v).2 (by rw [g1]; rfl))
      obtain ⟨hi', rfl⟩ := (h.succ_at hi v').1 g2
      exact .inl ⟨i, hi, h0, g1, .inr ⟨h1, hi', g3⟩⟩
    · have := (readsOf_iff l c v e.1).2 g1
      exact .inr ⟨v, (by intro e; rw [e] at this; cases this), h0, h1, this, v', g2, g3⟩
  · rintro (⟨i, hi, h0, g1, ⟨h1, g2⟩ | ⟨h1, hi', g2⟩⟩ | ⟨v, _, h0, h1, g1, v', g2, g3⟩)
    · exact ⟨h0, .inl ⟨h1, _, g1, (readsOf_iff ..).1 g2⟩⟩
    · exact ⟨h0, .inr (.inl ⟨h1, _, _, g1, (h.succ_at hi _).2 ⟨hi', rfl⟩, g2⟩)⟩
    · exact ⟨h0, .inr (.inr ⟨h1, v, v', (readsOf_iff ..).1 g1, g2, g3⟩)⟩
end
end Go.Proofs.YteddiknlcdbhjaaGreat.TrP

namespace Go.Proofs.YteddiknlcdbhjaaGreat
open Go.RowKit Go.WideShapes Go.ChangeShapes Go.Deep

section
variable {H : Type} {enc : TypeId × Value → H} {P : Program}
theorem trodAll_stays (hl : laidOutB P = true) {W W' : World} (hb : Below W.heap.size W W') {sp : Nat → Bool} :
    ∀ {ts : List TypeId} {vs : List Value} {ds : List (DataW H)} {ps : List MemPlace}, (∀ t ∈ ts, P.readableRec t = true ∧ t < P.types.size) →
      DataW.TrodAll enc P W 0 (fun _ => true) true ts vs ds ps → (∀ p ∈ ps, p.block < W.heap.size ∧ sp p.block = true) → DataW.TrodAll enc P W' 0 sp true ts vs ds ps
  | [], [], [], _, _, h, _ => h
  | _ :: _, _ :: _, _ :: _, _, ht, ⟨p, q, h1, h2, e⟩, hs =>
    ⟨p, q, WideElems.Trod_stays hl (ht _ (List.mem_cons_self ..)).1 (ht _ (List.mem_cons_self ..)).2 h1 (fun x hx => hb.same (hs x (by rw [e]; exact List.mem_append_left _ hx)).1) (fun x hx => (hs x (by rw [e]; exact List.mem_append_left _ hx)).2),
      trodAll_stays hl hb (fun t h => ht t (List.mem_cons_of_mem _ h)) h2 (fun x hx => hs x (by rw [e]; exact List.mem_append_right _ hx)), e⟩

theorem law_post {fn : Func} {s : ChangeSpec} {tb : TypeId} {W W' : World} {args : Array Value} {ds gs : List (DataW H)} {before : List MemPlace} (hl : laidOutB P = true)
    (ht : fn.params.toList.all (fun t => P.readableRec t && decide (t < P.types.size)) = true) (hv : s.vars = []) (hrt : fn.resultTypes = #[tb]) (hb : P.underlying tb = some .bool)
    (hspec : s.fn H (ds ++ []) = { results := [.lit (.bool true)], args := ds })
    (hW : DataW.Whole enc P fn.params.toList s.vars false W args.toList ds gs before) (hbel : Below W.heap.size W W') :
    s.post enc P fn false true false false W args (.bool true) W' := by
  have hW0 := hW
  have hlt := fun x hx => hW.lt (p := x) hx
  obtain ⟨p, q, hA, hV, rfl, hfz, hnd⟩ := hW
  have hg : gs = [] ∧ q = [] := by
    rw [hv] at hV
    exact trodVars_none hV
  obtain ⟨rfl, rfl⟩ := hg
  simp only [List.append_nil] at hW0 hlt
  refine ⟨ds, [], p, [], p, [], hW0, ?_, ?_, ?_, ?_, fun h => by cases h⟩
  · rw [hspec, hrt]
    exact trodAll_cons_mk (shut_bool hb true) trodAll_mk0
  · rw [hspec]
    refine trodAll_stays hl hbel (fun t h => ?_) hA (fun x hx => ⟨hlt x hx, by simpa using hlt x hx⟩)
    have := List.all_eq_true.1 ht t h
    simpa using this
  · rw [hspec, hv]
    rfl
  · exact hbel.frame _
end

section
variable {H : Type} {enc : TypeId × Value → H} {P : Program} {w : World} {base : Nat} {spare : Nat → Bool} {held : Bool}
/-- An argument that is a slice of structs whose fields are one cell each: its address, and for each element its cells, each with its own reading. -/
theorem rows_of_slice {t e : TypeId} {fs : Array Field} {v : Value} {d : DataW H} {ps : List MemPlace} {r : Reach} {b0 : Nat} (ht : P.underlying t = some (.slice e)) (he : P.underlying e = some (.struct fs))
    (hone : oneCellFields P fs = true) (hC : P.cellsOf e = fs.size) (hok : Value.okWide P w r b0 t v) (h : DataW.Trod enc P w base spare held t v d ps) :
    ∃ (A : Option Addr) (n c : Nat), v = .slice A n c ∧ n ≤ c ∧ c ≤ maxLen ∧ (∀ i, i < n → ∃ a, A = some a ∧ ∃ vs : List Value, vs.length = fs.size ∧ (∀ (j : Nat) (u : Value), vs[j]? = some u → w.cell? (a.add (i * fs.size + j)) = some u) ∧
      ∀ (j : Nat) (f : Field), fs[j]? = some f → ∃ (u : Value) (y : DataW H × List MemPlace) (k : Nat), vs[j]? = some u ∧ DataW.trod enc P w base spare held k f.type [u] = some y) := by
  obtain ⟨a0, len, cap, rfl⟩ := okWide_slice ht hok
  obtain ⟨fuel, hf⟩ := h
  rcases open_slice ht hf with ⟨h0, _⟩ | ⟨a, len', cap', m, k, D, Pl, hcs, hb, hl, hm, hmm, hx, hi⟩
  · simp only [Value.cells, List.cons.injEq, and_true] at h0
    injection h0 with h1 h2 h3
    subst h1 h2 h3
    exact ⟨_, _, _, rfl, Nat.le_refl _, by simp [maxLen], fun i hi => by omega⟩
  · simp only [Value.cells, List.cons.injEq, and_true] at hcs
    injection hcs with h1 h2 h3
    subst h1 h2 h3
    refine ⟨_, _, _, rfl, hl, hm, fun i hin => ⟨a, rfl, ?_⟩⟩
    have hin' : i < m := by rw [hmm]; split <;> omega
    obtain ⟨cs', hc, ht'⟩ := hi i hin'
    rw [hC] at hc
    obtain ⟨ys, n', _, _, hlen, hyl, hfld⟩ := DataW.trod_struct he ht'
    obtain ⟨_, hcl, hat⟩ := World.cells?_some hc
    refine ⟨cs', by omega, fun j u hu => ?_, fun j f hj => ?_⟩
    · have hjl : j < fs.size := by have := (List.getElem?_eq_some_iff.1 hu).1; omega
      rw [← Go.Deep.add_add, hat j hjl]
      exact hu
    · obtain ⟨ho, hk⟩ := hone_of hone j f hj
      have hjl : j < fs.size := (Array.getElem?_eq_some_iff.1 hj).1
      have hcj : cs'[j]? = some (cs'[j]'(by omega)) := List.getElem?_eq_getElem (by omega)
      have h1 := hfld j f hj
      rw [ho, hk, show (cs'.drop j).take 1 = [cs'[j]'(by omega)] by rw [List.drop_eq_getElem_cons (by omega)]; rfl] at h1
      have hys : ys[j]? = some (ys[j]'(by omega)) := List.getElem?_eq_getElem (by omega)
      exact ⟨_, _, _, hcj, h1.trans hys⟩
end
end Go.Proofs.YteddiknlcdbhjaaGreat

namespace Go.Proofs.YteddiknlcdbhjaaGreat
open Go.RowKit Go.Deep Go.WideShapes Go.ChangeShapes

/-- Whatever reads at a type is such a thing. -/
def ReadsAs {α : Type} (P : Program) (t : TypeId) (E : Enc α) (good : α → Prop) : Prop :=
  P.cellsOf t = E.s ∧ ∀ {H : Type} {enc : TypeId × Value → H} {w : World} {base : Nat} {spare : Nat → Bool} {held : Bool} {fuel : Nat} {cs : List Value} {x : DataW H × List MemPlace},
    DataW.trod enc P w base spare held fuel t cs = some x → ∃ a, cs = E.c a ∧ good a
theorem pick_list {α : Type} {Q : Nat → α → Prop} : ∀ n, (∀ i, i < n → ∃ a, Q i a) → ∃ L : List α, L.length = n ∧ ∀ i a, L[i]? = some a → Q i a
  | 0, _ => ⟨[], rfl, by simp⟩
  | n + 1, h => by
    obtain ⟨L, hl, hL⟩ := pick_list n (fun i hi => h i (by omega))
    obtain ⟨a, ha⟩ := h n (by omega)
    refine ⟨L ++ [a], by simp [hl], fun i b hb => ?_⟩
    rw [List.getElem?_append] at hb
    split at hb
    · exact hL i b hb
    · rename_i hi
      have hi' : i = n := by
        have := (List.getElem?_eq_some_iff.1 hb).1
        simp at this
        omega
      subst hi'
      simp [hl] at hb
      subst hb
      exact ha
section
variable {H : Type} {enc : TypeId × Value → H} {P : Program} {w : World} {base : Nat} {spare : Nat → Bool} {held : Bool}
theorem rd_arg {α : Type} {E : Enc α} {good : α → Prop} {t e : TypeId} {v : Value} {d : DataW H} {ps : List MemPlace} {r : Reach} {b0 : Nat} (ht : P.underlying t = some (.slice e)) (hr : ReadsAs P e E good)
    (hok : Value.okWide P w r b0 t v) (h : DataW.Trod enc P w base spare held t v d ps) :
    ∃ (L : List α) (A : Option Addr) (c : Nat), v = .slice A L.length c ∧ L.length ≤ c ∧ c ≤ maxLen ∧ Rd E w v L ∧ ∀ a ∈ L, good a := by
  obtain ⟨a0, len, cap, rfl⟩ := okWide_slice ht hok
  obtain ⟨fuel, hf⟩ := h
  rcases open_slice ht hf with ⟨h0, _⟩ | ⟨a, len', cap', m, k, D, Pl, hcs, hb, hl, hm, hmm, hx, hi⟩
  · simp only [Value.cells, List.cons.injEq, and_true] at h0
    injection h0 with h1 h2 h3
    subst h1 h2 h3
    exact ⟨[], _, _, rfl, Nat.le_refl _, by simp [maxLen], Rd.nil E w 0, by simp⟩
  · simp only [Value.cells, List.cons.injEq, and_true] at hcs
    injection hcs with h1 h2 h3
    subst h1 h2 h3
    obtain ⟨L, hL, hQ⟩ := pick_list (Q := fun i (x : α) => good x ∧ ∀ j u, (E.c x)[j]? = some u → w.cell? (a.add (i * E.s + j)) = some u) len (fun i hil => by
      have him : i < m := by rw [hmm]; split <;> omega
      obtain ⟨cs', hc, ht'⟩ := hi i him
      obtain ⟨x, rfl, hg⟩ := hr.2 ht'
      rw [hr.1] at hc
      obtain ⟨_, hcl, hat⟩ := World.cells?_some hc
      refine ⟨x, hg, fun j u hu => ?_⟩
      have hj : j < E.s := by have := (List.getElem?_eq_some_iff.1 hu).1; rwa [E.len] at this
      rw [← Go.Deep.add_add, hat j hj]
      exact hu)
    subst hL
    refine ⟨L, some a, cap, rfl, hl, hm, ⟨flat_len, some a, cap, rfl, fun j u hj => ?_⟩, fun x hx => ?_⟩
    · have hjl := (List.getElem?_eq_some_iff.1 hj).1
      rw [flat_len] at hjl
      have hk : j / E.s < L.length := Nat.div_lt_of_lt_mul (by rw [Nat.mul_comm]; exact hjl)
      have hr' : j % E.s < E.s := Nat.mod_lt _ E.pos
      obtain ⟨x, hx⟩ : ∃ x, L[j / E.s]? = some x := ⟨_, List.getElem?_eq_getElem hk⟩
      have he : j / E.s * E.s + j % E.s = j := by rw [Nat.mul_comm]; exact Nat.div_add_mod j E.s
      have hg := flat_get (E := E) hx hr'
      rw [he, hj] at hg
      have hc := (hQ _ x hx).2 _ u hg.symm
      rw [he] at hc
      refine ⟨a, rfl, ?_, hc⟩
      have := World.block_lt_of_cell? _ _ hc
      rwa [block_add] at this
    · obtain ⟨i, hi', rfl⟩ := List.getElem_of_mem hx
      exact (hQ i _ (List.getElem?_eq_getElem hi')).1
end
/-- An integer; two; in whatever kinds. -/
def encI (q : IntKind) : Enc Int := ⟨fun a => [.int q a], 1, fun _ => rfl, by intro a u hu; simp at hu; subst hu; rfl, by omega⟩
def encII (q q' : IntKind) : Enc (Int × Int) := ⟨fun p => [.int q p.1, .int q' p.2], 2, fun _ => rfl, by intro a u hu; simp at hu; rcases hu with rfl | rfl <;> rfl, by omega⟩
def inK (q : IntKind) (a : Int) : Prop := (Lit.int q a).wf = true
theorem reads_int {P : Program} {t : TypeId} {q : IntKind} (ht : P.underlying t = some (.int q)) (hc : P.cellsOf t = 1) : ReadsAs P t (encI q) (inK q) :=
  ⟨hc, fun h => by
    obtain ⟨y, hy, _, hw⟩ := DataW.trod_int ht h
    exact ⟨y, hy, hw⟩⟩
/-- A struct of two integers. -/
theorem reads_two {P : Program} {t t0 t1 : TypeId} {f0 f1 : Field} {q q' : IntKind} (ht : P.underlying t = some (.struct #[f0, f1])) (hc : P.cellsOf t = 2) (o0 : f0.offset = 0) (o1 : f1.offset = 1) (c0 : P.cellsOf f0.type = 1) (c1 : P.cellsOf f1.type = 1)
    (h0 : P.underlying f0.type = some (.int q)) (h1 : P.underlying f1.type = some (.int q')) : ReadsAs P t (encII q q') (fun p => inK q p.1 ∧ inK q' p.2) :=
  ⟨hc, fun {H enc w base spare held fuel cs x} h => by
    obtain ⟨xs, n, _, _, hl, hxl, hf⟩ := DataW.trod_struct ht h
    rw [hc] at hl
    match cs, hl with
    | [a, b], _ =>
      have g0 := hf 0 f0 rfl
      have g1 := hf 1 f1 rfl
      have hx0 : xs[0]? = some (xs[0]'(by rw [hxl]; simp)) := List.getElem?_eq_getElem _
      have hx1 : xs[1]? = some (xs[1]'(by rw [hxl]; simp)) := List.getElem?_eq_getElem _
      rw [o0, c0, hx0] at g0
      rw [o1, c1, hx1] at g1
      obtain ⟨y0, e0, _, w0⟩ := DataW.trod_int h0 g0
      obtain ⟨y1, e1, _, w1⟩ := DataW.trod_int h1 g1
      simp at e0 e1
      subst e0 e1
      exact ⟨(y0, y1), rfl, w0, w1⟩⟩
def encI3 (q0 q1 q2 : IntKind) : Enc (Int × Int × Int) := ⟨fun p => [.int q0 p.1, .int q1 p.2.1, .int q2 p.2.2], 3, fun _ => rfl, by intro a u hu; simp at hu; rcases hu with rfl | rfl | rfl <;> rfl, by omega⟩
theorem reads_3 {P : Program} {t : TypeId} {f0 f1 f2 : Field} {q0 q1 q2 : IntKind} (ht : P.underlying t = some (.struct #[f0, f1, f2])) (hc : P.cellsOf t = 3) (o0 : f0.offset = 0) (o1 : f1.offset = 1) (o2 : f2.offset = 2) (c0 : P.cellsOf f0.type = 1) (c1 : P.cellsOf f1.type = 1) (c2 : P.cellsOf f2.type = 1)
    (h0 : P.underlying f0.type = some (.int q0)) (h1 : P.underlying f1.type = some (.int q1)) (h2 : P.underlying f2.type = some (.int q2)) : ReadsAs P t (encI3 q0 q1 q2) (fun p => inK q0 p.1 ∧ inK q1 p.2.1 ∧ inK q2 p.2.2) :=
  ⟨hc, fun {H enc w base spare held fuel cs x} h => by
    obtain ⟨xs, n, _, _, hl, hxl, hf⟩ := DataW.trod_struct ht h
    rw [hc] at hl
    match cs, hl with
    | [a0, a1, a2], _ =>
      have g0 := hf 0 f0 rfl
      have hx0 : xs[0]? = some (xs[0]'(by rw [hxl]; simp)) := List.getElem?_eq_getElem _
      rw [o0, c0, hx0] at g0
      obtain ⟨y0, e0, _, w0⟩ := DataW.trod_int h0 g0
      simp at e0
      subst e0
      have g1 := hf 1 f1 rfl
      have hx1 : xs[1]? = some (xs[1]'(by rw [hxl]; simp)) := List.getElem?_eq_getElem _
      rw [o1, c1, hx1] at g1
      obtain ⟨y1, e1, _, w1⟩ := DataW.trod_int h1 g1
      simp at e1
      subst e1
      have g2 := hf 2 f2 rfl
      have hx2 : xs[2]? = some (xs[2]'(by rw [hxl]; simp)) := List.getElem?_eq_getElem _
      rw [o2, c2, hx2] at g2
      obtain ⟨y2, e2, _, w2⟩ := DataW.trod_int h2 g2
      simp at e2
      subst e2
      exact ⟨(y0, y1, y2), rfl, w0, w1, w2⟩⟩
def encI4 (q0 q1 q2 q3 : IntKind) : Enc (Int × Int × Int × Int) := ⟨fun p => [.int q0 p.1, .int q1 p.2.1, .int q2 p.2.2.1, .int q3 p.2.2.2], 4, fun _ => rfl, by intro a u hu; simp at hu; rcases hu with rfl | rfl | rfl | rfl <;> rfl, by omega⟩
theorem reads_4 {P : Program} {t : TypeId} {f0 f1 f2 f3 : Field} {q0 q1 q2 q3 : IntKind} (ht : P.underlying t = some (.struct #[f0, f1, f2, f3])) (hc : P.cellsOf t = 4) (o0 : f0.offset = 0) (o1 : f1.offset = 1) (o2 : f2.offset = 2) (o3 : f3.offset = 3) (c0 : P.cellsOf f0.type = 1) (c1 : P.cellsOf f1.type = 1) (c2 : P.cellsOf f2.type = 1) (c3 : P.cellsOf f3.type = 1)
    (h0 : P.underlying f0.type = some (.int q0)) (h1 : P.underlying f1.type = some (.int q1)) (h2 : P.underlying f2.type = some (.int q2)) (h3 : P.underlying f3.type = some (.int q3)) : ReadsAs P t (encI4 q0 q1 q2 q3) (fun p => inK q0 p.1 ∧ inK q1 p.2.1 ∧ inK q2 p.2.2.1 ∧ inK q3 p.2.2.2) :=
  ⟨hc, fun {H enc w base spare held fuel cs x} h => by
    obtain ⟨xs, n, _, _, hl, hxl, hf⟩ := DataW.trod_struct ht h
    rw [hc] at hl
    match cs, hl with
    | [a0, a1, a2, a3], _ =>
      have g0 := hf 0 f0 rfl
      have hx0 : xs[0]? = some (xs[0]'(by rw [hxl]; simp)) := List.getElem?_eq_getElem _
      rw [o0, c0, hx0] at g0
      obtain ⟨y0, e0, _, w0⟩ := DataW.trod_int h0 g0
      simp at e0
      subst e0
      have g1 := hf 1 f1 rfl
      have hx1 : xs[1]? = some (xs[1]'(by rw [hxl]; simp)) := List.getElem?_eq_getElem _
      rw [o1, c1, hx1] at g1
      obtain ⟨y1, e1, _, w1⟩ := DataW.trod_int h1 g1
      simp at e1
      subst e1
      have g2 := hf 2 f2 rfl
      have hx2 : xs[2]? = some (xs[2]'(by rw [hxl]; simp)) := List.getElem?_eq_getElem _
      rw [o2, c2, hx2] at g2
      obtain ⟨y2, e2, _, w2⟩ := DataW.trod_int h2 g2
      simp at e2
      subst e2
      have g3 := hf 3 f3 rfl
      have hx3 : xs[3]? = some (xs[3]'(by rw [hxl]; simp)) := List.getElem?_eq_getElem _
      rw [o3, c3, hx3] at g3
      obtain ⟨y3, e3, _, w3⟩ := DataW.trod_int h3 g3
      simp at e3
      subst e3
      exact ⟨(y0, y1, y2, y3), rfl, w0, w1, w2, w3⟩⟩
end Go.Proofs.YteddiknlcdbhjaaGreat

namespace Go.Proofs.YteddiknlcdbhjaaGreat.Assoc

abbrev AL := List (Int × Int)
def Srt (l : AL) : Prop := l.Pairwise (fun a b => a.1 < b.1)
def get (l : AL) (k : Int) : Option Int := (l.find? (fun p => p.1 == k)).map (·.2)
def has (l : AL) (k : Int) : Bool := l.any (fun p => p.1 == k)
def put : AL → Int → Int → AL
  | [], k, v => [(k, v)]
  | p :: l, k, v => if k < p.1 then (k, v) :: p :: l else if p.1 = k then (k, v) :: l else p :: put l k v
def del (l : AL) (k : Int) : AL := l.filter (fun p => !(p.1 == k))

theorem Srt.nil : Srt [] := List.Pairwise.nil
theorem Srt.tail {p : Int × Int} {l : AL} (h : Srt (p :: l)) : Srt l := (List.pairwise_cons.1 h).2
theorem Srt.head {p : Int × Int} {l : AL} (h : Srt (p :: l)) : ∀ x ∈ l, p.1 < x.1 := (List.pairwise_cons.1 h).1
theorem get_nil (k : Int) : get [] k = none := rfl
theorem get_cons (p : Int × Int) (l : AL) (k : Int) : get (p :: l) k = if p.1 = k then some p.2 else get l k := by
  unfold get
  rw [List.find?_cons]
  by_cases h : p.1 = k
  · simp [h]
  · have : (p.1 == k) = false := by simpa using h
    rw [this, if_neg h]
theorem get_none {l : AL} {k : Int} : get l k = none ↔ ∀ p ∈ l, p.1 ≠ k := by
  induction l with
  | nil => simp [get_nil]
  | cons p l ih =>
    rw [get_cons]
    by_cases h : p.1 = k
    · simp [h]
    · rw [if_neg h, ih]
      simp [h]
theorem get_low {l : AL} {k : Int} (h : ∀ x ∈ l, k < x.1) : get l k = none := get_none.2 fun p hp => by have := h p hp; omega
theorem get_mem {l : AL} (h : Srt l) {p : Int × Int} (hp : p ∈ l) : get l p.1 = some p.2 := by
  induction l with
  | nil => cases hp
  | cons a l ih =>
    rw [get_cons]
    rcases List.mem_cons.1 hp with rfl | hp
    · simp
    · rw [if_neg (by have := h.head p hp; omega)]
      exact ih h.tail hp
theorem mem_of_get {l : AL} {k v : Int} (h : get l k = some v) : (k, v) ∈ l := by
  induction l with
  | nil => cases h
  | cons a l ih =>
    rw [get_cons] at h
    by_cases e : a.1 = k
    · rw [if_pos e] at h
      injection h with h
      subst e h
      exact List.mem_cons_self ..
    · rw [if_neg e] at h
      exact List.mem_cons_of_mem _ (ih h)
theorem has_get (l : AL) (k : Int) : has l k = (get l k).isSome := by
  induction l with
  | nil => rfl
  | cons a l ih =>
    rw [get_cons]
    unfold has at ih ⊢
    rw [List.any_cons]
    by_cases e : a.1 = k
    · simp [e]
    · have : (a.1 == k) = false := by simpa using e
      rw [this, if_neg e, Bool.false_or, ih]
theorem mem_put {l : AL} {k v : Int} {x : Int × Int} (h : x ∈ put l k v) : x = (k, v) ∨ x ∈ l := by
  induction l with
  | nil => simp [put] at h; exact .inl h
  | cons p l ih =>
    unfold put at h
    split at h
    · rcases List.mem_cons.1 h with h | h
      · exact .inl h
      · exact .inr h
    · split at h
      · rcases List.mem_cons.1 h with h | h
        · exact .inl h
        · exact .inr (List.mem_cons_of_mem _ h)
      · rcases List.mem_cons.1 h with h | h
        · exact .inr (by simp [h])
        · rcases ih h with h | h
          · exact .inl h
          · exact .inr (List.mem_cons_of_mem _ h)
theorem srt_put {l : AL} (h : Srt l) (k v : Int) : Srt (put l k v) := by
  induction l with
  | nil => exact List.pairwise_singleton ..
  | cons p l ih =>
    unfold put
    split
    · rename_i hk
      refine List.pairwise_cons.2 ⟨fun x hx => ?_, h⟩
      rcases List.mem_cons.1 hx with rfl | hx
      · exact hk
      · have := h.head x hx; show k < x.1; omega
    · split
      · rename_i hk
        refine List.pairwise_cons.2 ⟨fun x hx => ?_, h.tail⟩
        have := h.head x hx; show k < x.1; omega
      · rename_i h1 h2
        refine List.pairwise_cons.2 ⟨fun x hx => ?_, ih h.tail⟩
        rcases mem_put hx with rfl | hx
        · show p.1 < k; omega
        · exact h.head x hx
theorem get_put {l : AL} (h : Srt l) (k v x : Int) : get (put l k v) x = if x = k then some v else get l x := by
  induction l with
  | nil =>
    unfold put
    rw [get_cons]
    by_cases e : x = k
    · simp [e]
    · rw [if_neg e, if_neg (fun e' => e e'.symm)]
  | cons p l ih =>
    unfold put
    split
    · rename_i hk
      rw [get_cons]
      by_cases e : x = k
      · simp [e]
      · rw [if_neg e, if_neg (fun e' => e e'.symm)]
    · split
      · rename_i hk
        rw [get_cons, get_cons]
        by_cases e : x = k
        · simp [e]
        · rw [if_neg e, if_neg (fun e' => e e'.symm), if_neg (by omega)]
      · rename_i h1 h2
        rw [get_cons, get_cons, ih h.tail]
        by_cases e : p.1 = x
        · rw [if_pos e, if_pos e, if_neg (by omega)]
        · rw [if_neg e, if_neg e]
theorem len_put {l : AL} (h : Srt l) (k v : Int) : (put l k v).length = if (get l k).isSome then l.length else l.length + 1 := by
  induction l with
  | nil => rfl
  | cons p l ih =>
    unfold put
    split
    · rename_i hk
      rw [get_low (l := p :: l) (fun x hx => by
        rcases List.mem_cons.1 hx with rfl | hx
        · exact hk
        · have := h.head x hx; omega)]
      rfl
    · split
      · rename_i hk
        rw [get_cons, if_pos hk]
        rfl
      · rename_i h1 h2
        rw [get_cons, if_neg h2, List.length_cons, ih h.tail]
        split <;> rfl
theorem srt_del {l : AL} (h : Srt l) (k : Int) : Srt (del l k) := h.sublist List.filter_sublist
theorem get_del {l : AL} (k x : Int) : get (del l k) x = if x = k then none else get l x := by
  induction l with
  | nil => unfold del; simp [get_nil]
  | cons p l ih =>
    unfold del at ih ⊢
    rw [List.filter_cons]
    by_cases e : p.1 = k
    · simp only [e, beq_self_eq_true, Bool.not_true, Bool.false_eq_true, if_false]
      rw [ih, get_cons]
      by_cases e2 : x = k
      · simp [e2]
      · rw [if_neg e2, if_neg e2, if_neg (by omega)]
    · have : (p.1 == k) = false := by simpa using e
      simp only [this, Bool.not_false, if_true]
      rw [get_cons, ih, get_cons]
      by_cases e2 : p.1 = x
      · rw [if_pos e2, if_pos e2, if_neg (by omega)]
      · rw [if_neg e2, if_neg e2]
theorem del_none {l : AL} {k : Int} (h : get l k = none) : del l k = l := by
  unfold del
  rw [List.filter_eq_self]
  intro p hp
  simpa using get_none.1 h p hp
theorem len_del {l : AL} (h : Srt l) (k : Int) : (del l k).length = if (get l k).isSome then l.length - 1 else l.length := by
  induction l with
  | nil => rfl
  | cons p l ih =>
    rw [get_cons]
    unfold del at ih ⊢
    rw [List.filter_cons]
    by_cases e : p.1 = k
    · have hn : get l k = none := get_low fun x hx => by have := h.head x hx; omega
      simp only [e, beq_self_eq_true, Bool.not_true, Bool.false_eq_true, if_false, if_true]
      have := del_none hn
      unfold del at this
      rw [this]
      simp
    · have : (p.1 == k) = false := by simpa using e
      simp only [this, Bool.not_false, if_true, if_neg e, List.length_cons]
      rw [ih h.tail]
      cases hg : get l k with
      | none => simp
      | some v =>
        have : 0 < l.length := by
          cases l with
          | nil => cases hg
          | cons _ _ => simp
        simp
        omega
theorem ext {l m : AL} (hl : Srt l) (hm : Srt m) (h : ∀ k, get l k = get m k) : l = m := by
  induction l generalizing m with
  | nil =>
    cases m with
    | nil => rfl
    | cons p m =>
      have := h p.1
      rw [get_cons, if_pos rfl] at this
      cases this
  | cons a l ih =>
    cases m with
    | nil =>
      have := h a.1
      rw [get_cons, if_pos rfl] at this
      cases this
    | cons b m =>
      have e : a.1 = b.1 := by
        rcases Int.lt_trichotomy a.1 b.1 with c | c | c
        · have := h a.1
          rw [get_cons, if_pos rfl, get_low (l := b :: m) (fun x hx => by
            rcases List.mem_cons.1 hx with rfl | hx
            · exact c
            · have := hm.head x hx; omega)] at this
          cases this
        · exact c
        · have := h b.1
          rw [get_cons b, if_pos rfl, get_low (l := a :: l) (fun x hx => by
            rcases List.mem_cons.1 hx with rfl | hx
            · exact c
            · have := hl.head x hx; omega)] at this
          cases this
      have e2 : a.2 = b.2 := by
        have := h a.1
        rw [get_cons, if_pos rfl, get_cons, if_pos e.symm] at this
        injection this
      have e3 : a = b := by cases a; cases b; simp_all
      subst e3
      rw [ih hl.tail hm.tail]
      intro k
      have hk := h k
      rw [get_cons, get_cons] at hk
      by_cases c : a.1 = k
      · rw [get_low (l := l) (fun x hx => by have := hl.head x hx; omega), get_low (l := m) (fun x hx => by have := hm.head x hx; omega)]
      · rwa [if_neg c, if_neg c] at hk
theorem perm_eq {l m : AL} (h : l.Perm m) (hl : Srt l) (hm : Srt m) : l = m := by
  refine ext hl hm fun k => ?_
  cases hg : get m k with
  | none => exact get_none.2 fun p hp => get_none.1 hg p (h.mem_iff.1 hp)
  | some v => exact get_mem hl (p := (k, v)) (h.mem_iff.2 (mem_of_get hg))
theorem put_get {l : AL} (h : Srt l) {k v : Int} (hg : get l k = some v) : put l k v = l := ext (srt_put h k v) h fun x => by
  rw [get_put h]
  by_cases e : x = k
  · rw [if_pos e, e, hg]
  · rw [if_neg e]
theorem put_put {l : AL} (h : Srt l) (k v v' : Int) : put (put l k v) k v' = put l k v' := ext (srt_put (srt_put h k v) k v') (srt_put h k v') fun x => by
  rw [get_put (srt_put h k v), get_put h, get_put h]
  by_cases e : x = k
  · rw [if_pos e, if_pos e]
  · rw [if_neg e, if_neg e, if_neg e]
theorem del_put {l : AL} (h : Srt l) {k : Int} (v : Int) (hg : get l k = none) : del (put l k v) k = l := ext (srt_del (srt_put h k v) k) h fun x => by
  rw [get_del, get_put h]
  by_cases e : x = k
  · rw [if_pos e, e, hg]
  · rw [if_neg e, if_neg e]
/-- Put by going over the list: each one ahead stays, the new one comes ahead of the first that is not below it, one with its key goes. -/
def over (k v : Int) : AL → Bool → AL
  | [], done => if done then [] else [(k, v)]
  | p :: l, done => (if k ≤ p.1 ∧ done = false then [(k, v)] else []) ++ ((if p.1 = k then [] else [p]) ++ over k v l (done || decide (k ≤ p.1)))
theorem over_done {l : AL} {k v : Int} : over k v l true = del l k := by
  induction l with
  | nil => rfl
  | cons p l ih =>
    unfold over del
    rw [List.filter_cons]
    simp only [Bool.true_eq_false, and_false, if_false, Bool.true_or, List.nil_append]
    rw [ih]
    by_cases e : p.1 = k
    · simp [e, del]
    · have : (p.1 == k) = false := by simpa using e
      simp [e, this, del]
theorem over_put {l : AL} (h : Srt l) (k v : Int) : over k v l false = put l k v := by
  induction l with
  | nil => rfl
  | cons p l ih =>
    unfold over put
    by_cases e : k < p.1
    · rw [if_pos ⟨by omega, rfl⟩, if_neg (by omega), if_pos e, decide_eq_true (by omega : k ≤ p.1), Bool.or_true, over_done, del_none (get_low fun x hx => by have := h.head x hx; omega)]
      rfl
    · rw [if_neg e]
      by_cases e2 : p.1 = k
      · rw [if_pos ⟨by omega, rfl⟩, if_pos e2, if_pos e2, decide_eq_true (by omega : k ≤ p.1), Bool.or_true, over_done, del_none (get_low fun x hx => by have := h.head x hx; omega)]
        rfl
      · rw [if_neg (fun c => by omega), if_neg e2, if_neg e2, decide_eq_false (by omega : ¬ k ≤ p.1)]
        show [] ++ ([p] ++ over k v l false) = _
        rw [ih h.tail]
        rfl
end Go.Proofs.YteddiknlcdbhjaaGreat.Assoc

namespace Go.Proofs.YteddiknlcdbhjaaGreat.MP
end Go.Proofs.YteddiknlcdbhjaaGreat.MP
namespace Go.Proofs.YteddiknlcdbhjaaGreat
open Go.RowKit Assoc

abbrev encK : Enc Int := encI .i64
def mapI (l : AL) : Int → Option Value := fun c => (get l c).map (Value.int .i64)
theorem mapI_some (l : AL) (c : Int) : (mapI l c).isSome = (get l c).isSome := by unfold mapI; cases get l c <;> rfl
theorem blk_map {w : World} {q : IntKind} {m k : Nat} {f : Int → Option Value} {g : Nat} {t : TypeId} {cs : Array Value} (hg : Blk w g t cs) (hm : IMap w q m f k) : g ≠ m := by
  rintro rfl
  obtain ⟨L, c, h, _⟩ := hm
  have := h.blk
  rw [show w.heap[g]? = _ from hg] at this
  cases this
theorem run_len_int {P : Program} {w : World} {q : IntKind} {b n : Nat} {f : Int → Option Value} {mt kt et : TypeId} (hm : P.underlying mt = some (.map kt et)) (h : IMap w q b f n) (ty : TypeId) : (Builtin.len_ #[mt] ty #[.map (some b)]).run P w = .ok (.int .i64 n) w := by
  obtain ⟨L, c, h, _, hn⟩ := h
  simp [Builtin.len_, run_underlying hm, run_getObj_blk h.blk, goInt, Result.andThen, hn]
end Go.Proofs.YteddiknlcdbhjaaGreat

namespace Go.Proofs.YteddiknlcdbhjaaGreat
open Go

/-- Operations that only compute, or read. -/
def lightOp : Op → Bool
  | .move _ | .assign _ | .pick .. | .load .. | .nilCheck _ | .binOp .. | .unOp .. | .fieldAddr .. | .field .. | .indexAddr .. | .index .. | .extract .. | .slice .. | .makeInterface .. | .lookup .. | .typeAssert .. | .convert .. | .makeFunc .. => true
  | .call { callee := .builtin .len, .. } | .call { callee := .builtin .cap, .. } | .call { callee := .builtin .min, .. } | .call { callee := .builtin .max, .. } => true
  | _ => false
/-- A copy that waits for nothing. -/
def isFloat (o : Oper) : Bool := (match o.op with | .move _ => true | _ => false) && o.guard.isNone && o.after.all (fun e => !Region.binds .any e)

/-- One light operation: it yields a value and leaves the world alone. -/
def litStep (r : Result Next) (w : World) (K : Value → Prop) : Prop :=
  match r with
  | .ok (.value v) w' => w' = w ∧ K v
  | _ => False
theorem litStep_value (v : Value) (w' w : World) (K : Value → Prop) : litStep (.ok (.value v) w') w K = (w' = w ∧ K v) := rfl

section
variable (P : Program) (ops : Array Oper) (Q : Exit → Act → World → Prop)
/-- These operations one behind the other. -/
def wpF : List Oper → Act → World → Prop
  | [], a, w => Q .normal a w
  | o :: l, a, w =>
    if Region.wanted o (yielded ops a.tmps) then (if lightOp o.op then litStep ((execOp a.eval o).run P w) w (fun v => wpF l (a.put o.dst v) w) else o.wp P a w (wpF l) Q) else wpF l (a.put o.dst undef) w
/-- The same by their numbers. -/
def wpI : List Nat → Act → World → Prop
  | [], a, w => Q .normal a w
  | i :: l, a, w => match ops[i]? with
    | none => False
    | some o => if Region.wanted o (yielded ops a.tmps) then (if lightOp o.op then litStep ((execOp a.eval o).run P w) w (fun v => wpI l (a.put o.dst v) w) else o.wp P a w (wpI l) Q) else wpI l (a.put o.dst undef) w
def dstOf (i : Nat) : Option Tmp := (ops[i]?).bind (·.dst)
def lookOf (i : Nat) : List Tmp := match ops[i]? with | some o => o.looksAt ops | none => []
def lightAt (i : Nat) : Bool := match ops[i]? with | some o => lightOp o.op | none => false
def depB (j x : Nat) : Bool := match ops[j]? with | some o => o.after.any (fun e => Region.binds .any e && e.on == x) | none => false
def depsBack (j : Nat) : Bool := match ops[j]? with | some o => o.after.all (fun e => !Region.binds .any e || decide (e.on < j)) | none => false
def pairOk (x j : Nat) : Bool :=
  (match dstOf ops x with | some d => (dstOf ops j != some d) && (!(lookOf ops j).contains d || depB ops j x) | none => true) &&
  (match dstOf ops j with | some d => !(lookOf ops x).contains d || depB ops j x | none => true)
/-- What is asked of the operations that are left when the copies are done. -/
def okR (R : List Nat) : Bool :=
  R.all (fun j => decide (j < ops.size) && depsBack ops j) &&
  R.all (fun h => lightAt ops h || R.all fun j => decide (j ≤ h) || R.any fun y => decide (h ≤ y) && depB ops j y) &&
  R.all (fun h => lightAt ops h || R.all fun x => decide (h ≤ x) || R.any fun y => decide (x < y) && decide (y ≤ h) && depB ops y x) &&
  R.all (fun j => !lightAt ops j || R.all fun x => !decide (x < j) || !lightAt ops x || pairOk ops x j)
def floats : List Nat := (List.range ops.size).filter fun i => ((ops[i]?).map isFloat).getD false
def others : List Nat := (List.range ops.size).filter fun i => !((ops[i]?).map isFloat).getD false
def markAll : List Nat → Array Bool → Array Bool
  | [], L => L
  | i :: l, L => markAll l (L.setIfInBounds i true)
def floatsOk : List Nat → Array Bool → Bool
  | [], _ => true
  | i :: l, L => (match ops[i]? with | some o => isFloat o | none => false) && Region.free .any ops L i && (Region.ready .any ops L).contains i && floatsOk l (L.setIfInBounds i true)
def forcedB : Bool := Region.noSelect ops && okR ops (others ops) && floatsOk ops (floats ops) (Array.replicate ops.size false)
end

section
variable {P : Program} {ops : Array Oper} {Q : Exit → Act → World → Prop}

theorem put_get_other {a : Act} {d : Option Tmp} {v : Value} {t : Tmp} (h : d ≠ some t) : (a.put d v).tmps[t]? = a.tmps[t]? := by
  cases d with
  | none => rfl
  | some e => simp only [Act.put]; rw [Array.getElem?_setIfInBounds_ne (fun he => h (by rw [he]))]
theorem put_size (a : Act) (d : Option Tmp) (v : Value) : (a.put d v).tmps.size = a.tmps.size := by
  cases d <;> simp [Act.put]
theorem put_get_same {a b : Act} {t : Tmp} {v : Value} (hs : a.tmps.size = b.tmps.size) : (a.put (some t) v).tmps[t]? = (b.put (some t) v).tmps[t]? := by
  simp only [Act.put, Array.getElem?_setIfInBounds_self]
  simp [hs]
def putX (ops : Array Oper) (V : Nat → Value) (X : Nat → Bool) : List Nat → Act → Act
  | [], a => a
  | i :: l, a => putX ops V X l (if X i then a.put (dstOf ops i) (V i) else a)
theorem putX_get {V : Nat → Value} {X Y : Nat → Bool} {t : Tmp} : ∀ (l : List Nat) (a b : Act), (∀ x ∈ l, dstOf ops x = some t → X x = Y x) → a.tmps[t]? = b.tmps[t]? → a.tmps.size = b.tmps.size → (putX ops V X l a).tmps[t]? = (putX ops V Y l b).tmps[t]?
  | [], _, _, _, h, _ => h
  | i :: l, a, b, hx, h, hs => by
    unfold putX
    refine putX_get l _ _ (fun x hm => hx x (List.mem_cons_of_mem _ hm)) ?_ ?_
    · by_cases hd : dstOf ops i = some t
      · rw [hx i (List.mem_cons_self ..) hd, hd]
        split
        · exact put_get_same hs
        · exact h
      · split <;> split <;> simp only [put_get_other hd, h]
    · split <;> split <;> simp only [put_size, hs]
theorem putX_congr {V V' : Nat → Value} {X Y : Nat → Bool} : ∀ (l : List Nat) (a : Act), (∀ x ∈ l, X x = Y x) → (∀ x ∈ l, V x = V' x) → putX ops V X l a = putX ops V' Y l a
  | [], _, _, _ => rfl
  | i :: l, a, hx, hv => by
    unfold putX
    rw [hx i (List.mem_cons_self ..), hv i (List.mem_cons_self ..)]
    exact putX_congr l _ (fun x hm => hx x (List.mem_cons_of_mem _ hm)) (fun x hm => hv x (List.mem_cons_of_mem _ hm))
theorem putX_none {V : Nat → Value} {X : Nat → Bool} : ∀ (l : List Nat) (a : Act), (∀ x ∈ l, X x = false) → putX ops V X l a = a
  | [], _, _ => rfl
  | i :: l, a, hx => by
    unfold putX
    rw [hx i (List.mem_cons_self ..)]
    exact putX_none l a fun x hm => hx x (List.mem_cons_of_mem _ hm)
theorem putX_out {V : Nat → Value} {X : Nat → Bool} {d : Option Tmp} {v : Value} : ∀ (l : List Nat) (a : Act), (∀ x ∈ l, ∀ t, d = some t → dstOf ops x ≠ some t) → putX ops V X l (a.put d v) = (putX ops V X l a).put d v
  | [], _, _ => rfl
  | i :: l, a, hx => by
    unfold putX
    split
    · rw [Act.put_comm a v (V i) (fun t ht => hx i (List.mem_cons_self ..) t ht)]
      exact putX_out l _ fun x hm => hx x (List.mem_cons_of_mem _ hm)
    · exact putX_out l _ fun x hm => hx x (List.mem_cons_of_mem _ hm)
theorem putX_add {V : Nat → Value} {X : Nat → Bool} {j : Nat} (hX : X j = false) : ∀ (l : List Nat) (a : Act), j ∈ l → l.Nodup → (∀ x ∈ l, x ≠ j → ∀ t, dstOf ops j = some t → dstOf ops x ≠ some t) →
    putX ops V (fun x => X x || x == j) l a = (putX ops V X l a).put (dstOf ops j) (V j)
  | [], _, hm, _, _ => by simp at hm
  | i :: l, a, hm, hn, hd => by
    rw [List.nodup_cons] at hn
    by_cases hij : i = j
    · subst hij
      unfold putX
      rw [hX]
      simp only [beq_self_eq_true, Bool.or_true, if_true, Bool.false_eq_true, if_false]
      rw [putX_congr (V' := V) (Y := X) l _ (fun x hx => by
        have : x ≠ i := fun e => hn.1 (e ▸ hx)
        simp [this]) (fun _ _ => rfl)]
      exact putX_out l a fun x hx t ht => hd x (List.mem_cons_of_mem _ hx) (fun e => hn.1 (e ▸ hx)) t ht
    · have hm' : j ∈ l := by
        rcases List.mem_cons.1 hm with h | h
        · exact absurd h.symm hij
        · exact h
      unfold putX
      rw [show (X i || i == j) = X i by simp [hij]]
      exact putX_add hX l _ hm' hn.2 fun x hx => hd x (List.mem_cons_of_mem _ hx)

/-- In the order of the text these light operations yield these values. -/
def segOK (P : Program) (ops : Array Oper) (w : World) (V : Nat → Value) (seg : List Nat) (a : Act) : Prop := ∀ j ∈ seg, ∀ o, ops[j]? = some o →
  (Region.wanted o (yielded ops (putX ops V (fun x => decide (x < j)) seg a).tmps) = true ∧ (execOp (putX ops V (fun x => decide (x < j)) seg a).eval o).run P w = .ok (.value (V j)) w) ∨
  (Region.wanted o (yielded ops (putX ops V (fun x => decide (x < j)) seg a).tmps) = false ∧ V j = undef)

theorem seg_of {w : World} {l' : List Nat} : ∀ (seg : List Nat) (a : Act), seg.Pairwise (· < ·) → (∀ x ∈ seg, lightAt ops x = true) → wpI P ops Q (seg ++ l') a w →
    ∃ V, segOK P ops w V seg a ∧ wpI P ops Q l' (putX ops V (fun _ => true) seg a) w
  | [], a, _, _, h => ⟨fun _ => undef, fun j hj => by simp at hj, h⟩
  | i :: seg, a, hp, hl, h => by
    rw [List.pairwise_cons] at hp
    have hli := hl i (List.mem_cons_self ..)
    rw [List.cons_append] at h
    unfold wpI at h
    unfold lightAt at hli
    cases hoi : ops[i]? with
    | none => rw [hoi] at h; exact h.elim
    | some o =>
      rw [hoi] at h hli
      simp only at h hli
      have key : ∀ v, wpI P ops Q (seg ++ l') (a.put o.dst v) w → ((Region.wanted o (yielded ops a.tmps) = true ∧ (execOp a.eval o).run P w = .ok (.value v) w) ∨ (Region.wanted o (yielded ops a.tmps) = false ∧ v = undef)) →
          ∃ V, segOK P ops w V (i :: seg) a ∧ wpI P ops Q l' (putX ops V (fun _ => true) (i :: seg) a) w := by
        intro v hv hy
        obtain ⟨V', hok, hw⟩ := seg_of seg (a.put o.dst v) hp.2 (fun x hx => hl x (List.mem_cons_of_mem _ hx)) hv
        have hd : dstOf ops i = o.dst := by simp [dstOf, hoi]
        have hVV : ∀ x ∈ seg, (fun x => if x = i then v else V' x) x = V' x := fun x hx => by
          have : x ≠ i := by have := hp.1 x hx; omega
          simp [this]
        refine ⟨fun x => if x = i then v else V' x, ?_, ?_⟩
        · intro j hj oj hoj
          rcases List.mem_cons.1 hj with rfl | hj
          · have e : putX ops (fun x => if x = j then v else V' x) (fun x => decide (x < j)) (j :: seg) a = a := putX_none _ _ (by
              intro x hx
              rcases List.mem_cons.1 hx with rfl | hx
              · simp
              · have := hp.1 x hx; simp; omega)
            rw [e]
            rw [hoi] at hoj
            cases hoj
            simpa using hy
          · have hij := hp.1 j hj
            have e : putX ops (fun x => if x = i then v else V' x) (fun x => decide (x < j)) (i :: seg) a = putX ops V' (fun x => decide (x < j)) seg (a.put o.dst v) := by
              conv => lhs; unfold putX
              simp only [decide_eq_true hij, if_true, hd]
              exact putX_congr _ _ (fun _ _ => rfl) hVV
            rw [e]
            have := hok j hj oj hoj
            have hne : j ≠ i := by omega
            simpa [hne] using this
        · have e : putX ops (fun x => if x = i then v else V' x) (fun _ => true) (i :: seg) a = putX ops V' (fun _ => true) seg (a.put o.dst v) := by
            conv => lhs; unfold putX
            simp only [if_true, hd]
            exact putX_congr _ _ (fun _ _ => rfl) hVV
          rw [e]
          exact hw
      cases hw : Region.wanted o (yielded ops a.tmps) with
      | true =>
        rw [hw] at h
        simp only [if_true, hli] at h
        unfold litStep at h
        cases hr : (execOp a.eval o).run P w with
        | ok n w' =>
          rw [hr] at h
          cases n with
          | value v =>
            obtain ⟨rfl, h⟩ := h
            exact key v h (.inl ⟨hw, hr⟩)
          | _ => exact h.elim
        | halt x w' => rw [hr] at h; exact h.elim
      | false =>
        rw [hw] at h
        simp only [Bool.false_eq_true, if_false] at h
        exact key undef h (.inr ⟨hw, rfl⟩)
end
end Go.Proofs.YteddiknlcdbhjaaGreat

/-
  concordlaw04.do: a call of the queue and of the document's list.
-/
import Derived.Test.YtainiojlhdbhgaaDoorRefQ2
import Derived.Test.YtainiojlhdbhgaaDoorSortT
import Derived.Deep.RegionHeld3
set_option linter.unusedVariables false
namespace Go.Proofs.YtainiojlhdbhgaaDoor
open Go.RowKit HeapPlain
attribute [local go_sem] litStep_value

/-- The queue and the document's list are of one mind. -/
structure Both (B qb p mb rb : Nat) (w : World) (ts S : List Tm) : Prop where
  q : QSt B qb p mb w ts
  r : ∃ v, Blk w rb 47 #[v] ∧ w.ownsRow 0 29 2 v S.length (flatT S) ∧ ∀ b, v.ownBlock = some b → ¬ ownT p mb w b
  perm : ts.Perm S
  srt : SrtT S
  len : S.length ≤ 200
theorem Both.rst {B qb p mb rb : Nat} {w : World} {ts S : List Tm} (h : Both B qb p mb rb w ts S) : RSt 0 rb w S := by
  obtain ⟨v, h1, h2, _⟩ := h.r
  exact ⟨v, h1, h2⟩
theorem Both.ids {B qb p mb rb : Nat} {w : World} {ts S : List Tm} (h : Both B qb p mb rb w ts S) : (idsT S).Nodup := (h.perm.map (·.id)).nodup_iff.1 h.q.tim.nd
theorem Both.tlen {B qb p mb rb : Nat} {w : World} {ts S : List Tm} (h : Both B qb p mb rb w ts S) : ts.length ≤ 200 := by rw [h.perm.length_eq]; exact h.len
/-- Behind the queue's call, the list is as it was. -/
theorem Both.mid {B qb p mb rb : Nat} {w w1 : World} {ts S : List Tm} (h : Both B qb p mb rb w ts S) (hf : FrT p mb w w1) :
    ∃ v, Blk w1 rb 47 #[v] ∧ w1.ownsRow 0 29 2 v S.length (flatT S) ∧ ∀ b, v.ownBlock = some b → ¬ ownT p mb w1 b := by
  obtain ⟨v, h1, h2, h3⟩ := h.r
  refine ⟨v, h1.updP hf.1 (h.q.off h1 (by decide) (by decide)), own_updP h2 hf.1 h3, fun b hb ho => ?_⟩
  rcases hf.2 b ho with h4 | h4
  · exact h3 b hb h4
  · have := (own_lt h2 hb).2
    omega
theorem QSt.byR {B qb p mb rb : Nat} {w w' : World} {us : List Tm} (hq : QSt B qb p mb w us) (hrb : ¬ ownT p mb w rb) (hqr : qb ≠ rb) (hu : Upd [rb] w w') : QSt B qb p mb w' us ∧ ∀ k, ownT p mb w' k ↔ ownT p mb w k := by
  have u : UpdP (fun k => k = rb) w w' := .of_upd hu (fun y hy => by simp only [List.mem_cons, List.not_mem_nil, or_false] at hy; exact .inl hy)
  have hk := hq.tim.keep u (fun k hk e => hrb (e ▸ hk))
  exact ⟨⟨hq.box.updP u hqr, hk.1, hq.hp, hq.bq⟩, hk.2⟩
/-- Behind both calls. -/
theorem Both.next {B qb p mb rb : Nat} {w w1 w2 : World} {ts S us S' : List Tm} (h : Both B qb p mb rb w ts S) (hq : QSt B qb p mb w1 us) (hf : FrT p mb w w1) (hr : RSt w1.heap.size rb w2 S') (hu : Upd [rb] w1 w2) (hp : us.Perm S') (hs : SrtT S') (hl : S'.length ≤ 200) :
    Both B qb p mb rb w2 us S' := by
  obtain ⟨v, h1, h2, h3⟩ := h.mid hf
  obtain ⟨hq', ho⟩ := hq.byR (hq.off h1 (by decide) (by decide)) (Blk.ne_ hq.box h1 (by decide)) hu
  obtain ⟨v', h4, h5⟩ := hr
  refine ⟨hq', ⟨v', h4, own_base h5 (Nat.zero_le _), fun b hb hob => ?_⟩, hp, hs, hl⟩
  have := (hq.tim.own_lt ((ho b).1 hob)).2
  have := (own_lt h5 hb).1
  omega
theorem Both.same {B qb p mb rb : Nat} {w w1 w2 : World} {ts S : List Tm} (h : Both B qb p mb rb w ts S) (hq : QSt B qb p mb w1 ts) (hf : FrT p mb w w1) (hu : Upd [] w1 w2) : Both B qb p mb rb w2 ts S := by
  obtain ⟨v, h1, h2, h3⟩ := h.mid hf
  obtain ⟨hq', ho⟩ := hq.byR (hq.off h1 (by decide) (by decide)) (Blk.ne_ hq.box h1 (by decide)) (hu.mono (by simp))
  exact ⟨hq', ⟨v, h1.upd hu (by simp), own_upd0 h2 hu, fun b hb hob => h3 b hb ((ho b).1 hob)⟩, h.perm, h.srt, h.len⟩
/-- What is new turns no law's world. -/
theorem Both.upd0 {B qb p mb rb : Nat} {w w' : World} {ts S : List Tm} (h : Both B qb p mb rb w ts S) (hu : Upd [] w w') : Both B qb p mb rb w' ts S := by
  obtain ⟨h1, h2⟩ := h.q.upd0 hu
  exact h.same (w1 := w) h.q (.refl _ _ _) hu
theorem lenT {ts us : List Tm} (h : us.Perm ts) : us.length = ts.length := h.length_eq
theorem ins_len (S : List Tm) (x : Tm) : (insO ltT S x).length = S.length + 1 := by rw [(insO_perm S x).length_eq]; rfl
theorem Both.push {B qb p mb rb : Nat} {w w1 w2 : World} {ts S us : List Tm} {x : Tm} (h : Both B qb p mb rb w ts S) (hq : QSt B qb p mb w1 us) (hf : FrT p mb w w1) (hp : if pushE ts x = 0 then us.Perm (x :: ts) else us = ts)
    (hr : if pushE S x = 0 then RSt w1.heap.size rb w2 (insO ltT S x) else Upd [] w1 w2) (hu : Upd [rb] w1 w2) : ∃ us' S', Both B qb p mb rb w2 us' S' := by
  rw [pushE_perm h.perm] at hp
  by_cases e : pushE S x = 0
  · rw [if_pos e] at hp hr
    have hh : hasT S x.id = false ∧ S.length < 200 := by
      unfold pushE at e
      split at e
      · omega
      · rename_i h1
        split at e
        · omega
        · exact ⟨by simpa using h1, by omega⟩
    exact ⟨us, _, h.next hq hf hr hu (push_perm h.perm hp) (push_srt h.srt hh.1) (by rw [ins_len]; omega)⟩
  · rw [if_neg e] at hp hr
    subst hp
    exact ⟨_, _, h.same hq hf hr⟩
theorem Both.cancel {B qb p mb rb : Nat} {w w1 w2 : World} {ts S us : List Tm} {id : Int} (h : Both B qb p mb rb w ts S) (hq : QSt B qb p mb w1 us) (hf : FrT p mb w w1) (hp : if hasT ts id then (ts.getD (atT ts id) default :: us).Perm ts else us = ts)
    (hr : if hasT S id then RSt w1.heap.size rb w2 (S.eraseIdx ((posS S id).getD 0)) else Upd [] w1 w2) (hu : Upd [rb] w1 w2) : ∃ us' S', Both B qb p mb rb w2 us' S' := by
  rw [hasT_perm h.perm] at hp
  cases hh : hasT S id with
  | true =>
    rw [hh] at hp hr
    obtain ⟨k, hk⟩ : ∃ k, posS S id = some k := Option.isSome_iff_exists.1 (by rw [posS_has, hh])
    rw [hk] at hr
    obtain ⟨h1, h2⟩ := cancel_both h.ids h.perm h.srt hk (by simpa using hp)
    exact ⟨us, _, h.next hq hf (by simpa using hr) hu h1 h2 (by have := List.length_eraseIdx_le S k; have := h.len; omega)⟩
  | false =>
    rw [hh] at hp hr
    have hp' : us = ts := by simpa using hp
    subst hp'
    exact ⟨_, _, h.same hq hf (by simpa using hr)⟩
theorem Both.move {B qb p mb rb : Nat} {w w1 w2 : World} {ts S us : List Tm} {id wn : Int} (h : Both B qb p mb rb w ts S) (hq : QSt B qb p mb w1 us) (hf : FrT p mb w w1) (hp : if hasT ts id then us.Perm (ts.set (atT ts id) ⟨wn, id⟩) else us = ts)
    (hr : if hasT S id then RSt w1.heap.size rb w2 (insO ltT (S.eraseIdx ((posS S id).getD 0)) ⟨wn, id⟩) else Upd [] w1 w2) (hu : Upd [rb] w1 w2) : ∃ us' S', Both B qb p mb rb w2 us' S' := by
  rw [hasT_perm h.perm] at hp
  cases hh : hasT S id with
  | true =>
    rw [hh] at hp hr
    obtain ⟨k, hk⟩ : ∃ k, posS S id = some k := Option.isSome_iff_exists.1 (by rw [posS_has, hh])
    rw [hk] at hr
    obtain ⟨h1, h2⟩ := move_both h.ids h.perm h.srt hk (by simpa using hp)
    refine ⟨us, _, h.next hq hf (by simpa using hr) hu h1 h2 ?_⟩
    obtain ⟨x, hx, _⟩ := posS_some hk
    have hkl := (List.getElem?_eq_some_iff.1 hx).1
    rw [ins_len, List.length_eraseIdx_of_lt hkl]
    have := h.len
    omega
  | false =>
    rw [hh] at hp hr
    have hp' : us = ts := by simpa using hp
    subst hp'
    exact ⟨_, _, h.same hq hf (by simpa using hr)⟩
end Go.Proofs.YtainiojlhdbhgaaDoor

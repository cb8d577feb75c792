/-
  Several queues beside one another: what is done with one leaves the others.
-/
import Derived.Test.YtainiojlhdbhgaaDoorLawQP
set_option linter.unusedVariables false
namespace Go.Proofs.YtainiojlhdbhgaaDoor
open Go.RowKit HeapPlain

def Far (p mb p' mb' : Nat) (w : World) : Prop := ∀ k, ownT p mb w k → ownT p' mb' w k → False
theorem Far.symm {p mb p' mb' : Nat} {w : World} (h : Far p mb p' mb' w) : Far p' mb' p mb w := fun k h1 h2 => h k h2 h1
theorem QSt.other {B B' qb p mb qb' p' mb' : Nat} {w w' : World} {ts us : List Tm} (h : QSt B qb p mb w ts) (h' : QSt B' qb' p' mb' w us) (far : Far p mb p' mb' w) (hf : FrT p' mb' w w') : QSt B qb p mb w' ts ∧ Far p mb p' mb' w' := by
  have hk := h.tim.keep hf.1 (fun k hk ho => far k hk ho)
  refine ⟨⟨h.box.updP hf.1 (h'.off h.box (by decide) (by decide)), hk.1, h.hp, h.bq⟩, fun k h1 h2 => ?_⟩
  have h3 := (hk.2 k).1 h1
  rcases hf.2 k h2 with h4 | h4
  · exact far k h3 h4
  · have := (h.tim.own_lt h3).2
    omega
theorem QSt.base {B B' qb p mb : Nat} {w : World} {ts : List Tm} (h : QSt B qb p mb w ts) (hB : B' ≤ B) : QSt B' qb p mb w ts := by
  obtain ⟨hb, ⟨⟨v, o1, o2⟩, m1, m2, m3, m4, m5⟩, h1, h2⟩ := h
  exact ⟨hb, ⟨⟨v, o1, own_base o2 hB⟩, m1, m2, m3, Nat.le_trans hB m4, Nat.le_trans hB m5⟩, h1, Nat.le_trans hB h2⟩
theorem far_new {B qa pa ma qb pb mb : Nat} {w1 w2 : World} {ts us : List Tm} (h : QSt B qa pa ma w1 ts) (h' : QSt w1.heap.size qb pb mb w2 us) (hu : Upd [] w1 w2) : Far pa ma pb mb w2 := fun k h1 h2 => by
  have h3 := ((h.tim.keep (O := fun _ => False) (.of_upd hu (by simp)) (fun _ _ h => h)).2 k).1 h1
  have := (h.tim.own_lt h3).2
  have := (h'.tim.own_lt h2).1
  omega
/-- Two queues. -/
structure Two (qa pa ma qb pb mb : Nat) (w0 w : World) (ts us : List Tm) : Prop where
  a : QSt w0.heap.size qa pa ma w ts
  b : QSt w0.heap.size qb pb mb w us
  far : Far pa ma pb mb w
  u : Upd [] w0 w
section
variable {qa pa ma qb pb mb qc pc mc : Nat} {w0 w w' : World} {ts us zs ts' : List Tm}
theorem Two.stepA (h : Two qa pa ma qb pb mb w0 w ts us) (q : QSt w0.heap.size qa pa ma w' ts') (f : FrT pa ma w w') : Two qa pa ma qb pb mb w0 w' ts' us :=
  have o := h.b.other h.a h.far.symm f
  ⟨q, o.1, o.2.symm, h.a.rest (Nat.le_refl _) h.u f⟩
theorem Two.stepB (h : Two qa pa ma qb pb mb w0 w ts us) (q : QSt w0.heap.size qb pb mb w' ts') (f : FrT pb mb w w') : Two qa pa ma qb pb mb w0 w' ts ts' :=
  have o := h.a.other h.b h.far f
  ⟨o.1, q, o.2, h.b.rest (Nat.le_refl _) h.u f⟩
theorem Two.upd0 (h : Two qa pa ma qb pb mb w0 w ts us) (hu : Upd [] w w') : Two qa pa ma qb pb mb w0 w' ts us :=
  have o := h.a.upd0 hu
  h.stepA o.1 o.2
/-- Three queues. -/
structure Tri (qa pa ma qb pb mb qc pc mc : Nat) (w0 w : World) (ts us zs : List Tm) : Prop where
  a : QSt w0.heap.size qa pa ma w ts
  b : QSt w0.heap.size qb pb mb w us
  c : QSt w0.heap.size qc pc mc w zs
  ab : Far pa ma pb mb w
  ac : Far pa ma pc mc w
  bc : Far pb mb pc mc w
  u : Upd [] w0 w
theorem far_upd0 {B B' : Nat} (h : QSt B qa pa ma w ts) (h' : QSt B' qb pb mb w us) (far : Far pa ma pb mb w) (hu : Upd [] w w') : Far pa ma pb mb w' := (h.other h' far (h'.upd0 hu).2).2
/-- A third one's step leaves two far from one another. -/
theorem far_keep {B B' : Nat} (h : QSt B qa pa ma w ts) (h' : QSt B' qb pb mb w us) (far : Far pa ma pb mb w) (hc : Far pa ma pc mc w) (hc' : Far pb mb pc mc w) (f : FrT pc mc w w') : Far pa ma pb mb w' := fun k h1 h2 => by
  have k1 := (h.tim.keep f.1 (fun k hk ho => hc k hk ho)).2 k
  have k2 := (h'.tim.keep f.1 (fun k hk ho => hc' k hk ho)).2 k
  exact far k (k1.1 h1) (k2.1 h2)
theorem Tri.stepA (h : Tri qa pa ma qb pb mb qc pc mc w0 w ts us zs) (q : QSt w0.heap.size qa pa ma w' ts') (f : FrT pa ma w w') : Tri qa pa ma qb pb mb qc pc mc w0 w' ts' us zs :=
  have o := h.b.other h.a h.ab.symm f
  have o' := h.c.other h.a h.ac.symm f
  ⟨q, o.1, o'.1, o.2.symm, o'.2.symm, far_keep h.b h.c h.bc h.ab.symm h.ac.symm f, h.a.rest (Nat.le_refl _) h.u f⟩
theorem Tri.stepB (h : Tri qa pa ma qb pb mb qc pc mc w0 w ts us zs) (q : QSt w0.heap.size qb pb mb w' ts') (f : FrT pb mb w w') : Tri qa pa ma qb pb mb qc pc mc w0 w' ts ts' zs :=
  have o := h.a.other h.b h.ab f
  have o' := h.c.other h.b h.bc.symm f
  ⟨o.1, q, o'.1, o.2, far_keep h.a h.c h.ac h.ab h.bc.symm f, o'.2.symm, h.b.rest (Nat.le_refl _) h.u f⟩
theorem Tri.stepC (h : Tri qa pa ma qb pb mb qc pc mc w0 w ts us zs) (q : QSt w0.heap.size qc pc mc w' ts') (f : FrT pc mc w w') : Tri qa pa ma qb pb mb qc pc mc w0 w' ts us ts' :=
  have o := h.a.other h.c h.ac f
  have o' := h.b.other h.c h.bc f
  ⟨o.1, o'.1, q, far_keep h.a h.b h.ab h.ac h.bc f, o.2, o'.2, h.c.rest (Nat.le_refl _) h.u f⟩
theorem Tri.upd0 (h : Tri qa pa ma qb pb mb qc pc mc w0 w ts us zs) (hu : Upd [] w w') : Tri qa pa ma qb pb mb qc pc mc w0 w' ts us zs :=
  have o := h.a.upd0 hu
  h.stepA o.1 o.2
end
/-- Queues with the same timers list the same. -/
theorem sortL_eq {ts us : List Tm} (hn : (idsT ts).Nodup) (h : ts.Perm us) : sortL ts = sortL us :=
  sorted_uniq ltT_tot ((sortL_perm ts).trans (h.trans (sortL_perm us).symm)) (sortL_srt hn) (sortL_srt ((h.map (·.id)).nodup_iff.1 hn))
theorem pushE_new {ts : List Tm} {x : Tm} (h : hasT ts x.id = false) (hl : ts.length < 200) : pushE ts x = 0 := by
  unfold pushE
  rw [h, if_neg (by simp), if_neg (by omega)]
theorem has_take {L : List Tm} (h : (idsT L).Nodup) {k : Nat} {x : Tm} (hx : L[k]? = some x) : hasT (L.take k) x.id = false := by
  rw [hasT_not]
  intro y hy e
  obtain ⟨j, hj, rfl⟩ := List.getElem_of_mem hy
  have hk := (List.getElem?_eq_some_iff.1 hx).1
  rw [List.length_take] at hj
  have := List.pairwise_iff_getElem.1 h j k (by simp [idsT]; omega) (by simpa [idsT] using hk) (by omega)
  rw [idsT_get, idsT_get] at this
  rw [(List.getElem?_eq_some_iff.1 hx).2] at this
  exact this (by rw [← e, List.getElem_take])
end Go.Proofs.YtainiojlhdbhgaaDoor

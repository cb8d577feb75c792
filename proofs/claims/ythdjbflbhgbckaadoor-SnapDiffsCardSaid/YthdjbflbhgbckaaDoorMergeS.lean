/-
  snap.Merge: the state in its midst.
-/
import Derived.Test.YthdjbflbhgbckaaDoorMergeP
set_option linter.unusedVariables false
namespace Go.Proofs.YthdjbflbhgbckaaDoor
open Go.RowKit HeapPlain Stab Snap Mrg
attribute [local go_sem] litStep_value

/-- A snapshot's pointer, or none. -/
def spV (o : Option Nat) : Value := .pointer (o.map (fun b => ⟨b, 0, none⟩))
def encSp : Enc (Option Nat) := ⟨fun o => [spV o], 1, fun _ => rfl, by intro a u hu; simp at hu; subst hu; cases a <;> rfl, by omega⟩
abbrev ptI (s : Sm) : Value := .pointer (some ⟨s.it, 0, none⟩)
section
variable {B p ob : Nat} {w w0 wr w1 w' : World} {xs ys zs : List Sm} {L : List PL} {A : Nat → Nat} {vo : Value} {acc : PL}
theorem ItB.frs {it : Value} {r : PL} {k : Nat} (h : ItB w0 w it r k) (f : FrS B w w') : ItB w0 w' it r k := by
  rcases h with h | ⟨B', k', sb, h1, h2, h3, h4⟩
  · exact .inl h
  · exact .inr ⟨B', k', sb, h1, h2, h3, f.blk h4 (by decide) (by decide)⟩
theorem Ow.frs {v : Value} {r : PL} {B' : Nat} (h : Ow encPr 39 w B' v r) (f : FrS B w w') : Ow encPr 39 w' B' v r := by
  obtain ⟨o1, o2⟩ := h
  refine ⟨o1, ?_⟩
  rcases o2 with o2 | ⟨g, cap, cur, rfl, o2, o3, o4⟩
  · exact .inl o2
  · exact .inr ⟨g, cap, cur, rfl, o2, f.blk o3 (by decide) (by decide), o4⟩
theorem StmSt.off {S : List Nat} (h : StmSt B p w xs) (hu : Upd S w w') (hS : ∀ x ∈ S, x < w.heap.size → ∃ t cs, Blk w x t cs ∧ t ≠ 82 ∧ t ≠ 85) : StmSt B p w' xs := by
  obtain ⟨v, hb, ho⟩ := h.obj
  refine ⟨⟨v, hb.upd hu (fun hm => ?_), ho.upd hu (fun b hb' hm => ?_)⟩, h.small, h.bp⟩
  · obtain ⟨t, cs, h1, h2, h3⟩ := hS p hm hb.lt
    exact Blk.ne_ hb h1 (Ne.symm h2) rfl
  · obtain ⟨t, cs, h1, h2, h3⟩ := hS b hm (own_lt ho hb').2
    exact own_type ho h1 h3 hb'
/-- The streams' iterators, what is out. A n: the place of the n-th one's iterator. -/
structure MB (w wr : World) (L : List PL) (p : Nat) (A : Nat → Nat) (ys : List Sm) : Prop where
  u : Upd [] w wr
  st : StmSt w.heap.size p wr ys
  its : ∀ y ∈ ys, ∃ n : Nat, y.n = n ∧ ItB w wr (ptI y) (L.getD n []) (A n)
  nd : (ys.map (·.it)).Nodup
  nn : (ys.map (·.n)).Nodup
structure MO (w wr : World) (ob : Nat) (vo : Value) (acc : PL) : Prop where
  o : Blk wr ob 55 #[vo, .bool true]
  ow : Ow encPr 39 wr w.heap.size vo acc
  oB : w.heap.size ≤ ob
theorem MB.upd0 (h : MB w wr L p A ys) (hu : Upd [] wr w1) : MB w w1 L p A ys :=
  ⟨h.u.trans hu, h.st.upd0 hu, fun y hy => by obtain ⟨n, e, i⟩ := h.its y hy; exact ⟨n, e, i.upd0 hu⟩, h.nd, h.nn⟩
theorem MO.upd0 (h : MO w wr ob vo acc) (hu : Upd [] wr w1) : MO w w1 ob vo acc := ⟨h.o.upd hu (by simp), h.ow.upd0 hu, h.oB⟩
/-- Blocks of other types, from w on, may turn. -/
theorem MB.off {S : List Nat} (h : MB w wr L p A ys) (hu : Upd S wr w1) (hS : ∀ x ∈ S, w.heap.size ≤ x ∧ ∃ t cs, Blk wr x t cs ∧ t ≠ 82 ∧ t ≠ 85 ∧ t ≠ 108) : MB w w1 L p A ys :=
  ⟨h.u.trans' hu (fun x hx => .inr (hS x hx).1), h.st.off hu (fun x hx _ => by obtain ⟨_, t, cs, h1, h2, h3, _⟩ := hS x hx; exact ⟨t, cs, h1, h2, h3⟩),
   fun y hy => by
    obtain ⟨n, e, i⟩ := h.its y hy
    exact ⟨n, e, i.off' (fun x hx hm => by
      obtain ⟨cs, hc⟩ := i.blk x hx
      obtain ⟨_, t, cs', h1, _, _, h4⟩ := hS x hm
      exact Blk.ne_ hc h1 (Ne.symm h4) rfl) hu⟩, h.nd, h.nn⟩
theorem nodup_ne {α β : Type} {f : α → β} {l : List α} (h : (l.map f).Nodup) {a b : α} (ha : a ∈ l) (hb : b ∈ l) (e : f a = f b) : a = b := by
  induction l with
  | nil => cases ha
  | cons x l ih =>
    rw [List.map_cons, List.nodup_cons] at h
    rcases List.mem_cons.1 ha with rfl | ha'
    · rcases List.mem_cons.1 hb with rfl | hb'
      · rfl
      · exact absurd (List.mem_map.2 ⟨b, hb', e.symm⟩) h.1
    · rcases List.mem_cons.1 hb with rfl | hb'
      · exact absurd (List.mem_map.2 ⟨a, ha', e⟩) h.1
      · exact ih h.2 ha' hb'
def upA (A : Nat → Nat) (n k : Nat) : Nat → Nat := fun m => if m = n then k else A m
/-- One of the iterators goes on. -/
theorem MB.next (h : MB w wr L p A ys) {y : Sm} (hy : y ∈ ys) {n k : Nat} (hn : y.n = n) (hi : ItB w w1 (ptI y) (L.getD n []) k) (hu : Upd (itBlk (ptI y)) wr w1) : MB w w1 L p (upA A n k) ys := by
  have hb : ∃ cs, Blk wr y.it 108 cs := by
    obtain ⟨n', _, i⟩ := h.its y hy
    exact i.blk y.it (by simp [itBlk])
  obtain ⟨cs, hb⟩ := hb
  have hB : w.heap.size ≤ y.it := by
    obtain ⟨n', _, i⟩ := h.its y hy
    exact i.new y.it (by simp [itBlk])
  have hu' : Upd [y.it] wr w1 := hu
  refine ⟨h.u.trans' hu' (fun x hx => .inr (by simp at hx; subst hx; exact hB)), h.st.off hu' (fun x hx _ => by simp at hx; subst hx; exact ⟨_, _, hb, by decide, by decide⟩), fun z hz => ?_, h.nd, h.nn⟩
  obtain ⟨m, e, i⟩ := h.its z hz
  by_cases hm : m = n
  · have : z = y := nodup_ne h.nn hz hy (by rw [e, hn, hm])
    subst this
    subst hm
    exact ⟨m, e, by unfold upA; rw [if_pos rfl]; exact hi⟩
  · refine ⟨m, e, ?_⟩
    unfold upA
    rw [if_neg hm]
    refine i.off' (fun x hx hx' => ?_) hu
    simp [itBlk] at hx hx'
    have : z = y := nodup_ne h.nd hz hy (by rw [← hx, ← hx'])
    subst this
    rw [e] at hn
    omega
theorem MO.next (h : MO w wr ob vo acc) {y : Sm} (hy : ∃ cs, Blk wr y.it 108 cs) (hu : Upd (itBlk (ptI y)) wr w1) : MO w w1 ob vo acc := by
  obtain ⟨cs, hb⟩ := hy
  have hu' : Upd [y.it] wr w1 := hu
  exact ⟨h.o.upd hu' (by simpa using Blk.ne_ h.o hb (by decide)), h.ow.upd hu' (fun b hb' hm => by simp at hm; subst hm; exact own_type h.ow hb (by decide) hb'), h.oB⟩
theorem MB.blk (h : MB w wr L p A ys) {y : Sm} (hy : y ∈ ys) : ∃ cs, Blk wr y.it 108 cs := by
  obtain ⟨n', _, i⟩ := h.its y hy
  exact i.blk y.it (by simp [itBlk])
/-- The heap turns. -/
theorem MB.heap (h : MB w wr L p A ys) (f : FrS w.heap.size wr w1) (hs : StmSt w.heap.size p w1 zs) (hz : ∀ z ∈ zs, ∃ y ∈ ys, z.it = y.it ∧ z.n = y.n) (nd : (zs.map (·.it)).Nodup) (nn : (zs.map (·.n)).Nodup) : MB w w1 L p A zs :=
  ⟨f.rest h.u (Nat.le_refl _), hs, fun z hz' => by
    obtain ⟨y, hy, e1, e2⟩ := hz z hz'
    obtain ⟨n, e, i⟩ := h.its y hy
    refine ⟨n, e2.trans e, ?_⟩
    have := i.frs f
    show ItB w w1 (.pointer (some ⟨z.it, 0, none⟩)) _ _
    rw [e1]
    exact this, nd, nn⟩
theorem MO.frs (h : MO w wr ob vo acc) (f : FrS w.heap.size wr w1) : MO w w1 ob vo acc := ⟨f.blk h.o (by decide) (by decide), h.ow.frs f, h.oB⟩
theorem MB.congr {A' : Nat → Nat} (h : MB w wr L p A ys) (hA : ∀ y ∈ ys, ∀ n : Nat, y.n = n → A n = A' n) : MB w wr L p A' ys :=
  ⟨h.u, h.st, fun y hy => by
    obtain ⟨n, e, i⟩ := h.its y hy
    exact ⟨n, e, by rw [← hA y hy n e]; exact i⟩, h.nd, h.nn⟩
/-- One stream more. -/
theorem MB.push (h : MB w wr L p A ys) {x : Sm} {n : Nat} (hx : x.n = n) (hi : ItB w wr (ptI x) (L.getD n []) (A n)) (h1 : ∀ y ∈ ys, y.it ≠ x.it) (h2 : ∀ y ∈ ys, y.n ≠ x.n) (f : FrS w.heap.size wr w1) (hs : StmSt w.heap.size p w1 zs) (hp : zs.Perm (x :: ys)) : MB w w1 L p A zs := by
  refine ⟨f.rest h.u (Nat.le_refl _), hs, fun z hz => ?_, (hp.map _).nodup_iff.2 ?_, (hp.map _).nodup_iff.2 ?_⟩
  · rcases List.mem_cons.1 (hp.mem_iff.1 hz) with rfl | hz
    · exact ⟨n, hx, hi.frs f⟩
    · obtain ⟨m, e, i⟩ := h.its z hz
      exact ⟨m, e, i.frs f⟩
  · rw [List.map_cons, List.nodup_cons]
    exact ⟨fun hm => by obtain ⟨y, hy, e⟩ := List.mem_map.1 hm; exact h1 y hy e, h.nd⟩
  · rw [List.map_cons, List.nodup_cons]
    exact ⟨fun hm => by obtain ⟨y, hy, e⟩ := List.mem_map.1 hm; exact h2 y hy e, h.nn⟩
/-- One pair more is out. -/
theorem MO.push {vo' : Value} {acc' : PL} (h : MO w wr ob vo acc) (ho : Ow encPr 39 w1 w.heap.size vo' acc') (hu : Upd vo.ownBlock.toList wr w1) : MO w (w1.setCell ⟨ob, 0, none⟩ vo') ob vo' acc' := by
  have hb : Blk w1 ob 55 #[vo, .bool true] := h.o.upd hu (fun hm => own_type h.ow h.o (by decide) (by simpa using hm))
  exact ⟨hb.set_eq rfl, ho.upd ((Upd.refl [ob] w1).setCell (.inl (by simp)) _) (fun b hb' hm => by simp at hm; subst hm; exact own_type ho hb (by decide) hb'), h.oB⟩
theorem MB.out {vo' : Value} (h : MB w wr L p A ys) (h' : MO w wr ob vo acc) (hu : Upd vo.ownBlock.toList wr w1) : MB w (w1.setCell ⟨ob, 0, none⟩ vo') L p A ys := by
  have hb : Blk w1 ob 55 #[vo, .bool true] := h'.o.upd hu (fun hm => own_type h'.ow h'.o (by decide) (by simpa using hm))
  refine (h.off hu (fun x hx => ?_)).off ((Upd.refl [ob] w1).setCell (.inl (by simp)) _) (fun x hx => ?_)
  · have hx' : vo.ownBlock = some x := by simpa using hx
    refine ⟨(own_lt h'.ow hx').1, ?_⟩
    rcases h'.ow.2 with ⟨e, _⟩ | ⟨g, cap, cur, e, hBg, hg, _⟩
    · rw [e] at hx'; simp [Value.ownBlock] at hx'
    · rw [e] at hx'
      simp only [Value.ownBlock, Option.some.injEq] at hx'
      subst hx'
      exact ⟨_, _, hg, by decide, by decide, by decide⟩
  · simp at hx
    subst hx
    exact ⟨h'.oB, _, _, hb, by decide, by decide, by decide⟩
theorem srt_len {M X : PL} (h : Assoc.Srt M) (hx : ∀ q ∈ M, ∃ x ∈ X, x.1 = q.1) : M.length ≤ X.length := by
  have h1 : (M.map (·.1)).Nodup := by
    unfold List.Nodup
    rw [List.pairwise_map]
    exact h.imp (fun h => by omega)
  have h2 : ∀ k ∈ M.map (·.1), k ∈ X.map (·.1) := by
    intro k hk
    obtain ⟨q, hq, rfl⟩ := List.mem_map.1 hk
    obtain ⟨x, hx1, hx2⟩ := hx q hq
    exact List.mem_map.2 ⟨x, hx1, hx2⟩
  have := List.Nodup.length_le_of_subset h1 h2
  rwa [List.length_map, List.length_map] at this
theorem MInv.len {T R : Nat → PL} (h : MInv L T R ys acc) : acc.length ≤ L.flatten.length := by
  refine srt_len h.asrt (fun q hq => ?_)
  have h1 := Assoc.get_mem h.asrt hq
  rw [h.aget] at h1
  obtain ⟨n, hn, hm⟩ := mem_told.1 (Assoc.mem_of_get h1)
  refine ⟨_, List.mem_flatten.2 ⟨L.getD n [], ?_, ?_⟩, rfl⟩
  · rw [List.getD_eq_getElem?_getD, List.getElem?_eq_getElem hn]; exact List.getElem_mem hn
  · rw [h.cut n]; exact List.mem_append_left _ hm
end
end Go.Proofs.YthdjbflbhgbckaaDoor

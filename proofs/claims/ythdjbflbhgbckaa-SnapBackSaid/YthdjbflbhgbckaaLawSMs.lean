/-
  SnapMerges: the snapshots, the lists, side by side.
-/
import Derived.Test.YthdjbflbhgbckaaAlive27
import Derived.Test.YthdjbflbhgbckaaRef27b
set_option linter.unusedVariables false
namespace Go.Proofs.Ythdjbflbhgbckaa
open Go.RowKit Stab Snap Mrg
attribute [local go_sem] litStep_value

theorem elem_sp : Elem Try.prog 24 26 1 8 := .mk' (z := ((Try.prog.info? 26).bind (·.zero)).getD undef) Try.underlying24 (by kernel_rfl) (by kernel_rfl) (by omega)
theorem elem_prs : Elem Try.prog 22 25 1 24 := .mk' (z := ((Try.prog.info? 25).bind (·.zero)).getD undef) Try.underlying22 (by kernel_rfl) (by kernel_rfl) (by omega)
theorem SnapIs.apart {B sb : Nat} {r : PL} {w w' : World} {S : List Nat} (h : SnapIs B sb w r) (hu : Upd S w w') (hS : ∀ x ∈ S, ∃ t cs, Blk w x t cs ∧ t ≠ 68 ∧ t ≠ 42) : SnapIs B sb w' r := by
  obtain ⟨A, c, b, o⟩ := h.obj
  refine ⟨h.srt, h.small, h.b, A, c, b.upd hu (fun hm => ?_), o.upd hu (fun x hx hm => ?_)⟩
  · obtain ⟨t, cs, h1, h2, _⟩ := hS sb hm
    exact Blk.ne_ b h1 (Ne.symm h2) rfl
  · obtain ⟨t, cs, h1, _, h3⟩ := hS x hm
    exact own_type o h1 h3 hx
theorem own_blk {w : World} {B n s : Nat} {e : TypeId} {v : Value} {xs : List Value} (h : w.ownsRow B e s v n xs) {b : Nat} (hb : b ∈ v.ownBlock.toList) : B ≤ b ∧ ∃ cs, Blk w b e cs := by
  have hb' : v.ownBlock = some b := by simpa using hb
  rcases h.2 with ⟨e, _⟩ | ⟨g, cap, cur, e, hB, hg, _⟩
  · rw [e] at hb'; simp [Value.ownBlock] at hb'
  · rw [e] at hb'
    simp only [Value.ownBlock, Option.some.injEq] at hb'
    subst hb'
    exact ⟨hB, _, hg⟩
theorem own_off {w w' : World} {B n s : Nat} {e t : TypeId} {v : Value} {xs : List Value} {S : List Nat} (h : w.ownsRow B e s v n xs) (hu : Upd S w w') (hS : ∀ x ∈ S, ∃ cs, Blk w x t cs) (ht : t ≠ e) : w'.ownsRow B e s v n xs :=
  own_upd h hu (fun b hb hm => by obtain ⟨cs, hc⟩ := hS b hm; exact own_type h hc ht hb)
/-- The snapshots so far, the lists so far; rs: what they have. -/
structure SMs (w wr : World) (vS vL : Value) (os : List (Option Nat)) (us : List Value) (rs : List PL) : Prop where
  u : Upd [] w wr
  so : Ow encSp 26 wr w.heap.size vS os
  lo : wr.ownsRow w.heap.size 25 1 vL us.length us
  snaps : ∀ i, i < os.length → ∃ sb, os[i]? = some (some sb) ∧ SnapIs w.heap.size sb wr (rs.getD i [])
  lists : ∀ i, i < us.length → Ow encPr 42 wr w.heap.size (us.getD i undef) (rs.getD i [])
section
variable {w wr w1 : World} {vS vL v' : Value} {os : List (Option Nat)} {us : List Value} {rs : List PL}
theorem SMs.upd0 (h : SMs w wr vS vL os us rs) (hu : Upd [] wr w1) : SMs w w1 vS vL os us rs :=
  ⟨h.u.trans hu, h.so.upd0 hu, own_upd0 h.lo hu, fun i hi => by obtain ⟨sb, e, s⟩ := h.snaps i hi; exact ⟨sb, e, s.upd0 hu⟩, fun i hi => (h.lists i hi).upd0 hu⟩
theorem SMs.more (h : SMs w wr vS vL os us rs) (r : PL) (ho : os.length ≤ rs.length) (hu : us.length ≤ rs.length) : SMs w wr vS vL os us (rs ++ [r]) := by
  have e : ∀ i, i < rs.length → (rs ++ [r]).getD i [] = rs.getD i [] := fun i hi => by rw [List.getD_eq_getElem?_getD, List.getD_eq_getElem?_getD, List.getElem?_append_left hi]
  exact ⟨h.u, h.so, h.lo, fun i hi => by obtain ⟨sb, e1, s⟩ := h.snaps i hi; exact ⟨sb, e1, by rw [e i (by omega)]; exact s⟩, fun i hi => by rw [e i (by omega)]; exact h.lists i hi⟩
theorem SMs.pushS (h : SMs w wr vS vL os us rs) {sb : Nat} (ho : Ow encSp 26 w1 w.heap.size v' (os ++ [some sb])) (hu : Upd vS.ownBlock.toList wr w1) (hs : SnapIs w.heap.size sb wr (rs.getD os.length [])) : SMs w w1 v' vL (os ++ [some sb]) us rs := by
  have hb : ∀ x ∈ vS.ownBlock.toList, ∃ cs, Blk wr x 26 cs := fun x hx => (own_blk h.so hx).2
  have hS : ∀ x ∈ vS.ownBlock.toList, ∃ t cs, Blk wr x t cs ∧ t ≠ 68 ∧ t ≠ 42 := fun x hx => by obtain ⟨cs, hc⟩ := hb x hx; exact ⟨_, cs, hc, by decide, by decide⟩
  refine ⟨h.u.trans' hu (fun x hx => .inr (own_blk h.so hx).1), ho, own_off h.lo hu hb (by decide), fun i hi => ?_, fun i hi => own_off (h.lists i hi) hu hb (by decide)⟩
  rcases Nat.lt_or_ge i os.length with hi' | hi'
  · obtain ⟨b, e, s⟩ := h.snaps i hi'
    exact ⟨b, by rw [List.getElem?_append_left hi']; exact e, s.apart hu hS⟩
  · have : i = os.length := by simp at hi; omega
    subst this
    exact ⟨sb, by simp, hs.apart hu hS⟩
theorem SMs.pushL (h : SMs w wr vS vL os us rs) {u : Value} (ho : w1.ownsRow w.heap.size 25 1 v' (us.length + 1) (us ++ [u])) (hu : Upd vL.ownBlock.toList wr w1) (hs : Ow encPr 42 wr w.heap.size u (rs.getD us.length [])) : SMs w w1 vS v' os (us ++ [u]) rs := by
  have hb : ∀ x ∈ vL.ownBlock.toList, ∃ cs, Blk wr x 25 cs := fun x hx => (own_blk h.lo hx).2
  have hS : ∀ x ∈ vL.ownBlock.toList, ∃ t cs, Blk wr x t cs ∧ t ≠ 68 ∧ t ≠ 42 := fun x hx => by obtain ⟨cs, hc⟩ := hb x hx; exact ⟨_, cs, hc, by decide, by decide⟩
  refine ⟨h.u.trans' hu (fun x hx => .inr (own_blk h.lo hx).1), own_off h.so hu hb (by decide), by rw [List.length_append]; exact ho, fun i hi => ?_, fun i hi => ?_⟩
  · obtain ⟨b, e, s⟩ := h.snaps i hi
    exact ⟨b, e, s.apart hu hS⟩
  · rcases Nat.lt_or_ge i us.length with hi' | hi'
    · rw [List.getD_eq_getElem?_getD, List.getElem?_append_left hi', ← List.getD_eq_getElem?_getD]
      exact own_off (h.lists i hi') hu hb (by decide)
    · have : i = us.length := by simp at hi; omega
      subst this
      rw [List.getD_eq_getElem?_getD, List.getElem?_append_right (Nat.le_refl _), Nat.sub_self]
      exact own_off hs hu hb (by decide)
theorem SMs.snapV (h : SMs w wr vS vL os us rs) {i : Nat} (hi : i < os.length) : SnapV wr (spV (os.getD i none)) (rs.getD i []) := by
  obtain ⟨sb, e, s⟩ := h.snaps i hi
  rw [List.getD_eq_getElem?_getD, e]
  exact .of s
end
/-- A snapshot of these lists, merged; two in a literal. -/
def snapSpec (H : Nat) (X : List PL) : Spec := ⟨fun _ => [], fun v w => ∃ sb M, v = .pointer (some ⟨sb, 0, none⟩) ∧ Uni X M ∧ SnapIs H sb w M, fun v => ∃ sb, v = .pointer (some ⟨sb, 0, none⟩)⟩
def litSnap (H : Nat) (X Y : List PL) : Spec := ⟨fun _ => [], fun v w => ∃ g a b M1 M2, v = .slice (some ⟨g, 0, none⟩) 2 2 ∧ Blk w g 26 #[.pointer (some ⟨a, 0, none⟩), .pointer (some ⟨b, 0, none⟩)] ∧ Uni X M1 ∧ SnapIs H a w M1 ∧ Uni Y M2 ∧ SnapIs H b w M2, fun v => ∃ g, v = .slice (some ⟨g, 0, none⟩) 2 2⟩
theorem lasts_snapSpec (w0 : World) (H : Nat) (X : List PL) : Lasts0 w0 (snapSpec H X) :=
  ⟨fun v w w' _ ⟨m, M, h1, h2, h3⟩ hu => ⟨m, M, h1, h2, h3.upd0 hu⟩, ⟨_, 0, rfl⟩, fun _ _ ⟨m, _, h, _⟩ => ⟨m, h⟩⟩
theorem lasts_litSnap (w0 : World) (H : Nat) (X Y : List PL) : Lasts0 w0 (litSnap H X Y) :=
  ⟨fun v w w' _ ⟨g, a, b, M1, M2, h1, h2, h3, h4, h5, h6⟩ hu => ⟨g, a, b, M1, M2, h1, h2.upd hu (by simp), h3, h4.upd0 hu, h5, h6.upd0 hu⟩, ⟨_, 0, rfl⟩, fun _ _ ⟨g, _, _, _, _, h, _⟩ => ⟨g, h⟩⟩
/-- What Of tells of a list that is good, or not. -/
theorem of_cases {l r : PL} {f a : Int} {w w' : World} {e : Ending} (h : OfPost l w e w') : Upd [] w w' ∧ ((∃ g k, e = .returned (.tuple #[.pointer none, .iface 71 (.pointer (some ⟨g, 0, none⟩))]) ∧ ErrV w' (.iface 71 (.pointer (some ⟨g, 0, none⟩))) 7 k ∧ OfR l [] 7 k) ∨
   (∃ sb r, e = .returned (.tuple #[.pointer (some ⟨sb, 0, none⟩), .nilIface]) ∧ SnapIs w.heap.size sb w' r ∧ OfR l r 0 0)) := by
  obtain ⟨hu, ⟨g, k, h1, h2, h3⟩ | h⟩ := h
  · exact ⟨hu, .inl ⟨g, k, h1, .fault h2 (by omega) (by omega), h3⟩⟩
  · exact ⟨hu, .inr h⟩
end Go.Proofs.Ythdjbflbhgbckaa

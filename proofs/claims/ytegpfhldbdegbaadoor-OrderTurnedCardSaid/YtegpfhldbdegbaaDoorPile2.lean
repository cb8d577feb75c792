/-
  order.pile as a heap: its state, its methods by contracts over that state.
-/
import Derived.Test.YtegpfhldbdegbaaDoorPile
import Derived.Test.YtegpfhldbdegbaaDoorOwn
set_option linter.unusedVariables false
namespace Go.Proofs.YtegpfhldbdegbaaDoor
open Go.RowKit HeapPlain

/-- The pile at p, its box of the list at g, over a world w0 that it leaves alone: its slice is v, with these places. -/
structure PileV (w0 : World) (p g : Nat) (A : Option Addr) (n c : Nat) (L : List Att) (v : Value) (w : World) (xs : List Nat) : Prop where
  pb : Blk w p 42 #[v, lessF g]
  own : w.ownsRow w0.heap.size 3 1 v xs.length (ints xs)
  gb : Blk w g 22 #[.slice A n c]
  bel : Below w0.heap.size w0 w
  pn : w0.heap.size ≤ p
  gn : w0.heap.size ≤ g
  small : xs.length ≤ 1000
  all : ∀ x ∈ xs, x < L.length
  atts : Atts w0 A L
  len : L.length = n
  base : w0.heap.size ≤ w.heap.size

section
variable {w0 w w' : World} {p g : Nat} {A : Option Addr} {n c : Nat} {L : List Att} {v : Value} {xs : List Nat}

theorem ints_get (xs : List Nat) (j : Nat) (h : j < xs.length) : (ints xs)[j]? = some (.int .i64 (xs.getD j default : Nat)) := by
  simp [ints, List.getElem?_eq_getElem h]
theorem ints_set (xs : List Nat) (j x : Nat) : (ints xs).set j (.int .i64 (x : Nat)) = ints (xs.set j x) := by
  simp [ints, List.map_set]
theorem ints_len (xs : List Nat) : (ints xs).length = xs.length := by simp [ints]
theorem PileV.upd (h : PileV w0 p g A n c L v w xs) {S : List Nat} (hu : Upd S w w') (hS : ∀ x ∈ S, w0.heap.size ≤ x ∧ x ≠ p ∧ x ≠ g ∧ v.ownBlock ≠ some x) : PileV w0 p g A n c L v w' xs :=
  { pb := h.pb.upd hu fun hm => (hS _ hm).2.1 rfl
    own := own_upd h.own hu fun b hb hm => (hS _ hm).2.2.2 hb
    gb := h.gb.upd hu fun hm => (hS _ hm).2.2.1 rfl
    bel := h.bel.trans (hu.below h.base (fun x hx => (hS x hx).1))
    pn := h.pn, gn := h.gn, small := h.small, all := h.all, atts := h.atts, len := h.len
    base := Nat.le_trans h.base hu.size }
theorem PileV.upd0 (h : PileV w0 p g A n c L v w xs) (hu : Upd [] w w') : PileV w0 p g A n c L v w' xs := h.upd hu (by simp)
theorem PileV.at_w (h : PileV w0 p g A n c L v w xs) : Atts w A L := by
  intro k x hk
  obtain ⟨ad, e, c1, c2, c3, c4, c5, c6, hl⟩ := h.atts k x hk
  exact ⟨ad, e, (h.bel.cell hl).trans c1, (h.bel.cell (p := ⟨_, _, none⟩) hl).trans c2, (h.bel.cell (p := ⟨_, _, none⟩) hl).trans c3, (h.bel.cell (p := ⟨_, _, none⟩) hl).trans c4,
    (h.bel.cell (p := ⟨_, _, none⟩) hl).trans c5, (h.bel.cell (p := ⟨_, _, none⟩) hl).trans c6, Nat.lt_of_lt_of_le hl h.base⟩
theorem PileV.pg (h : PileV w0 p g A n c L v w xs) : p ≠ g := h.pb.ne_ h.gb (by decide)
theorem PileV.own_p (h : PileV w0 p g A n c L v w xs) : v.ownBlock ≠ some p := own_type h.own h.pb (by decide)
theorem PileV.own_g (h : PileV w0 p g A n c L v w xs) : v.ownBlock ≠ some g := own_type h.own h.gb (by decide)

theorem PileV.len_ok (h : PileV w0 p g A n c L v w xs) : Calls Tryd.prog 22 #[.pointer (some ⟨p, 0, none⟩)] w fun e w' => e = .returned (.int .i64 xs.length) ∧ PileV w0 p g A n c L v w' xs ∧ Upd [] w w' := by
  have hv : ∃ a c', v = .slice a xs.length c' := by
    rcases h.own.2 with ⟨h2, h3⟩ | ⟨g', cap', cur, h1, _⟩
    · exact ⟨none, 0, by rw [h2, h3]⟩
    · exact ⟨_, _, h1⟩
  have H := Lib.hid h
  obtain ⟨a, c', rfl⟩ := hv
  have f0 : w.cell? ⟨p, 0, none⟩ = some (.slice a xs.length c') := by rw [h.pb.cell]; rfl
  clear h
  obtain ⟨m, hm⟩ : ∃ m, m = xs.length := ⟨_, rfl⟩
  rw [← hm] at f0 ⊢
  have HM := Lib.hid hm
  clear hm
  go_enter Tryd.func22, Tryd.ntmps22
  go_wp2_with fail
  go_ret
  refine ⟨rfl, ?_, .refl _ _⟩
  rw [HM.out]
  exact H.out

theorem PileV.less_ok (h : PileV w0 p g A n c L v w xs) (i j : Nat) (hi : i < xs.length) (hj : j < xs.length) :
    Calls Tryd.prog 59 #[.pointer (some ⟨p, 0, none⟩), .int .i64 i, .int .i64 j] w fun e w' => e = .returned (.bool (ahd L (xs.getD i default) (xs.getD j default))) ∧ PileV w0 p g A n c L v w' xs ∧ Upd [] w w' := by
  obtain ⟨a, cap, cur, rfl, ha, hb, _⟩ := own_form h.own (by omega)
  have hx : xs.getD i default ∈ xs := by simp [List.getElem?_eq_getElem hi]
  have hy : xs.getD j default ∈ xs := by simp [List.getElem?_eq_getElem hj]
  refine (pile_less p g a cap xs.length n c A L w i j (xs.getD i default) (xs.getD j default) (by omega) (by omega) h.pb (own_cell h.own i _ (ints_get xs i hi)) (own_cell h.own j _ (ints_get xs j hj))
    (by rw [h.gb.cell]; rfl) h.gb.lt hb.lt h.at_w h.len (h.len ▸ h.all _ hx) (h.len ▸ h.all _ hy)).mono ?_
  rintro e w1 ⟨rfl, u1⟩
  exact ⟨rfl, h.upd0 u1, u1⟩

theorem PileV.swap_ok (h : PileV w0 p g A n c L v w xs) (i j : Nat) (hi : i < xs.length) (hj : j < xs.length) :
    Calls Tryd.prog 62 #[.pointer (some ⟨p, 0, none⟩), .int .i64 i, .int .i64 j] w fun e w' => e = .returned (.tuple #[]) ∧ PileV w0 p g A n c L v w' (swp xs i j) ∧ Upd v.ownBlock.toList w w' := by
  have hp := h.own_p
  have hg := h.own_g
  obtain ⟨a, cap, cur, rfl, ha, hb, _⟩ := own_form h.own (by omega)
  have hap : a ≠ p := fun e => hp (by rw [e]; rfl)
  have hag : a ≠ g := fun e => hg (by rw [e]; rfl)
  refine (pile_swap p g a cap xs.length w i j (xs.getD i default) (xs.getD j default) (by omega) (by omega) hap h.pb (own_cell h.own i _ (ints_get xs i hi)) (own_cell h.own j _ (ints_get xs j hj)) (own_frozen h.own _) (own_frozen h.own _)).mono ?_
  rintro e w1 ⟨rfl, W, rfl, rfl⟩
  have u : Upd [a] w ((w.setCell ⟨a, i, none⟩ (.int .i64 (xs.getD j default : Nat))).setCell ⟨a, j, none⟩ (.int .i64 (xs.getD i default : Nat))).drew := (((Upd.refl _ w).setCell (.inl (by simp)) _).setCell (.inl (by simp)) _).drew
  refine ⟨rfl, ?_, by simpa [Value.ownBlock] using u⟩
  have o := own_set (own_set h.own i (.int .i64 (xs.getD j default : Nat))) j (.int .i64 (xs.getD i default : Nat))
  rw [ints_set, ints_set] at o
  exact { pb := h.pb.upd u (by simp; exact fun e => hap e.symm)
          own := by rw [swp_length]; exact o
          gb := h.gb.upd u (by simp; exact fun e => hag e.symm)
          bel := h.bel.trans (u.below h.base (by simpa using ha))
          pn := h.pn, gn := h.gn, small := by rw [swp_length]; exact h.small
          all := fun x hx => h.all x ((swp_perm xs i j hi hj).mem_iff.1 hx)
          atts := h.atts, len := h.len, base := Nat.le_trans h.base u.size }
end
end Go.Proofs.YtegpfhldbdegbaaDoor

/-
 order.pile: its methods by contracts.
 order.pile as a heap: its state, its methods by contracts over that state.
 order.pile: Push, Pop, by contracts.
 Sorted lists, plainly: inserting by a strict total order; of one set of things there is one sorted list. No Go in sight.
 order.Sort: the places, sorted.
 concordref12.Ahead by its contract.
 concordref12.Sort: the places, sorted.
 order.Within, concordref12.Within: how many are ahead.
-/
import Derived.Test.YtmjnmpifibemjaaGreatDoorJoB4
import Derived.Deep.AppendLies
import Derived.BigRegion
import Derived.Deep.RegionHeld3
import Derived.StillTailTactics
import Derived.Test.YtmjnmpifibemjaaGreatDoorJoB0
import Derived.Deep.DrawnRows
set_option linter.unusedVariables false
namespace Go.Proofs.YtmjnmpifibemjaaGreatDoor
open Go.RowKit HeapPlain

/-- The value of the pile's closure. -/
def lessF (g : Nat) : Value := .func (.func 52) #[] #[.pointer (some ⟨g, 0, none⟩)]
/-- Places as Go's ints. -/
def ints (xs : List Nat) : List Value := xs.map fun (x : Nat) => Value.int .i64 x

theorem less_clo (A : Option Addr) (n c : Nat) (L : List Att) (w : World) (g : Nat) (hg : w.cell? ⟨g, 0, none⟩ = some (.slice A n c)) (h : Atts w A L) (hn : L.length = n) (i j : Nat) (hi : i < n) (hj : j < n) :
 Calls Tryz.prog 52 #[.int .i64 i, .int .i64 j, .pointer (some ⟨g, 0, none⟩)] w fun e w' => e = .returned (.bool (ahd L i j)) ∧ Upd [] w w' := by
 have HA := Lib.hid h
 have HN := Lib.hid hn
 have HI := Lib.hid hi
 have HJ := Lib.hid hj
 clear h hn hi hj
 go_enter Tryz.func52, Tryz.ntmps52
 go_wp2_with fail
 refine (ahead_at A n c L _ HA.out HN.out i j HI.out HJ.out).mono ?_; rintro e w1 ⟨rfl, u1⟩
 have U1 := Lib.hid u1
 clear u1
 go_wp2_with fail
 go_ret
 exact ⟨rfl, U1.out⟩

theorem pile_less (p g : Nat) (a : Nat) (c n nn cc : Nat) (A : Option Addr) (L : List Att) (w : World) (i j x y : Nat) (hi : (i : Int) < n) (hj : (j : Int) < n) (h : Blk w p 125 #[.slice (some ⟨a, 0, none⟩) n c, lessF g]) (hx : w.cell? ⟨a, i, none⟩ = some (.int .i64 x)) (hy : w.cell? ⟨a, j, none⟩ = some (.int .i64 y))
 (hg : w.cell? ⟨g, 0, none⟩ = some (.slice A nn cc)) (hgl : g < w.heap.size) (hal : a < w.heap.size) (hA : Atts w A L) (hn : L.length = nn) (hxn : x < nn) (hyn : y < nn) :
 Calls Tryz.prog 172 #[.pointer (some ⟨p, 0, none⟩), .int .i64 i, .int .i64 j] w fun e w' => e = .returned (.bool (ahd L x y)) ∧ Upd [] w w' := by
 have f0 : w.cell? ⟨p, 0, none⟩ = some (.slice (some ⟨a, 0, none⟩) n c) := by rw [h.cell]; rfl
 have f1 : w.cell? ⟨p, 1, none⟩ = some (.func (.func 52) #[] #[.pointer (some ⟨g, 0, none⟩)]) := by rw [h.cell]; rfl
 have HW := Lib.hid (show ∀ W, Upd [] w W → W.cell? ⟨g, 0, none⟩ = some (.slice A nn cc) ∧ Atts W A L from fun W hu => ⟨(upd_cell hu (p := ⟨g, 0, none⟩) hgl).trans hg, hA.upd hu⟩)
 have HN := Lib.hid hn
 have HX := Lib.hid hxn
 have HY := Lib.hid hyn
 have V0 := Lib.hid ((Upd.refl [] w).drew)
 have KP := Lib.hid (show ∀ W, Upd [] w W → W.cell? ⟨p, 0, none⟩ = some (.slice (some ⟨a, 0, none⟩) n c) ∧ W.cell? ⟨p, 1, none⟩ = some (.func (.func 52) #[] #[.pointer (some ⟨g, 0, none⟩)]) ∧ W.cell? ⟨a, i, none⟩ = some (.int .i64 x) ∧ W.cell? ⟨a, j, none⟩ = some (.int .i64 y) from fun W hu =>
  ⟨(upd_cell hu (p := ⟨p, 0, none⟩) h.lt).trans f0, (upd_cell hu (p := ⟨p, 1, none⟩) h.lt).trans f1, (upd_cell hu (p := ⟨a, i, none⟩) hal).trans hx, (upd_cell hu (p := ⟨a, j, none⟩) hal).trans hy⟩)
 have hi0 : (0 : Int) ≤ i := by omega
 have hj0 : (0 : Int) ≤ j := by omega
 clear h hA hn hg hxn hyn hgl hal
 go_enter Tryz.func172, Tryz.ntmps172
 go_wp2_with fail
 go_region_held3 (fun W => W.cell? ⟨p, 0, none⟩ = some (.slice (some ⟨a, 0, none⟩) n c) ∧ W.cell? ⟨p, 1, none⟩ = some (.func (.func 52) #[] #[.pointer (some ⟨g, 0, none⟩)]) ∧ W.cell? ⟨a, i, none⟩ = some (.int .i64 x) ∧ W.cell? ⟨a, j, none⟩ = some (.int .i64 y)) (first | exact KP.out _ (V0.out.trans u1) | go_keep) (first | (go_at_call 52; refine (less_clo A nn cc L _ g (HW.out _ V0.out).1 (HW.out _ V0.out).2 HN.out x y HX.out HY.out).mono ?_; rintro e w1 ⟨rfl, u1⟩))
 go_wp2_with fail
 go_ret
 exact ⟨rfl, V0.out.trans u1⟩

set_option maxHeartbeats 2000000 in
theorem pile_swap (p g : Nat) (a : Nat) (c n : Nat) (w : World) (i j : Nat) (x y : Int) (hi : (i : Int) < n) (hj : (j : Int) < n) (hap : a ≠ p) (h : Blk w p 125 #[.slice (some ⟨a, 0, none⟩) n c, lessF g]) (hx : w.cell? ⟨a, i, none⟩ = some (.int .i64 x)) (hy : w.cell? ⟨a, j, none⟩ = some (.int .i64 y)) (hfi : w.frozen? ⟨a, i, none⟩ = false) (hfj : w.frozen? ⟨a, j, none⟩ = false) :
 Calls Tryz.prog 175 #[.pointer (some ⟨p, 0, none⟩), .int .i64 i, .int .i64 j] w fun e w' => e = .returned (.tuple #[]) ∧ ∃ W, w' = W.drew ∧ W = (w.setCell ⟨a, i, none⟩ (.int .i64 y)).setCell ⟨a, j, none⟩ (.int .i64 x) := by
 have f1 : w.cell? ⟨p, 0, none⟩ = some (.slice (some ⟨a, 0, none⟩) n c) := by rw [h.cell]; rfl
 clear h
 have hy2 : (w.setCell ⟨a, i, none⟩ (.int .i64 y)).cell? ⟨a, j, none⟩ = some (.int .i64 y) := by
  by_cases e : i = j
  ·subst e; exact World.cell?_setCell_same' _ _ _ (by rw [hx]; rfl)
  ·exact (World.cell?_setCell_other _ _ _ _ (by simp)).trans hy
 go_enter Tryz.func175, Tryz.ntmps175
 go_wp2_with fail
 go_region
 all_goals go_wp2_with fail
 all_goals (go_end0; exact ⟨rfl, _, rfl, rfl⟩)
end Go.Proofs.YtmjnmpifibemjaaGreatDoor

namespace Go.Proofs.YtmjnmpifibemjaaGreatDoor
open Go.RowKit HeapPlain

/-- The pile at p, its box of the list at g, over a world w0 that it leaves alone: its slice is v, with these places. -/
structure PileV (w0 : World) (p g : Nat) (A : Option Addr) (n c : Nat) (L : List Att) (v : Value) (w : World) (xs : List Nat) : Prop where
 pb : Blk w p 125 #[v, lessF g]
 own : w.ownsRow w0.heap.size 3 1 v xs.length (ints xs)
 gb : Blk w g 84 #[.slice A n c]
 bel : Below w0.heap.size w0 w
 pn : w0.heap.size ≤ p
 gn : w0.heap.size ≤ g
 small : xs.length ≤ 1000
 all : ∀ x ∈ xs, x < L.length
 atts : Atts w0 A L
 len : L.length = n
 base : w0.heap.size ≤ w.heap.size

section
variable {w0 w w' : World} {p g : Nat} {A : Option Addr} {n c : Nat} {L : List Att} {v : Value} {xs : List Nat}

theorem ints_get (xs : List Nat) (j : Nat) (h : j < xs.length) : (ints xs)[j]? = some (.int .i64 (xs.getD j default : Nat)) := by
 simp [ints, List.getElem?_eq_getElem h]
theorem ints_set (xs : List Nat) (j x : Nat) : (ints xs).set j (.int .i64 (x : Nat)) = ints (xs.set j x) := by
 simp [ints, List.map_set]
theorem PileV.upd (h : PileV w0 p g A n c L v w xs) {S : List Nat} (hu : Upd S w w') (hS : ∀ x ∈ S, w0.heap.size ≤ x ∧ x ≠ p ∧ x ≠ g ∧ v.ownBlock ≠ some x) : PileV w0 p g A n c L v w' xs :=
 { pb := h.pb.upd hu fun hm => (hS _ hm).2.1 rfl
   own := own_upd h.own hu fun b hb hm => (hS _ hm).2.2.2 hb
   gb := h.gb.upd hu fun hm => (hS _ hm).2.2.1 rfl
   bel := h.bel.trans (hu.below h.base (fun x hx => (hS x hx).1))
   pn := h.pn, gn := h.gn, small := h.small, all := h.all, atts := h.atts, len := h.len
   base := Nat.le_trans h.base hu.size }
theorem PileV.upd0 (h : PileV w0 p g A n c L v w xs) (hu : Upd [] w w') : PileV w0 p g A n c L v w' xs := h.upd hu (by simp)
theorem PileV.at_w (h : PileV w0 p g A n c L v w xs) : Atts w A L := by
 intro k x hk
 obtain ⟨ad, e, c1, c2, c3, c4, c5, c6, hl⟩ := h.atts k x hk
 exact ⟨ad, e, (h.bel.cell hl).trans c1, (h.bel.cell (p := ⟨_, _, none⟩) hl).trans c2, (h.bel.cell (p := ⟨_, _, none⟩) hl).trans c3, (h.bel.cell (p := ⟨_, _, none⟩) hl).trans c4,
  (h.bel.cell (p := ⟨_, _, none⟩) hl).trans c5, (h.bel.cell (p := ⟨_, _, none⟩) hl).trans c6, Nat.lt_of_lt_of_le hl h.base⟩
theorem PileV.pg (h : PileV w0 p g A n c L v w xs) : p ≠ g := h.pb.ne_ h.gb (by decide)
theorem PileV.own_p (h : PileV w0 p g A n c L v w xs) : v.ownBlock ≠ some p := own_type h.own h.pb (by decide)
theorem PileV.own_g (h : PileV w0 p g A n c L v w xs) : v.ownBlock ≠ some g := own_type h.own h.gb (by decide)

theorem PileV.len_ok (h : PileV w0 p g A n c L v w xs) : Calls Tryz.prog 55 #[.pointer (some ⟨p, 0, none⟩)] w fun e w' => e = .returned (.int .i64 xs.length) ∧ PileV w0 p g A n c L v w' xs ∧ Upd [] w w' := by
 have hv : ∃ a c', v = .slice a xs.length c' := by
  rcases h.own.2 with ⟨h2, h3⟩ | ⟨g', cap', cur, h1, _⟩
  ·exact ⟨none, 0, by rw [h2, h3]⟩
  ·exact ⟨_, _, h1⟩
 have H := Lib.hid h
 obtain ⟨a, c', rfl⟩ := hv
 have f0 : w.cell? ⟨p, 0, none⟩ = some (.slice a xs.length c') := by rw [h.pb.cell]; rfl
 clear h
 obtain ⟨m, hm⟩ : ∃ m, m = xs.length := ⟨_, rfl⟩
 rw [← hm] at f0 ⊢
 have HM := Lib.hid hm
 clear hm
 go_enter Tryz.func55, Tryz.ntmps55
 go_wp2_with fail
 go_ret
 refine ⟨rfl, ?_, .refl _ _⟩
 rw [HM.out]
 exact H.out

theorem PileV.less_ok (h : PileV w0 p g A n c L v w xs) (i j : Nat) (hi : i < xs.length) (hj : j < xs.length) :
 Calls Tryz.prog 172 #[.pointer (some ⟨p, 0, none⟩), .int .i64 i, .int .i64 j] w fun e w' => e = .returned (.bool (ahd L (xs.getD i default) (xs.getD j default))) ∧ PileV w0 p g A n c L v w' xs ∧ Upd [] w w' := by
 obtain ⟨a, cap, cur, rfl, ha, hb, _⟩ := own_form h.own (by omega)
 have hx : xs.getD i default ∈ xs := by simp [List.getElem?_eq_getElem hi]
 have hy : xs.getD j default ∈ xs := by simp [List.getElem?_eq_getElem hj]
 refine (pile_less p g a cap xs.length n c A L w i j (xs.getD i default) (xs.getD j default) (by omega) (by omega) h.pb (own_cell h.own i _ (ints_get xs i hi)) (own_cell h.own j _ (ints_get xs j hj))
  (by rw [h.gb.cell]; rfl) h.gb.lt hb.lt h.at_w h.len (h.len ▸ h.all _ hx) (h.len ▸ h.all _ hy)).mono ?_
 rintro e w1 ⟨rfl, u1⟩
 exact ⟨rfl, h.upd0 u1, u1⟩

theorem PileV.swap_ok (h : PileV w0 p g A n c L v w xs) (i j : Nat) (hi : i < xs.length) (hj : j < xs.length) :
 Calls Tryz.prog 175 #[.pointer (some ⟨p, 0, none⟩), .int .i64 i, .int .i64 j] w fun e w' => e = .returned (.tuple #[]) ∧ PileV w0 p g A n c L v w' (swp xs i j) ∧ Upd v.ownBlock.toList w w' := by
 have hp := h.own_p
 have hg := h.own_g
 obtain ⟨a, cap, cur, rfl, ha, hb, _⟩ := own_form h.own (by omega)
 have hap : a ≠ p := fun e => hp (by rw [e]; rfl)
 have hag : a ≠ g := fun e => hg (by rw [e]; rfl)
 refine (pile_swap p g a cap xs.length w i j (xs.getD i default) (xs.getD j default) (by omega) (by omega) hap h.pb (own_cell h.own i _ (ints_get xs i hi)) (own_cell h.own j _ (ints_get xs j hj)) (own_frozen h.own _) (own_frozen h.own _)).mono ?_
 rintro e w1 ⟨rfl, W, rfl, rfl⟩
 have u : Upd [a] w ((w.setCell ⟨a, i, none⟩ (.int .i64 (xs.getD j default : Nat))).setCell ⟨a, j, none⟩ (.int .i64 (xs.getD i default : Nat))).drew := (((Upd.refl _ w).setCell (.inl (by simp)) _).setCell (.inl (by simp)) _).drew
 refine ⟨rfl, ?_, by simpa [Value.ownBlock] using u⟩
 have o := own_set (own_set h.own i (.int .i64 (xs.getD j default : Nat))) j (.int .i64 (xs.getD i default : Nat))
 rw [ints_set, ints_set] at o
 exact { pb := h.pb.upd u (by simp; exact fun e => hap e.symm)
         own := by rw [swp_length]; exact o
         gb := h.gb.upd u (by simp; exact fun e => hag e.symm)
         bel := h.bel.trans (u.below h.base (by simpa using ha))
         pn := h.pn, gn := h.gn, small := by rw [swp_length]; exact h.small
         all := fun x hx => h.all x ((swp_perm xs i j hi hj).mem_iff.1 hx)
         atts := h.atts, len := h.len, base := Nat.le_trans h.base u.size }
end
end Go.Proofs.YtmjnmpifibemjaaGreatDoor

namespace Go.Proofs.YtmjnmpifibemjaaGreatDoor
open Go.RowKit HeapPlain

theorem int_info : (Tryz.prog.info? 3).map (fun i => (i.zero, i.size, i.bytes)) = some (some (.int .i64 0), 1, 8) := by kernel_rfl

set_option maxRecDepth 100000 in
set_option maxHeartbeats 400000 in
theorem push_walk (p : Nat) (v : Value) (c n : Nat) (A : Option Addr) (f : Value) (x : Int) (vs : List Value) (B : Nat) (w : World) (hB : B ≤ w.heap.size) (h : Blk w p 125 #[v, f]) (ho : w.ownsRow B 3 1 v n vs) (hn : n ≤ 1000) :
 Calls Tryz.prog 174 #[.pointer (some ⟨p, 0, none⟩), .iface 3 (.int .i64 x)] w fun e w' => e = .returned (.tuple #[]) ∧ ∃ g cap, Blk w' p 125 #[.slice (some ⟨g, 0, none⟩) (n + 1) cap, f] ∧ w'.ownsRow B 3 1 (.slice (some ⟨g, 0, none⟩) (n + 1) cap) (n + 1) (vs ++ [.int .i64 x]) ∧ Upd (p :: v.ownBlock.toList) w w' := by
 have f0 : w.cell? ⟨p, 0, none⟩ = some v := by rw [h.cell]; rfl
 have f1 : w.frozen? ⟨p, 0, none⟩ = false := h.frozen _
 have hl : p < w.heap.size := h.lt
 obtain ⟨i0, hi0, hz0, hz1, hz2⟩ := info_parts int_info
 have HB := Lib.hid h
 have HO := Lib.hid (own_upd0 ho ((Upd.refl [] w).alloc (.cells #[.int .i64 x] 3)))
 have HT := Lib.hid (own_type ho h (by decide))
 have hp : p ≤ w.heap.size := by omega
 have hp1 : p ≤ w.heap.size + 1 := by omega
 have ta : ∀ w, (Instr.typeAssert (.iface 3 (.int .i64 x)) 20 3 true).run Tryz.prog w = .ok (.tuple #[.int .i64 x, .bool true]) w := fun _ => by kernel_rfl
 clear h ho
 go_enter Tryz.func174, Tryz.ntmps174
 go_wp2_with (first
  | (at_builtin; refine wpList_append_lies _ rfl (.tmp 16) (.tmp 18) _ rfl B 3 i0 _ 1 8 Tryz.underlying22 hi0 hz0 hz1 hz2 rfl (by omega) v n vs rfl HO.out ⟨w.heap.size, 0, none⟩ 1 1 [.int .i64 x] rfl (by simp) (news_of_blk (Blk.new w 3 #[.int .i64 x])) (by intro u hu; simp at hu; subst hu; rfl) (by omega) (by simp only [maxLen]; omega) (by omega) (by simp; omega) (w.heap.size + 1) (by simp) ?_
     intro g cap w1 hown1 hg1 hat1 hlt1
     have b1 := Lib.hid ((HB.out.alloc (.cells #[.int .i64 x] 3)).grown hg1 (fun e => HT.out e.symm))
     have u1 := Lib.hid (((Upd.refl (p :: v.ownBlock.toList) w).alloc (.cells #[.int .i64 x] 3)).grown hg1 (fun k hk => .inl (by rw [hk]; simp)))
     have f2 : w1.frozen? ⟨p, 0, none⟩ = false := b1.out.frozen _
     have f3 : w1.cell? ⟨p, 0, none⟩ = some v := b1.out.cell _
     have f4 : g ≠ p := by
      intro e
      rcases hat1 with h | h
      ·exact HT.out (e ▸ h)
      ·omega
     have O1 := Lib.hid hown1
     clear hown1 hg1 hat1))
 go_end0
 exact ⟨rfl, g, cap, b1.out.set_eq rfl, own_upd O1.out ((Upd.refl [p] w1).setCell (.inl (by simp)) _) (by intro b hb; simp only [Value.ownBlock, Option.some.injEq] at hb; subst hb; simpa using f4), u1.out.setCell (.inl (by simp)) _⟩

set_option maxHeartbeats 400000 in
theorem pop_walk (p a c n : Nat) (f : Value) (x : Int) (w : World) (h : Blk w p 125 #[.slice (some ⟨a, 0, none⟩) (n + 1) c, f]) (hc : w.cell? ⟨a, n, none⟩ = some (.int .i64 x)) (hn : n ≤ 1000) (hcap : n + 1 ≤ c) (hcm : c ≤ maxLen) :
 Calls Tryz.prog 173 #[.pointer (some ⟨p, 0, none⟩)] w fun e w' => e = .returned (.iface 3 (.int .i64 x)) ∧ Blk w' p 125 #[.slice (some ⟨a, 0, none⟩) n c, f] ∧ Upd [p] w w' := by
 have f0 : w.cell? ⟨p, 0, none⟩ = some (.slice (some ⟨a, 0, none⟩) (n + 1) c) := by rw [h.cell]; rfl
 have f1 : w.frozen? ⟨p, 0, none⟩ = false := h.frozen _
 have hl : p < w.heap.size := h.lt
 unfold maxLen at hcm
 have HB := Lib.hid h
 have hx : (n : Int) ≤ c := by omega
 clear h
 go_enter Tryz.func173, Tryz.ntmps173
 go_wp2_with fail
 go_ret
 exact ⟨rfl, HB.out.set_eq rfl, (Upd.refl _ w).setCell (.inl (by simp)) _⟩

section
variable {w0 w w' : World} {p g : Nat} {A : Option Addr} {n c : Nat} {L : List Att} {v : Value} {xs : List Nat}
theorem ints_snoc (xs : List Nat) (x : Nat) : ints (xs ++ [x]) = ints xs ++ [.int .i64 x] := by simp [ints]
theorem ints_take (xs : List Nat) (k : Nat) : ints (xs.take k) = (ints xs).take k := by simp [ints]

theorem PileV.push_ok (h : PileV w0 p g A n c L v w xs) (x : Nat) (hx : x < L.length) (hs : xs.length < 1000) :
 Calls Tryz.prog 174 #[.pointer (some ⟨p, 0, none⟩), .iface 3 (.int .i64 x)] w fun e w' => e = .returned (.tuple #[]) ∧ ∃ v', PileV w0 p g A n c L v' w' (xs ++ [x]) := by
 refine (push_walk p v c xs.length A (lessF g) x (ints xs) w0.heap.size w h.base h.pb h.own (by omega)).mono ?_
 rintro e w1 ⟨rfl, a, cap, b1, o1, u1⟩
 refine ⟨rfl, .slice (some ⟨a, 0, none⟩) (xs.length + 1) cap, ?_⟩
 rw [← ints_snoc] at o1
 have hl : (xs ++ [x]).length = xs.length + 1 := by simp
 exact { pb := b1
         own := by rw [hl]; exact o1
         gb := h.gb.upd u1 (by
          simp only [List.mem_cons, Option.mem_toList]
          rintro (e | e)
          ·exact h.pg e.symm
          ·exact h.own_g e)
         bel := h.bel.trans (u1.below h.base (by
          simp only [List.mem_cons, Option.mem_toList]
          rintro b (rfl | e)
          ·exact h.pn
          ·exact (own_lt h.own e).1))
         pn := h.pn, gn := h.gn, small := by omega
         all := by
          intro y hy
          rcases List.mem_append.1 hy with hy | hy
          ·exact h.all y hy
          ·simp only [List.mem_singleton] at hy; subst hy; exact hx
         atts := h.atts, len := h.len, base := Nat.le_trans h.base u1.size }

theorem PileV.pop_ok (h : PileV w0 p g A n c L v w xs) (m : Nat) (hm : xs.length = m + 1) :
 Calls Tryz.prog 173 #[.pointer (some ⟨p, 0, none⟩)] w fun e w' => e = .returned (.iface 3 (.int .i64 (xs.getD m default : Nat))) ∧ ∃ v', v'.ownBlock = v.ownBlock ∧ PileV w0 p g A n c L v' w' (xs.take m) ∧ Upd [p] w w' := by
 have hp := h.own_p
 obtain ⟨a, cap, cur, rfl, ha, hb, hc1, hc2, _⟩ := own_form h.own (by omega)
 have ho := h.own
 have hpb := h.pb
 have hsm := h.small
 rw [hm] at ho hpb hc1 hsm
 refine (pop_walk p a cap m (lessF g) (xs.getD m default : Nat) w hpb (own_cell ho m _ (ints_get xs m (by omega))) (by omega) hc1 hc2).mono ?_
 rintro e w1 ⟨rfl, b1, u1⟩
 refine ⟨rfl, .slice (some ⟨a, 0, none⟩) m cap, rfl, ?_, u1⟩
 have o1 := own_take ho m (by omega)
 rw [Nat.mul_one, ← ints_take] at o1
 have hl : (xs.take m).length = m := by rw [List.length_take]; omega
 exact { pb := b1
         own := by
          rw [hl]
          exact own_upd o1 u1 fun b hb hm => hp (by simp only [List.mem_singleton] at hm; subst hm; exact hb)
         gb := h.gb.upd u1 (by simp; exact fun e => h.pg e.symm)
         bel := h.bel.trans (u1.below h.base (by simpa using h.pn))
         pn := h.pn, gn := h.gn, small := by rw [hl]; have := h.small; omega
         all := fun y hy => h.all y (List.mem_of_mem_take hy)
         atts := h.atts, len := h.len, base := Nat.le_trans h.base u1.size }
end
end Go.Proofs.YtmjnmpifibemjaaGreatDoor

namespace Go.Proofs.YtmjnmpifibemjaaGreatDoor
section
variable {α : Type}
/-- A strict total order. -/
structure Tot (lt : α → α → Bool) : Prop where
 irr : ∀ a, lt a a = false
 trans : ∀ a b c, lt a b = true → lt b c = true → lt a c = true
 tri : ∀ a b, a ≠ b → lt a b = true ∨ lt b a = true
variable {lt : α → α → Bool}
theorem Tot.asym (T : Tot lt) (a b : α) (h : lt a b = true) : lt b a = false := by
 cases hb : lt b a with
 | false => rfl
 | true => have := T.trans a b a h hb; rw [T.irr] at this; cases this
theorem Tot.ord (T : Tot lt) : HeapPlain.Ord lt where
 asym := T.asym
 tran := by
  intro a b c h1 h2
  cases h : lt c a with
  | false => rfl
  | true =>
    exfalso
    by_cases e : a = b
    ·subst e; rw [h] at h2; cases h2
    ·rcases T.tri a b e with h3 | h3
     ·have := T.trans c a b h h3; rw [h2] at this; cases this
     ·rw [h1] at h3; cases h3
/-- x goes to its place. -/
def insO (lt : α → α → Bool) (l : List α) (x : α) : List α := l.takeWhile (fun y => lt y x) ++ x :: l.dropWhile (fun y => lt y x)
theorem insO_perm (l : List α) (x : α) : (insO lt l x).Perm (x :: l) := by
 unfold insO
 have := List.takeWhile_append_dropWhile (p := fun y => lt y x) (l := l)
 conv => rhs; rw [← this]
 exact List.perm_middle
theorem takeWhile_all (p : α → Bool) : ∀ (l : List α) (a : α), a ∈ l.takeWhile p → p a = true
 | [], a, h => by simp at h
 | b :: l, a, h => by
   rw [List.takeWhile_cons] at h
   split at h
   ·rcases List.mem_cons.1 h with rfl | h
    ·assumption
    ·exact takeWhile_all p l a h
   ·simp at h
theorem dropWhile_head (p : α → Bool) : ∀ (l : List α) (b : α) (r : List α), l.dropWhile p = b :: r → p b = false
 | [], _, _, h => by simp at h
 | a :: l, b, r, h => by
   rw [List.dropWhile_cons] at h
   split at h
   ·exact dropWhile_head p l b r h
   ·rename_i hp
    injection h with h1 h2
    subst h1
    simpa using hp
theorem insO_pairwise (T : Tot lt) {l : List α} {x : α} (h : l.Pairwise (fun a b => lt a b = true)) (hx : x ∉ l) : (insO lt l x).Pairwise (fun a b => lt a b = true) := by
 unfold insO
 have hs : l.takeWhile (fun y => lt y x) ++ l.dropWhile (fun y => lt y x) = l := List.takeWhile_append_dropWhile
 rw [← hs, List.pairwise_append] at h
 obtain ⟨h1, h2, h3⟩ := h
 have hd : ∀ b ∈ l.dropWhile (fun y => lt y x), lt x b = true := by
  intro b hb
  cases hdw : l.dropWhile (fun y => lt y x) with
  | nil => rw [hdw] at hb; simp at hb
  | cons c r =>
    have hc : lt c x = false := dropWhile_head (fun y => lt y x) l c r hdw
    have hxc : lt x c = true := by
     rcases T.tri x c (fun e => hx (by rw [← hs, hdw, e]; simp)) with h | h
     ·exact h
     ·rw [hc] at h; cases h
    rw [hdw] at hb h2
    rcases List.mem_cons.1 hb with rfl | hb
    ·exact hxc
    ·exact T.trans _ _ _ hxc ((List.pairwise_cons.1 h2).1 b hb)
 rw [List.pairwise_append]
 refine ⟨h1, List.pairwise_cons.2 ⟨hd, h2⟩, fun a ha b hb => ?_⟩
 have hax := takeWhile_all _ _ _ ha
 rcases List.mem_cons.1 hb with rfl | hb
 ·exact hax
 ·exact h3 a ha b hb
/-- All of some, each gone to its place. -/
def srt (lt : α → α → Bool) (l : List α) : List α := l.foldl (insO lt) []
theorem srt_perm (l : List α) : (srt lt l).Perm l := by
 suffices ∀ (l acc : List α), (l.foldl (insO lt) acc).Perm (acc ++ l) by simpa [srt] using this l []
 intro l
 induction l with
 | nil => simp
 | cons x l ih =>
   intro acc
   rw [List.foldl_cons]
   refine (ih _).trans ?_
   refine (List.Perm.append_right l (insO_perm acc x)).trans ?_
   exact List.perm_middle.symm
theorem srt_pairwise (T : Tot lt) (l : List α) (hn : l.Nodup) : (srt lt l).Pairwise (fun a b => lt a b = true) := by
 suffices ∀ (l acc : List α), (acc ++ l).Nodup → acc.Pairwise (fun a b => lt a b = true) → (l.foldl (insO lt) acc).Pairwise (fun a b => lt a b = true) from this l [] (by simpa using hn) .nil
 intro l
 induction l with
 | nil => intro acc _ h; simpa using h
 | cons x l ih =>
   intro acc hn h
   rw [List.foldl_cons]
   have hp : (insO lt acc x ++ l).Perm (acc ++ x :: l) := (List.Perm.append_right l (insO_perm acc x)).trans List.perm_middle.symm
   refine ih _ (hp.nodup_iff.2 hn) (insO_pairwise T h ?_)
   intro hx
   rw [List.nodup_append] at hn
   exact hn.2.2 x hx x (by simp) rfl
theorem sorted_uniq (T : Tot lt) {a b : List α} (hp : a.Perm b) (ha : a.Pairwise (fun a b => lt a b = true)) (hb : b.Pairwise (fun a b => lt a b = true)) : a = b :=
 List.Perm.eq_of_pairwise (fun x y _ _ h1 h2 => by have := T.asym x y h1; rw [h2] at this; cases this) ha hb hp
theorem sorted_nodup (T : Tot lt) {a : List α} (ha : a.Pairwise (fun a b => lt a b = true)) : a.Nodup :=
 ha.imp fun h e => by subst e; rw [T.irr] at h; cases h
theorem srt_eq (T : Tot lt) {os l : List α} (hp : os.Perm l) (ho : os.Pairwise (fun a b => lt a b = true)) : os = srt lt l :=
 sorted_uniq T (hp.trans (srt_perm l).symm) ho (srt_pairwise T l (hp.nodup_iff.1 (sorted_nodup T ho)))
/-- A least one of what is left goes behind what is sorted. -/
theorem sort_step (T : Tot lt) {os ys zs R : List α} {y : α} (hp : (os ++ ys).Perm R) (hn : R.Nodup) (hy : (y :: zs).Perm ys) (hle : ∀ x ∈ ys, lt x y = false) (ho : os.Pairwise (fun a b => lt a b = true)) (hA : ∀ a ∈ os, ∀ b ∈ ys, lt a b = true) :
 ((os ++ [y]) ++ zs).Perm R ∧ (os ++ [y]).Pairwise (fun a b => lt a b = true) ∧ ∀ a ∈ os ++ [y], ∀ b ∈ zs, lt a b = true := by
 have hyy : y ∈ ys := hy.mem_iff.1 (by simp)
 have hzy : ∀ b ∈ zs, b ∈ ys := fun b hb => hy.mem_iff.1 (List.mem_cons_of_mem _ hb)
 have hnd : (y :: zs).Nodup := hy.nodup_iff.2 ((List.nodup_append.1 (hp.nodup_iff.2 hn)).2.1)
 refine ⟨?_, ?_, ?_⟩
 ·rw [List.append_assoc]
  exact (List.Perm.append_left os hy).trans hp
 ·rw [List.pairwise_append]
  refine ⟨ho, by simp, fun a ha b hb => ?_⟩
  simp only [List.mem_singleton] at hb
  subst hb
  exact hA a ha b hyy
 ·intro a ha b hb
  rcases List.mem_append.1 ha with ha | ha
  ·exact hA a ha b (hzy b hb)
  ·simp only [List.mem_singleton] at ha
   subst ha
   have hne : a ≠ b := fun e => (List.nodup_cons.1 hnd).1 (e ▸ hb)
   rcases T.tri a b hne with h | h
   ·exact h
   ·rw [hle b (hzy b hb)] at h; cases h
end
end Go.Proofs.YtmjnmpifibemjaaGreatDoor

namespace Go.Proofs.YtmjnmpifibemjaaGreatDoor
open Go.RowKit HeapPlain

theorem orL_cmp (a b : Int) (l : List Int) : orL (cmpI a b :: l) < 0 ↔ a < b ∨ a = b ∧ orL l < 0 := by
 show (if cmpI a b = 0 then orL l else cmpI a b) < 0 ↔ _
 unfold cmpI
 by_cases h : a < b
 ·simp [h]
 ·by_cases h2 : b < a
  ·simp [h, h2]; omega
  ·simp [h, h2]; omega
theorem ahd_iff (L : List Att) (i j : Nat) : ahd L i j = true ↔ (L.getD i default).st < (L.getD j default).st ∨ (L.getD i default).st = (L.getD j default).st ∧ (rk (L.getD i default).wr < rk (L.getD j default).wr ∨ rk (L.getD i default).wr = rk (L.getD j default).wr ∧
 ((L.getD i default).en < (L.getD j default).en ∨ (L.getD i default).en = (L.getD j default).en ∧ i < j)) := by
 unfold ahd
 simp only [decide_eq_true_eq, orL_cmp]
 simp only [orL]
 omega
theorem ahd_tot (L : List Att) : Tot (ahd L) where
 irr a := by
  cases h : ahd L a a with
  | false => rfl
  | true => rw [ahd_iff] at h; omega
 trans a b c h1 h2 := by rw [ahd_iff] at *; omega
 tri a b h := by rw [ahd_iff, ahd_iff]; omega

section
variable {w0 : World} {p g : Nat} {A : Option Addr} {n c : Nat} {L : List Att}
theorem heaped_push : Heaped Nat 55 172 175 (.pointer (some ⟨p, 0, none⟩)) (ahd L) (fun w xs => ∃ v, PileV w0 p g A n c L v w xs) (fun _ _ => True) where
 refl _ := trivial
 trans _ _ _ _ _ := trivial
 len w xs h := by
  obtain ⟨v, h⟩ := h
  exact h.len_ok.mono fun e w' ⟨a, b, _⟩ => ⟨a, ⟨v, b⟩, trivial⟩
 less w xs i j h hi hj := by
  obtain ⟨v, h⟩ := h
  exact (h.less_ok i j hi hj).mono fun e w' ⟨a, b, _⟩ => ⟨a, ⟨v, b⟩, trivial⟩
 swap w xs i j h hi hj := by
  obtain ⟨v, h⟩ := h
  exact (h.swap_ok i j hi hj).mono fun e w' ⟨a, b, _⟩ => ⟨a, ⟨v, b⟩, trivial⟩
 small w xs h := by
  obtain ⟨v, h⟩ := h
  have := h.small
  omega
theorem heaped_pop (ob : Option Nat) : Heaped Nat 55 172 175 (.pointer (some ⟨p, 0, none⟩)) (ahd L) (fun w xs => ∃ v, v.ownBlock = ob ∧ PileV w0 p g A n c L v w xs) (fun w w' => Upd (p :: ob.toList) w w') where
 refl _ := .refl _ _
 trans _ _ _ a b := a.trans b
 len w xs h := by
  obtain ⟨v, hv, h⟩ := h
  exact h.len_ok.mono fun e w' ⟨a, b, u⟩ => ⟨a, ⟨v, hv, b⟩, u.mono (by simp)⟩
 less w xs i j h hi hj := by
  obtain ⟨v, hv, h⟩ := h
  exact (h.less_ok i j hi hj).mono fun e w' ⟨a, b, u⟩ => ⟨a, ⟨v, hv, b⟩, u.mono (by simp)⟩
 swap w xs i j h hi hj := by
  obtain ⟨v, hv, h⟩ := h
  exact (h.swap_ok i j hi hj).mono fun e w' ⟨a, b, u⟩ => ⟨a, ⟨v, hv, b⟩, u.mono (by rw [hv]; intro x hx; exact .inl (List.mem_cons_of_mem _ hx))⟩
 small w xs h := by
  obtain ⟨v, hv, h⟩ := h
  have := h.small
  omega
end

def sliceLen : Value → Nat
 | .slice _ n _ => n
 | _ => 0
set_option maxRecDepth 100000 in
set_option maxHeartbeats 2000000 in
theorem sort_ok (A : Option Addr) (n c : Nat) (L : List Att) (w : World) (hA : Atts w A L) (hn : L.length = n) (h60 : n ≤ 100) :
 Calls Tryz.prog 29 #[.slice A n c] w fun e w' => ∃ v, e = .returned v ∧ w'.ownsRow w.heap.size 3 1 v n (ints (srt (ahd L) (List.range n))) ∧ Upd [] w w' := by
 obtain ⟨i0, hi0, hz0, hz1, hz2⟩ := info_parts int_info
 have start : PileV w (w.heap.size + 1) w.heap.size A n c L (.slice none 0 0) ((w.alloc (.cells #[.slice A n c] 84)).alloc (.cells #[.slice none 0 0, lessF w.heap.size] 125)) [] :=
  { pb := by have := Blk.new (w.alloc (.cells #[.slice A n c] 84)) 125 #[.slice none 0 0, lessF w.heap.size]; simpa using this
    own := own_nil _ _ _ _
    gb := (Blk.new w _ _).alloc _
    bel := ((Upd.refl [] w).alloc _ |>.alloc _).below (Nat.le_refl _) (by simp)
    pn := by omega, gn := by omega, small := by simp, all := by simp, atts := hA, len := hn, base := by simp; omega }
 have ST := Lib.hid start
 have HN := Lib.hid hn
 clear start hA hn
 go_enter Tryz.func29, Tryz.ntmps29
 go_wp2_with fail
 go_loopw [11] (fun u wr => ∃ (k : Nat) (ys : List Nat), u = .int .i64 k ∧ k ≤ n ∧ Hid (∃ v, PileV w (w.heap.size + 1) w.heap.size A n c L v wr ys) ∧ Hid (ys.Perm (List.range k)) ∧ Hid (Hp (ahd L) k ys)) (fun u _ => n - (intOf u).toNat)
 case atStart => exact ⟨0, [], rfl, by omega, Lib.hid ⟨_, ST.out⟩, Lib.hid (by simp), Lib.hid (by intro k hk hk2; omega)⟩
 case round =>
  obtain ⟨k, ys, rfl, hk, HY, HP, HH⟩ := hrel
  by_cases hlt : k < n
  ·go_wp2_with fail
   have HL : Hid (ys.length = k) := Lib.hid (by have := HP.out.length_eq; simpa using this)
   refine (heap_push heaped_push (ahd_tot L).ord k ys k 3 (.int .i64 k) wr HY.out HL.out HH.out ?_).mono ?_
   ·obtain ⟨v, h⟩ := HY.out
    exact (h.push_ok k (by rw [HN.out]; exact hlt) (by rw [HL.out]; omega)).mono fun e w' ⟨a, v', b⟩ => ⟨a, ⟨v', b⟩, trivial⟩
   rintro e w1 ⟨rfl, zs, s1, p1, h1, -⟩
   have S1 := Lib.hid s1
   have H1 := Lib.hid h1
   have P1 : Hid (zs.Perm (List.range (k + 1))) := Lib.hid (by
    rw [List.range_succ]
    exact (p1.trans (List.Perm.cons k HP.out)).trans (List.perm_append_comm (l₁ := [k]) (l₂ := List.range k)))
   clear s1 p1 h1
   go_wp2_with fail
   go_roundw
   case rel => exact ⟨k + 1, zs, by go_num, by omega, S1, P1, H1⟩
   case measure => simp [intOf]; omega
  ·obtain rfl : n = k := by omega
   obtain ⟨v0, pv⟩ := HY.out
   have PV := Lib.hid pv
   clear pv
   obtain ⟨ob, hob⟩ : ∃ ob, v0.ownBlock = ob := ⟨_, rfl⟩
   have OB := Lib.hid hob
   clear hlt hk HY hob
   go_wp2_with fail
   go_loopw [5] (fun u ws => ∃ (k : Nat) (ys os : List Nat), k ≤ n ∧ Hid (sliceLen u = k) ∧ Hid (∃ v, v.ownBlock = ob ∧ PileV w (w.heap.size + 1) w.heap.size A n c L v ws ys) ∧ Hid (Hp (ahd L) (n - k) ys) ∧ Hid (ys.length = n - k) ∧ Hid ((os ++ ys).Perm (List.range n)) ∧
    Hid (os.Pairwise (fun a b => ahd L a b = true)) ∧ Hid (∀ a ∈ os, ∀ b ∈ ys, ahd L a b = true) ∧ Hid (ws.ownsRow w.heap.size 3 1 u k (ints os)) ∧ Hid (∀ b, u.ownBlock = some b → b ≠ w.heap.size + 1 ∧ ob ≠ some b)) (fun u _ => n - sliceLen u)
   case atStart => exact ⟨0, ys, [], by omega, Lib.hid rfl, Lib.hid ⟨v0, OB.out, PV.out⟩, HH, Lib.hid (by have := HP.out.length_eq; simpa using this), HP, Lib.hid .nil, Lib.hid (by simp), Lib.hid (own_nil _ _ _ _), Lib.hid (by simp [Value.ownBlock])⟩
   case round =>
    obtain ⟨k, ys, os, hk, KS, KY, KH, KL, KP, KO, KA, KU, KB⟩ := hrel
    by_cases hlt : k < n
    ·obtain ⟨m, hm⟩ : ∃ m, n - k = m + 1 := ⟨n - k - 1, by omega⟩
     obtain ⟨v, hv, P0⟩ := KY.out
     have LY : Hid (ys.length = m + 1) := Lib.hid (KL.out.trans hm)
     have KH1 : Hid (Hp (ahd L) (m + 1) ys) := Lib.hid (hm ▸ KH.out)
     have HV := Lib.hid hv
     have Q0 := Lib.hid P0
     have hmn : m ≤ 100 := by omega
     clear hv P0 KY KH KL
     go_wp2_with fail
     have hc := Q0.out.len_ok
     rw [LY.out] at hc
     have hq : ((m + 1 : Nat) : Int) = (m : Int) + 1 := by omega
     rw [hq] at hc
     clear hq
     refine hc.mono ?_; clear hc; rintro e w1 ⟨rfl, p1, u1⟩
     have hown := p1.own
     rw [LY.out] at hown
     obtain ⟨a, cap, cur, rfl, ha, hb, hc1, hc2, _⟩ := own_form hown (by omega)
     have f0 : w1.cell? ⟨w.heap.size + 1, 0, none⟩ = some (.slice (some ⟨a, 0, none⟩) (m + 1) cap) := by rw [p1.pb.cell]; rfl
     have f1 : w1.cell? ⟨a, 0, none⟩ = some (.int .i64 (ys.getD 0 default : Nat)) := own_cell hown 0 _ (ints_get ys 0 (by rw [LY.out]; omega))
     have O1 := Lib.hid (own_upd0 KU.out u1)
     have OA := Lib.hid (own_upd0 O1.out ((Upd.refl [] w1).alloc (.cells #[.int .i64 (ys.getD 0 default : Nat)] 3)))
     have P1 := Lib.hid p1
     have hz : w.heap.size + 2 ≤ w1.heap.size := by have := p1.pb.lt; omega
     clear p1 u1 hown hb ha hc1 hc2 KU Q0
     go_wp2_with (first
      | (at_builtin; refine wpList_append_lies _ rfl (.tmp 23) (.tmp 30) _ rfl w.heap.size 3 i0 _ 1 8 Tryz.underlying22 hi0 hz0 hz1 hz2 rfl (by omega) u5 k (ints os) rfl OA.out ⟨w1.heap.size, 0, none⟩ 1 1 [.int .i64 (ys.getD 0 default : Nat)] rfl (by simp) (news_of_blk (Blk.new w1 3 #[.int .i64 (ys.getD 0 default : Nat)])) (by intro u hu; simp only [List.mem_singleton] at hu; subst hu; rfl) (by omega) (by simp only [maxLen]; omega) (by omega) (by simp; omega) (w1.heap.size + 1) (by simp) ?_
         intro g2 cap2 w2 hown2 hg2 hat2 hlt2
         have O2 := Lib.hid hown2
         have U2 := Lib.hid (((Upd.refl u5.ownBlock.toList w1).alloc (.cells #[.int .i64 (ys.getD 0 default : Nat)] 3)).grown hg2 (fun k hk => .inl (by rw [hk]; simp)))
         have T2 := Lib.hid hat2
         clear hown2 hg2 hat2 hlt2))
     have B2 : Hid (∀ x, u5.ownBlock = some x → w.heap.size ≤ x ∧ x ≠ w.heap.size + 1 ∧ x ≠ w.heap.size ∧ ob ≠ some x) := Lib.hid fun x hx =>
      ⟨(own_lt O1.out hx).1, (KB.out x hx).1, fun e => own_type O1.out P1.out.gb (by decide) (e ▸ hx), (KB.out x hx).2⟩
     have P2 : PileV w (w.heap.size + 1) w.heap.size A n c L (.slice (some ⟨a, 0, none⟩) (m + 1) cap) w2 ys := P1.out.upd U2.out (by
      intro x hx
      rw [HV.out]
      exact B2.out x (by simpa using hx))
     have G2 : Hid (g2 ≠ w.heap.size + 1 ∧ ob ≠ some g2) := Lib.hid (by
      rcases T2.out with h | h
      ·exact ⟨(B2.out _ h).2.1, (B2.out _ h).2.2.2⟩
      ·refine ⟨by omega, fun e => ?_⟩
       have := (own_lt P1.out.own (HV.out.trans e)).2
       omega)
     refine (heap_pop (heaped_pop ob) (ahd_tot L).ord m ys (fun (x : Nat) => .iface 3 (.int .i64 x)) w2 ⟨_, HV.out, P2⟩ LY.out KH1.out ?_).mono ?_
     ·intro w3 zs ⟨v3, h3, p3⟩ hl3
      refine (p3.pop_ok m hl3).mono ?_
      rintro e w4 ⟨rfl, v4, h4, p4, u4⟩
      exact ⟨rfl, ⟨v4, h4.trans h3, p4⟩, u4.mono (by simp)⟩
     rintro e w3 ⟨rfl, zs, s3, q3, h3, u3⟩
     have S3 := Lib.hid s3
     have Q3 := Lib.hid q3
     have H3 := Lib.hid h3
     have U3 := Lib.hid u3
     clear s3 q3 h3 u3 P2
     go_wp2_with fail
     go_roundw
     case rel =>
      have hmk : n - (k + 1) = m := by omega
      have hst := sort_step (ahd_tot L) KP.out List.nodup_range Q3.out (fun x hx => by
       obtain ⟨j, hj, rfl⟩ := List.getElem_of_mem hx
       have := KH1.out.least (ahd_tot L).ord (ahd_tot L).irr j (by rw [← LY.out]; exact hj)
       simpa [List.getElem?_eq_getElem hj] using this) KO.out KA.out
      refine ⟨k + 1, zs, os ++ [ys.getD 0 default], by omega, Lib.hid rfl, S3, Lib.hid (hmk ▸ H3.out), Lib.hid ?_, Lib.hid hst.1, Lib.hid hst.2.1, Lib.hid hst.2.2, Lib.hid ?_, Lib.hid ?_⟩
      ·have := Q3.out.length_eq
       rw [LY.out] at this
       simp at this
       omega
      ·rw [ints_snoc]
       refine own_upd O2.out U3.out ?_
       intro b hb
       simp only [Value.ownBlock, Option.some.injEq] at hb
       subst hb
       simp only [List.mem_cons, Option.mem_toList, not_or]
       exact ⟨G2.out.1, G2.out.2⟩
      ·intro b hb
       simp only [Value.ownBlock, Option.some.injEq] at hb
       subst hb
       exact G2.out
     case measure =>
      show n - (k + 1) < n - sliceLen u5
      rw [KS.out]; omega
    ·obtain rfl : n = k := by omega
     have LY : Hid (ys.length = 0) := Lib.hid (by have := KL.out; omega)
     obtain ⟨v, hv, P0⟩ := KY.out
     have Q0 := Lib.hid P0
     clear hv P0 KY hlt
     go_wp2_with fail
     have hc := Q0.out.len_ok
     rw [LY.out] at hc
     refine hc.mono ?_; clear hc; rintro e w1 ⟨rfl, p1, u1⟩
     have P1 := Lib.hid p1
     have U1 := Lib.hid u1
     clear p1 u1
     go_wp2_with fail
     go_ret
     refine ⟨_, rfl, ?_, ?_⟩
     ·have hy : ys = [] := List.length_eq_zero_iff.1 LY.out
      have hp := KP.out
      rw [hy, List.append_nil] at hp
      rw [← srt_eq (ahd_tot L) hp KO.out]
      exact own_upd0 KU.out U1.out
     ·exact Upd.of_below P1.out.bel (Nat.le_refl _)
end Go.Proofs.YtmjnmpifibemjaaGreatDoor

set_option linter.unusedSimpArgs false
namespace Go.Proofs.YtmjnmpifibemjaaGreatDoor
open Go.RowKit
end Go.Proofs.YtmjnmpifibemjaaGreatDoor

namespace Go.Proofs.YtmjnmpifibemjaaGreatDoor
open Go.RowKit
attribute [local go_sem ↓] Go.wp_at_zero Go.wp_at_succ

end Go.Proofs.YtmjnmpifibemjaaGreatDoor

namespace Go.Proofs.YtmjnmpifibemjaaGreatDoor
open Go.RowKit

/-- Behind the first k of the order: how many are ahead of what begins then. -/
def wthK (L : List Att) (S : List Nat) (begin_ : Int) : Nat → Nat
 | 0 => 0
 | k + 1 => if (L.getD (S.getD k 0) default).en < begin_ then k + 1 else wthK L S begin_ k
def wth (L : List Att) (begin_ : Int) : Nat := wthK L (srt (ahd L) (List.range L.length)) begin_ L.length
theorem wthK_le (L : List Att) (S : List Nat) (b : Int) : ∀ k, wthK L S b k ≤ k
 | 0 => Nat.le_refl _
 | k + 1 => by
   unfold wthK
   split
   ·exact Nat.le_refl _
   ·exact Nat.le_succ_of_le (wthK_le L S b k)
theorem wthK_yes {L : List Att} {S : List Nat} {b : Int} {k i : Nat} (h : S.getD k 0 = i) (he : (L.getD i default).en < b) : wthK L S b (k + 1) = k + 1 := by unfold wthK; rw [h, if_pos he]
theorem wthK_no {L : List Att} {S : List Nat} {b : Int} {k i : Nat} (h : S.getD k 0 = i) (he : ¬ (L.getD i default).en < b) : wthK L S b (k + 1) = wthK L S b k := by
 show (if (L.getD (S.getD k 0) default).en < b then k + 1 else wthK L S b k) = _
 rw [h, if_neg he]
theorem srt_len (L : List Att) (n : Nat) : (srt (ahd L) (List.range n)).length = n := by rw [(srt_perm _).length_eq, List.length_range]
theorem srt_lt (L : List Att) (n k : Nat) (hk : k < n) : (srt (ahd L) (List.range n)).getD k 0 < n := by
 rw [List.getD_eq_getElem?_getD, List.getElem?_eq_getElem (by rw [srt_len]; exact hk)]
 have := (srt_perm (lt := ahd L) (List.range n)).mem_iff.1 (List.getElem_mem (by rw [srt_len]; exact hk))
 simpa using this
/-- The End of the attempt at place i. -/
theorem Atts.en {w : World} {A : Option Addr} {L : List Att} (h : Atts w A L) (i : Nat) (hi : i < L.length) :
 ∃ ad, A = some ad ∧ w.cell? ⟨(ad.add (i * 6)).block, (ad.add (i * 6)).off + 5, none⟩ = some (.int .i64 (L.getD i default).en) := by
 obtain ⟨ad, rfl, _, _, _, _, _, c6, _⟩ := h i _ (List.getElem?_eq_getElem hi)
 exact ⟨ad, rfl, by rw [List.getD_eq_getElem?_getD, List.getElem?_eq_getElem hi]; exact c6⟩

set_option maxHeartbeats 1000000 in
theorem within_ok (A : Option Addr) (n c : Nat) (L : List Att) (b : Int) (w : World) (hA : Atts w A L) (hn : L.length = n) (h60 : n ≤ 100) :
 Calls Tryz.prog 60 #[.slice A n c, .int .i64 b] w fun e w' => e = .returned (.int .i64 (wth L b)) ∧ Upd [] w w' := by
 have HN := Lib.hid hn
 have HA := Lib.hid hA
 obtain ⟨S, hS⟩ : ∃ S, srt (ahd L) (List.range n) = S := ⟨_, rfl⟩
 have HW : Hid (wth L b = wthK L S b n) := Lib.hid (by unfold wth; rw [hn, hS])
 have HL : Hid (S.length = n) := Lib.hid (hS ▸ srt_len L n)
 have HT : Hid (∀ k, k < n → S.getD k 0 < n) := Lib.hid (hS ▸ fun k hk => srt_lt L n k hk)
 have HS := Lib.hid hS
 clear hn hA hS
 go_enter Tryz.func60, Tryz.ntmps60
 go_wp2_with fail
 refine (sort_ok A n c L _ HA.out HN.out h60).mono ?_; rintro e w1 ⟨v, rfl, o1, u1⟩
 rw [HS.out] at o1
 have O1 := Lib.hid o1
 have U1 := Lib.hid u1
 clear o1 u1
 obtain ⟨A1, c1, rfl, _⟩ := own_slice O1.out
 go_wp2_with fail
 go_loopw [5, 11] (fun m i wr => ∃ k : Nat, i = .int .i64 k ∧ k ≤ n ∧ m = .int .i64 (wthK L S b k) ∧ Hid (Upd [] w1 wr)) (fun _ i _ => n - (intOf i).toNat)
 case atStart => exact ⟨0, rfl, by omega, rfl, Lib.hid (.refl _ _)⟩
 case round =>
  obtain ⟨k, rfl, hk, rfl, HU⟩ := hrel
  by_cases hlt : k < n
  ·have KO := own_upd0 O1.out HU.out
   obtain ⟨g, c', cur, he, _⟩ := own_form KO (by omega)
   injection he with he _ he2
   subst he he2
   obtain ⟨i, hi⟩ : ∃ i, S.getD k 0 = i := ⟨_, rfl⟩
   have f1 : wr.cell? ⟨g, k, none⟩ = some (.int .i64 i) := by
    have := own_cell KO k _ (ints_get S k (by rw [HL.out]; exact hlt))
    rw [this, ← hi]; rfl
   have hin : i < n := hi ▸ HT.out k hlt
   obtain ⟨ad, rfl, f2⟩ := ((HA.out.upd U1.out).upd HU.out).en i (by rw [HN.out]; exact hin)
   obtain ⟨x, hx⟩ : ∃ x, (L.getD i default).en = x := ⟨_, rfl⟩
   rw [hx] at f2
   have HX := Lib.hid hx
   have HI := Lib.hid hi
   clear hx hi KO
   by_cases hlb : x < b
   ·go_wp2_with fail
    go_roundw
    case rel => exact ⟨k + 1, by go_num, by omega, by rw [wthK_yes HI.out (by rw [HX.out]; exact hlb)]; go_num, HU⟩
    case measure => simp [intOf]; omega
   ·go_wp2_with fail
    go_roundw
    case rel => exact ⟨k + 1, by go_num, by omega, by rw [wthK_no HI.out (by rw [HX.out]; exact hlb)], HU⟩
    case measure => simp [intOf]; omega
  ·obtain rfl : n = k := by omega
   go_wp2_with fail
   go_ret
   rw [HW.out]
   exact ⟨rfl, U1.out.trans HU.out⟩

end Go.Proofs.YtmjnmpifibemjaaGreatDoor

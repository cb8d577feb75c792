/-
  order.pile: Push, Pop, by contracts.
-/
import Derived.Test.YtegpfhldbdegbaaDoorPile2
set_option linter.unusedVariables false
namespace Go.Proofs.YtegpfhldbdegbaaDoor
open Go.RowKit HeapPlain

theorem int_info : (Tryd.prog.info? 3).map (fun i => (i.zero, i.size, i.bytes)) = some (some (.int .i64 0), 1, 8) := by kernel_rfl

set_option maxRecDepth 100000 in
set_option maxHeartbeats 400000 in
theorem push_walk (p : Nat) (v : Value) (c n : Nat) (A : Option Addr) (f : Value) (x : Int) (vs : List Value) (B : Nat) (w : World) (hB : B ≤ w.heap.size) (h : Blk w p 42 #[v, f]) (ho : w.ownsRow B 3 1 v n vs) (hn : n ≤ 1000) :
    Calls Tryd.prog 61 #[.pointer (some ⟨p, 0, none⟩), .iface 3 (.int .i64 x)] w fun e w' => e = .returned (.tuple #[]) ∧ ∃ g cap, Blk w' p 42 #[.slice (some ⟨g, 0, none⟩) (n + 1) cap, f] ∧ w'.ownsRow B 3 1 (.slice (some ⟨g, 0, none⟩) (n + 1) cap) (n + 1) (vs ++ [.int .i64 x]) ∧ Upd (p :: v.ownBlock.toList) w w' := by
  have f0 : w.cell? ⟨p, 0, none⟩ = some v := by rw [h.cell]; rfl
  have f1 : w.frozen? ⟨p, 0, none⟩ = false := h.frozen _
  have hl : p < w.heap.size := h.lt
  obtain ⟨i0, hi0, hz0, hz1, hz2⟩ := info_parts int_info
  have HB := Lib.hid h
  have HO := Lib.hid (own_upd0 ho ((Upd.refl [] w).alloc (.cells #[.int .i64 x] 3)))
  have HT := Lib.hid (own_type ho h (by decide))
  have hp : p ≤ w.heap.size := by omega
  have hp1 : p ≤ w.heap.size + 1 := by omega
  have ta : ∀ w, (Instr.typeAssert (.iface 3 (.int .i64 x)) 20 3 true).run Tryd.prog w = .ok (.tuple #[.int .i64 x, .bool true]) w := fun _ => by kernel_rfl
  clear h ho
  go_enter Tryd.func61, Tryd.ntmps61
  go_wp2_with (first
    | (at_builtin; refine wpList_append_lies _ rfl (.tmp 16) (.tmp 18) _ rfl B 3 i0 _ 1 8 Tryd.underlying24 hi0 hz0 hz1 hz2 rfl (by omega) v n vs rfl HO.out ⟨w.heap.size, 0, none⟩ 1 1 [.int .i64 x] rfl (by simp) (news_of_blk (Blk.new w 3 #[.int .i64 x])) (by intro u hu; simp at hu; subst hu; rfl) (by omega) (by simp only [maxLen]; omega) (by omega) (by simp; omega) (w.heap.size + 1) (by simp) ?_
       intro g cap w1 hown1 hg1 hat1 hlt1
       have b1 := Lib.hid ((HB.out.alloc (.cells #[.int .i64 x] 3)).grown hg1 (fun e => HT.out e.symm))
       have u1 := Lib.hid (((Upd.refl (p :: v.ownBlock.toList) w).alloc (.cells #[.int .i64 x] 3)).grown hg1 (fun k hk => .inl (by rw [hk]; simp)))
       have f2 : w1.frozen? ⟨p, 0, none⟩ = false := b1.out.frozen _
       have f3 : w1.cell? ⟨p, 0, none⟩ = some v := b1.out.cell _
       have f4 : g ≠ p := by
         intro e
         rcases hat1 with h | h
         · exact HT.out (e ▸ h)
         · omega
       have O1 := Lib.hid hown1
       clear hown1 hg1 hat1))
  go_end0
  exact ⟨rfl, g, cap, b1.out.set_eq rfl, own_upd O1.out ((Upd.refl [p] w1).setCell (.inl (by simp)) _) (by intro b hb; simp only [Value.ownBlock, Option.some.injEq] at hb; subst hb; simpa using f4), u1.out.setCell (.inl (by simp)) _⟩

set_option maxHeartbeats 400000 in
theorem pop_walk (p a c n : Nat) (f : Value) (x : Int) (w : World) (h : Blk w p 42 #[.slice (some ⟨a, 0, none⟩) (n + 1) c, f]) (hc : w.cell? ⟨a, n, none⟩ = some (.int .i64 x)) (hn : n ≤ 1000) (hcap : n + 1 ≤ c) (hcm : c ≤ maxLen) :
    Calls Tryd.prog 60 #[.pointer (some ⟨p, 0, none⟩)] w fun e w' => e = .returned (.iface 3 (.int .i64 x)) ∧ Blk w' p 42 #[.slice (some ⟨a, 0, none⟩) n c, f] ∧ Upd [p] w w' := by
  have f0 : w.cell? ⟨p, 0, none⟩ = some (.slice (some ⟨a, 0, none⟩) (n + 1) c) := by rw [h.cell]; rfl
  have f1 : w.frozen? ⟨p, 0, none⟩ = false := h.frozen _
  have hl : p < w.heap.size := h.lt
  unfold maxLen at hcm
  have HB := Lib.hid h
  have hx : (n : Int) ≤ c := by omega
  clear h
  go_enter Tryd.func60, Tryd.ntmps60
  go_wp2_with fail
  go_ret
  exact ⟨rfl, HB.out.set_eq rfl, (Upd.refl _ w).setCell (.inl (by simp)) _⟩

section
variable {w0 w w' : World} {p g : Nat} {A : Option Addr} {n c : Nat} {L : List Att} {v : Value} {xs : List Nat}
theorem ints_snoc (xs : List Nat) (x : Nat) : ints (xs ++ [x]) = ints xs ++ [.int .i64 x] := by simp [ints]
theorem ints_take (xs : List Nat) (k : Nat) : ints (xs.take k) = (ints xs).take k := by simp [ints]

theorem PileV.push_ok (h : PileV w0 p g A n c L v w xs) (x : Nat) (hx : x < L.length) (hs : xs.length < 1000) :
    Calls Tryd.prog 61 #[.pointer (some ⟨p, 0, none⟩), .iface 3 (.int .i64 x)] w fun e w' => e = .returned (.tuple #[]) ∧ ∃ v', PileV w0 p g A n c L v' w' (xs ++ [x]) := by
  refine (push_walk p v c xs.length A (lessF g) x (ints xs) w0.heap.size w h.base h.pb h.own (by omega)).mono ?_
  rintro e w1 ⟨rfl, a, cap, b1, o1, u1⟩
  refine ⟨rfl, .slice (some ⟨a, 0, none⟩) (xs.length + 1) cap, ?_⟩
  rw [← ints_snoc] at o1
  have hl : (xs ++ [x]).length = xs.length + 1 := by simp
  exact { pb := b1
          own := by rw [hl]; exact o1
          gb := h.gb.upd u1 (by
            simp only [List.mem_cons, Option.mem_toList]
            rintro (e | e)
            · exact h.pg e.symm
            · exact h.own_g e)
          bel := h.bel.trans (u1.below h.base (by
            simp only [List.mem_cons, Option.mem_toList]
            rintro b (rfl | e)
            · exact h.pn
            · exact (own_lt h.own e).1))
          pn := h.pn, gn := h.gn, small := by omega
          all := by
            intro y hy
            rcases List.mem_append.1 hy with hy | hy
            · exact h.all y hy
            · simp only [List.mem_singleton] at hy; subst hy; exact hx
          atts := h.atts, len := h.len, base := Nat.le_trans h.base u1.size }

theorem PileV.pop_ok (h : PileV w0 p g A n c L v w xs) (m : Nat) (hm : xs.length = m + 1) :
    Calls Tryd.prog 60 #[.pointer (some ⟨p, 0, none⟩)] w fun e w' => e = .returned (.iface 3 (.int .i64 (xs.getD m default : Nat))) ∧ ∃ v', v'.ownBlock = v.ownBlock ∧ PileV w0 p g A n c L v' w' (xs.take m) ∧ Upd [p] w w' := by
  have hp := h.own_p
  obtain ⟨a, cap, cur, rfl, ha, hb, hc1, hc2, _⟩ := own_form h.own (by omega)
  have ho := h.own
  have hpb := h.pb
  have hsm := h.small
  rw [hm] at ho hpb hc1 hsm
  refine (pop_walk p a cap m (lessF g) (xs.getD m default : Nat) w hpb (own_cell ho m _ (ints_get xs m (by omega))) (by omega) hc1 hc2).mono ?_
  rintro e w1 ⟨rfl, b1, u1⟩
  refine ⟨rfl, .slice (some ⟨a, 0, none⟩) m cap, rfl, ?_, u1⟩
  have o1 := own_take ho m (by omega)
  rw [Nat.mul_one, ← ints_take] at o1
  have hl : (xs.take m).length = m := by rw [List.length_take]; omega
  exact { pb := b1
          own := by
            rw [hl]
            exact own_upd o1 u1 fun b hb hm => hp (by simp only [List.mem_singleton] at hm; subst hm; exact hb)
          gb := h.gb.upd u1 (by simp; exact fun e => h.pg e.symm)
          bel := h.bel.trans (u1.below h.base (by simpa using h.pn))
          pn := h.pn, gn := h.gn, small := by rw [hl]; have := h.small; omega
          all := fun y hy => h.all y (List.mem_of_mem_take hy)
          atts := h.atts, len := h.len, base := Nat.le_trans h.base u1.size }
end
end Go.Proofs.YtegpfhldbdegbaaDoor

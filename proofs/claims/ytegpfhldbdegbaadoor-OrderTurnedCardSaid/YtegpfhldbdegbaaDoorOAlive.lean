/-
  Lists of attempts out of arguments and literals; concordlaw12.alive.
-/
import Derived.Test.YtegpfhldbdegbaaDoorOCheck
import Derived.Test.YtegpfhldbdegbaaDoorInts
import Derived.Test.YtegpfhldbdegbaaDoorPost
set_option linter.unusedVariables false
namespace Go.Proofs.YtegpfhldbdegbaaDoor
open Go.RowKit Go.Deep

theorem add_more (a : Addr) (i j : Nat) : a.add (i + (j + 1)) = ⟨(a.add i).block, (a.add i).off + (j + 1), none⟩ := by
  unfold Addr.add
  by_cases h : i = 0
  · subst h; simp
  · simp [h]; omega
set_option maxRecDepth 100000 in
/-- An argument that is a list of attempts. -/
theorem atts_of {H : Type} {enc : TypeId × Value → H} {W : World} {base b0 : Nat} {spare : Nat → Bool} {held : Bool} {v : Value} {d : DataW H} {ps : List MemPlace} {r : Reach}
    (hok : Value.okWide Tryd.prog W r b0 22 v) (h : DataW.Trod enc Tryd.prog W base spare held 22 v d ps) :
    ∃ A n c, v = .slice A n c ∧ n ≤ c ∧ c ≤ 9223372036854775807 ∧ ∃ L, Atts W A L ∧ L.length = n := by
  obtain ⟨A, n, c, rfl, h1, h2, h3⟩ := rows_of_slice Tryd.underlying22 Tryd.underlying38 (by kernel_rfl) (by kernel_rfl) hok h
  have key : ∀ i, i < n → ∃ x : Att, ∃ ad, A = some ad ∧ W.cell? (ad.add (i * 6)) = some (.int .i64 x.th) ∧ W.cell? ⟨(ad.add (i * 6)).block, (ad.add (i * 6)).off + 1, none⟩ = some (.int .i64 x.ix) ∧ W.cell? ⟨(ad.add (i * 6)).block, (ad.add (i * 6)).off + 2, none⟩ = some (.int .i64 x.st) ∧
      W.cell? ⟨(ad.add (i * 6)).block, (ad.add (i * 6)).off + 3, none⟩ = some (.bool x.wr) ∧ W.cell? ⟨(ad.add (i * 6)).block, (ad.add (i * 6)).off + 4, none⟩ = some (.int .i64 x.be) ∧ W.cell? ⟨(ad.add (i * 6)).block, (ad.add (i * 6)).off + 5, none⟩ = some (.int .i64 x.en) ∧ (ad.add (i * 6)).block < W.heap.size := by
    intro i hi
    obtain ⟨a, rfl, vs, hl, hc, hf⟩ := h3 i hi
    obtain ⟨u0, y0, k0, e0, t0⟩ := hf 0 _ rfl
    obtain ⟨u1, y1, k1, e1, t1⟩ := hf 1 _ rfl
    obtain ⟨u2, y2, k2, e2, t2⟩ := hf 2 _ rfl
    obtain ⟨u3, y3, k3, e3, t3⟩ := hf 3 _ rfl
    obtain ⟨u4, y4, k4, e4, t4⟩ := hf 4 _ rfl
    obtain ⟨u5, y5, k5, e5, t5⟩ := hf 5 _ rfl
    obtain ⟨x0, g0, _, _⟩ := DataW.trod_int Tryd.underlying3 t0
    obtain ⟨x1, g1, _, _⟩ := DataW.trod_int Tryd.underlying3 t1
    obtain ⟨x2, g2, _, _⟩ := DataW.trod_int Tryd.underlying3 t2
    obtain ⟨x3, g3, _⟩ := DataW.trod_bool Tryd.underlying4 t3
    obtain ⟨x4, g4, _, _⟩ := DataW.trod_int Tryd.underlying3 t4
    obtain ⟨x5, g5, _, _⟩ := DataW.trod_int Tryd.underlying3 t5
    simp only [List.cons.injEq, and_true] at g0 g1 g2 g3 g4 g5
    subst g0 g1 g2 g3 g4 g5
    have c0 := hc 0 _ e0
    have c1 := hc 1 _ e1
    have c2 := hc 2 _ e2
    have c3 := hc 3 _ e3
    have c4 := hc 4 _ e4
    have c5 := hc 5 _ e5
    simp only [List.size_toArray, List.length_cons, List.length_nil, Nat.zero_add, Nat.reduceAdd, Nat.add_zero] at c0 c1 c2 c3 c4 c5
    rw [add_more a (i * 6) 0] at c1
    rw [add_more a (i * 6) 1] at c2
    rw [add_more a (i * 6) 2] at c3
    rw [add_more a (i * 6) 3] at c4
    rw [add_more a (i * 6) 4] at c5
    exact ⟨⟨x0, x1, x2, x3, x4, x5⟩, a, rfl, c0, c1, c2, c3, c4, c5, World.block_lt_of_cell? _ _ c0⟩
  refine ⟨A, n, c, rfl, h1, by simp only [maxLen] at h2; omega, ?_⟩
  have mk : ∀ m, m ≤ n → ∃ L, Atts W A L ∧ L.length = m := by
    intro m
    induction m with
    | zero => exact fun _ => ⟨[], fun k v h => by simp at h, rfl⟩
    | succ m ih =>
      intro hm
      obtain ⟨L, hL, hl⟩ := ih (by omega)
      obtain ⟨x, hx⟩ := key m (by omega)
      refine ⟨L ++ [x], fun k v hk => ?_, by simp [hl]⟩
      rcases Nat.lt_trichotomy k L.length with h | h | h
      · rw [List.getElem?_append_left h] at hk
        exact hL k v hk
      · subst h
        simp at hk
        subst hk
        rw [hl]
        exact hx
      · rw [List.getElem?_eq_none (by simp; omega)] at hk
        cases hk
  exact mk n (Nat.le_refl _)

def flatA (v : Att) : List Value := [.int .i64 v.th, .int .i64 v.ix, .int .i64 v.st, .bool v.wr, .int .i64 v.be, .int .i64 v.en]
theorem flatA_at : ∀ (L : List Att) (k : Nat) (v : Att) (j : Nat), L[k]? = some v → j < 6 → (L.flatMap flatA)[k * 6 + j]? = (flatA v)[j]?
  | [], k, v, j, h, _ => by simp at h
  | a :: L, 0, v, j, h, hj => by
    simp at h
    subst h
    rw [List.flatMap_cons, List.getElem?_append_left (by simp [flatA]; omega)]
    simp
  | a :: L, k + 1, v, j, h, hj => by
    have := flatA_at L k v j (by simpa using h) hj
    rw [List.flatMap_cons, List.getElem?_append_right (by simp [flatA]; omega), ← this]
    congr 1
    simp [flatA]
    omega
/-- A literal of attempts. -/
theorem atts_of_blk {w : World} {g : Nat} {t : TypeId} {cs : Array Value} {L : List Att} (h : Blk w g t cs) (hc : cs.toList = L.flatMap flatA) : Atts w (some ⟨g, 0, none⟩) L := by
  intro k v hk
  have key : ∀ j u, j < 6 → (flatA v)[j]? = some u → w.cell? ⟨g, k * 6 + j, none⟩ = some u := fun j u hj hu => by
    rw [h.cell, ← Array.getElem?_toList, hc, flatA_at L k v j hk hj]; exact hu
  refine ⟨_, rfl, ?_, ?_, ?_, ?_, ?_, ?_, ?_⟩
  all_goals rw [add_head]
  · exact key 0 _ (by omega) rfl
  · exact key 1 _ (by omega) rfl
  · exact key 2 _ (by omega) rfl
  · exact key 3 _ (by omega) rfl
  · exact key 4 _ (by omega) rfl
  · exact key 5 _ (by omega) rfl
  · exact h.lt

def exA : List Att := [⟨0, 0, 2, true, 0, 0⟩, ⟨0, 0, 1, true, 0, 0⟩, ⟨0, 0, 1, false, 0, 0⟩]
def exB : List Att := [⟨0, 0, 2, false, 0, 1⟩, ⟨0, 0, 1, false, 2, 3⟩]
def exC : List Att := [⟨0, 0, 1, false, 0, 4⟩]
theorem exA_sort : srt (ahd exA) (List.range 3) = [1, 2, 0] := by decide
theorem exA_chk : chkR exA = (0, 0) := by decide
theorem exB_chk : chkR exB = (12, 2) := by decide
theorem exC_wth : wth exC 5 = 1 := by decide
set_option maxRecDepth 100000 in
set_option maxHeartbeats 1000000 in
theorem alive_ok (w : World) (hg : Typed w) : Calls Tryd.prog 8 #[] w fun e w' => e = .returned (.bool true) ∧ Upd [] w w' := by
  have HG := Lib.hid hg
  clear hg
  go_enter Tryd.func8, Tryd.ntmps8
  go_wp2_with fail
  have A1 : Hid (Atts ((w.alloc (.cells #[.int .i64 0, .int .i64 0, .int .i64 2, .bool true, .int .i64 0, .int .i64 0, .int .i64 0, .int .i64 0, .int .i64 1, .bool true, .int .i64 0, .int .i64 0, .int .i64 0, .int .i64 0, .int .i64 1, .bool false, .int .i64 0, .int .i64 0] 38)).alloc (.cells #[.int .i64 0, .int .i64 0, .int .i64 2, .bool false, .int .i64 0, .int .i64 1, .int .i64 0, .int .i64 0, .int .i64 1, .bool false, .int .i64 2, .int .i64 3] 38)) (some ⟨w.heap.size, 0, none⟩) exA) := Lib.hid (atts_of_blk ((Blk.new w _ _).alloc _) rfl)
  have B1 : Hid (Atts ((w.alloc (.cells #[.int .i64 0, .int .i64 0, .int .i64 2, .bool true, .int .i64 0, .int .i64 0, .int .i64 0, .int .i64 0, .int .i64 1, .bool true, .int .i64 0, .int .i64 0, .int .i64 0, .int .i64 0, .int .i64 1, .bool false, .int .i64 0, .int .i64 0] 38)).alloc (.cells #[.int .i64 0, .int .i64 0, .int .i64 2, .bool false, .int .i64 0, .int .i64 1, .int .i64 0, .int .i64 0, .int .i64 1, .bool false, .int .i64 2, .int .i64 3] 38)) (some ⟨w.heap.size + 1, 0, none⟩) exB) := Lib.hid (atts_of_blk (by have := Blk.new (w.alloc (.cells #[.int .i64 0, .int .i64 0, .int .i64 2, .bool true, .int .i64 0, .int .i64 0, .int .i64 0, .int .i64 0, .int .i64 1, .bool true, .int .i64 0, .int .i64 0, .int .i64 0, .int .i64 0, .int .i64 1, .bool false, .int .i64 0, .int .i64 0] 38)) 38 (exB.flatMap flatA).toArray; rw [show (w.alloc (.cells #[.int .i64 0, .int .i64 0, .int .i64 2, .bool true, .int .i64 0, .int .i64 0, .int .i64 0, .int .i64 0, .int .i64 1, .bool true, .int .i64 0, .int .i64 0, .int .i64 0, .int .i64 0, .int .i64 1, .bool false, .int .i64 0, .int .i64 0] 38)).heap.size = w.heap.size + 1 by simp] at this; exact this) rfl)
  have U2 : Hid (Upd [] w ((w.alloc (.cells #[.int .i64 0, .int .i64 0, .int .i64 2, .bool true, .int .i64 0, .int .i64 0, .int .i64 0, .int .i64 0, .int .i64 1, .bool true, .int .i64 0, .int .i64 0, .int .i64 0, .int .i64 0, .int .i64 1, .bool false, .int .i64 0, .int .i64 0] 38)).alloc (.cells #[.int .i64 0, .int .i64 0, .int .i64 2, .bool false, .int .i64 0, .int .i64 1, .int .i64 0, .int .i64 0, .int .i64 1, .bool false, .int .i64 2, .int .i64 3] 38))) := Lib.hid (((Upd.refl [] w).alloc _).alloc _)
  generalize ((w.alloc (.cells #[.int .i64 0, .int .i64 0, .int .i64 2, .bool true, .int .i64 0, .int .i64 0, .int .i64 0, .int .i64 0, .int .i64 1, .bool true, .int .i64 0, .int .i64 0, .int .i64 0, .int .i64 0, .int .i64 1, .bool false, .int .i64 0, .int .i64 0] 38)).alloc (.cells #[.int .i64 0, .int .i64 0, .int .i64 2, .bool false, .int .i64 0, .int .i64 1, .int .i64 0, .int .i64 0, .int .i64 1, .bool false, .int .i64 2, .int .i64 3] 38)) = w2 at *
  refine (check_ok _ 2 2 exB _ B1.out rfl (by omega) (by omega) (by omega)).mono ?_; rintro e w3 ⟨v3, rfl, e3, u3⟩
  rw [exB_chk] at e3
  have E3 := Lib.hid e3
  have U3 := Lib.hid u3
  clear e3 u3
  go_wp2_with fail
  refine (sort_ok _ 3 3 exA _ (A1.out.upd U3.out) rfl (by omega)).mono ?_; rintro e w4 ⟨v4, rfl, o4, u4⟩
  rw [exA_sort] at o4
  have O4 := Lib.hid o4
  have U4 := Lib.hid (U3.out.trans u4)
  have E4 := Lib.hid (E3.out.upd u4)
  clear o4 u4
  go_wp2_with fail
  refine (ints_ok v4 _ 3 [1, 2, 0] _ (.of_own (own_upd0 O4.out ((Upd.refl [] w4).alloc _))) (.of_blk (Blk.new w4 _ _) 3 rfl) (by omega)).mono ?_; rintro e w5 ⟨rfl, u5⟩
  have U5 := Lib.hid (U4.out.trans (((Upd.refl [] w4).alloc _).trans u5))
  have E5 := Lib.hid (E4.out.upd (((Upd.refl [] w4).alloc _).trans u5))
  clear u5
  go_wp2_with fail
  refine (check_ok _ 3 3 exA _ (A1.out.upd U5.out) rfl (by omega) (by omega) (by omega)).mono ?_; rintro e w6 ⟨v6, rfl, e6, u6⟩
  rw [exA_chk] at e6
  have E6 := Lib.hid e6
  have U6 := Lib.hid (U5.out.trans u6)
  have E7 := Lib.hid (E5.out.upd u6)
  clear e6 u6
  go_wp2_with fail
  refine (no_err E6.out).mono ?_; rintro e w7 ⟨rfl, rfl⟩
  go_wp2_with fail
  refine (no_err E7.out).mono ?_; rintro e w7 ⟨rfl, rfl⟩
  go_wp2_with fail
  refine (place_err E7.out (HG.out.upd (U2.out.trans U6.out) (by simp))).mono ?_; rintro e w8 ⟨rfl, u8⟩
  have U8 := Lib.hid ((U2.out.trans U6.out).trans u8)
  clear u8
  go_wp2_with fail
  refine (within_ok _ 1 1 exC 5 _ (atts_of_blk (Blk.new w8 38 (exC.flatMap flatA).toArray) rfl) rfl (by omega)).mono ?_; rintro e w9 ⟨rfl, u9⟩
  rw [exC_wth]
  have U9 := Lib.hid ((U8.out.alloc _).trans u9)
  clear u9
  go_wp2_with fail
  go_ret
  exact ⟨rfl, U9.out⟩
end Go.Proofs.YtegpfhldbdegbaaDoor

/-
  snap.streams: the heap's methods, by contracts.
-/
import Derived.Test.YthdjbflbhgbckaaDoorDiff
import Derived.Test.YthdjbflbhgbckaaDoorHeapStrs

set_option linter.unusedVariables false
namespace Go.Proofs.YthdjbflbhgbckaaDoor
open Go.RowKit HeapPlain Stab Snap
attribute [local go_sem] litStep_value

/-- A stream: its iterator's block, its pair, its place. -/
structure Sm where
  it : Nat
  k : Int
  v : Int
  n : Int
deriving Inhabited, DecidableEq
def encSm : Enc Sm := ⟨fun s => [.pointer (some ⟨s.it, 0, none⟩), .int .i64 s.k, .int .i64 s.v, .int .i64 s.n], 4, fun _ => rfl, by intro a u hu; simp at hu; rcases hu with rfl | rfl | rfl | rfl <;> rfl, by omega⟩
def ltS (a b : Sm) : Bool := decide (orL [cmpI a.k b.k, cmpI a.n b.n] < 0)
theorem elem_sm : Elem Tryd.prog 80 85 4 32 := .mk' (z := ((Tryd.prog.info? 85).bind (·.zero)).getD undef) Tryd.underlying80 (by kernel_rfl) (by kernel_rfl) (by omega)
theorem ltS_iff (a b : Sm) : ltS a b = true ↔ a.k < b.k ∨ (a.k = b.k ∧ a.n < b.n) := by
  unfold ltS
  rw [decide_eq_true_iff]
  simp only [orL]
  unfold cmpI
  by_cases h1 : a.k < b.k
  · simp [h1]
  · by_cases h2 : b.k < a.k
    · simp [h1, h2]
      omega
    · have e : a.k = b.k := by omega
      by_cases h3 : a.n < b.n
      · simp [h1, h2, h3, e]
      · by_cases h4 : b.n < a.n
        · simp [h1, h2, h3, h4, e]
        · simp [h1, h2, h3, h4, e]
theorem flat_set4 : ∀ (L : List Sm) (k : Nat) (t : Sm), flat encSm (L.set k t) = ((((flat encSm L).set (k * 4) (.pointer (some ⟨t.it, 0, none⟩))).set (k * 4 + 1) (.int .i64 t.k)).set (k * 4 + 2) (.int .i64 t.v)).set (k * 4 + 3) (.int .i64 t.n)
  | [], k, t => by simp [flat]
  | a :: L, 0, t => by simp [flat, encSm]
  | a :: L, k + 1, t => by
    have := flat_set4 L k t
    unfold flat at this ⊢
    rw [List.set_cons_succ, List.flatMap_cons, List.flatMap_cons, this]
    rw [show (k + 1) * 4 = k * 4 + 4 by omega, show k * 4 + 4 + 1 = k * 4 + 1 + 4 by omega, show k * 4 + 4 + 2 = k * 4 + 2 + 4 by omega, show k * 4 + 4 + 3 = k * 4 + 3 + 4 by omega]
    rfl
/-- The heap in block p. -/
structure StmSt (B p : Nat) (w : World) (xs : List Sm) : Prop where
  obj : ∃ v, Blk w p 82 #[v] ∧ Ow encSm 85 w B v xs
  small : xs.length ≤ 1000
  bp : B ≤ p
/-- Only blocks from B on, of the heap's two types, or new ones, may have turned. -/
structure FrS (B : Nat) (w w' : World) : Prop where
  os : w'.os = w.os
  tape : w'.tape = w.tape
  output : w'.output = w.output
  size : w.heap.size ≤ w'.heap.size
  keep : ∀ k, k < w.heap.size → (k < B ∨ ∃ t cs, Blk w k t cs ∧ t ≠ 82 ∧ t ≠ 85) → w'.heap[k]? = w.heap[k]?
section
variable {B p : Nat} {w w' w1 w0 : World} {xs : List Sm}
theorem FrS.refl (B : Nat) (w : World) : FrS B w w := ⟨rfl, rfl, rfl, Nat.le_refl _, fun _ _ _ => rfl⟩
theorem FrS.blk {g : Nat} {t : TypeId} {cs : Array Value} (h : FrS B w w') (hb : Blk w g t cs) (h1 : t ≠ 82) (h2 : t ≠ 85) : Blk w' g t cs := (h.keep g hb.lt (.inr ⟨t, cs, hb, h1, h2⟩)).trans hb
theorem FrS.trans (h : FrS B w w1) (h' : FrS B w1 w') : FrS B w w' :=
  ⟨h'.os.trans h.os, h'.tape.trans h.tape, h'.output.trans h.output, Nat.le_trans h.size h'.size, fun k hk ho => by
    have e := h.keep k hk ho
    refine (h'.keep k (Nat.lt_of_lt_of_le hk h.size) ?_).trans e
    rcases ho with ho | ⟨t, cs, hb, h1, h2⟩
    · exact .inl ho
    · exact .inr ⟨t, cs, e.trans hb, h1, h2⟩⟩
theorem FrS.of_upd {S : List Nat} (h : Upd S w w') (hS : ∀ x ∈ S, B ≤ x ∧ (w.heap.size ≤ x ∨ ∃ t cs, Blk w x t cs ∧ (t = 82 ∨ t = 85))) : FrS B w w' :=
  ⟨h.os, h.tape, h.output, h.size, fun k hk ho => h.keep k hk (fun hm => by
    obtain ⟨hB, hx⟩ := hS k hm
    rcases ho with ho | ⟨t, cs, hb, h1, h2⟩
    · omega
    · rcases hx with hx | ⟨t', cs', hb', ht⟩
      · omega
      · unfold Blk at hb hb'
        rw [hb] at hb'
        injection hb' with hb'
        injection hb' with _ e
        subst e
        exact ht.elim h1 h2)⟩
theorem FrS.upd0 (h : Upd [] w w') : FrS B w w' := .of_upd h (by simp)
theorem FrS.rest (h : FrS B w w') (hu : Upd [] w0 w) (hB : w0.heap.size ≤ B) : Upd [] w0 w' :=
  ⟨h.os.trans hu.os, h.tape.trans hu.tape, h.output.trans hu.output, Nat.le_trans hu.size h.size, fun k hk _ => (h.keep k (Nat.lt_of_lt_of_le hk hu.size) (.inl (by omega))).trans (hu.keep k hk (by simp))⟩
theorem StmSt.upd0 (h : StmSt B p w xs) (hu : Upd [] w w') : StmSt B p w' xs := by
  obtain ⟨v, hb, ho⟩ := h.obj
  exact ⟨⟨v, hb.upd hu (by simp), ho.upd0 hu⟩, h.small, h.bp⟩
end
theorem str_len (B p : Nat) (xs : List Sm) (w : World) (hs : StmSt B p w xs) : Calls Tryd.prog 39 #[.pointer (some ⟨p, 0, none⟩)] w fun e w' => e = .returned (.int .i64 xs.length) ∧ StmSt B p w' xs ∧ FrS B w w' := by
  have HS := Lib.hid hs
  obtain ⟨v, hb, ho⟩ := hs.obj
  obtain ⟨A, c, rfl, _, _⟩ := own_slice ho
  have c0 : w.cell? ⟨p, 0, none⟩ = some (.slice A xs.length c) := hb.cell 0
  have hsm := hs.small
  clear hs hb ho
  go_enter Tryd.func39, Tryd.ntmps39
  go_wp2_with fail
  go_ret
  exact ⟨rfl, HS.out, .refl _ _⟩
set_option maxRecDepth 100000 in
set_option maxHeartbeats 1000000 in
theorem str_less (B p : Nat) (xs : List Sm) (i j : Nat) (w : World) (hs : StmSt B p w xs) (hi : i < xs.length) (hj : j < xs.length) :
    Calls Tryd.prog 88 #[.pointer (some ⟨p, 0, none⟩), .int .i64 i, .int .i64 j] w fun e w' => e = .returned (.bool (ltS (xs.getD i default) (xs.getD j default))) ∧ StmSt B p w' xs ∧ FrS B w w' := by
  have HS := Lib.hid hs
  obtain ⟨v, hb, ho⟩ := hs.obj
  obtain ⟨g, c, cur, rfl, -⟩ := own_form ho (by omega)
  obtain ⟨x, hx⟩ : ∃ x, xs[i]? = some x := ⟨_, List.getElem?_eq_getElem hi⟩
  obtain ⟨y, hy⟩ : ∃ y, xs[j]? = some y := ⟨_, List.getElem?_eq_getElem hj⟩
  have ex : xs.getD i default = x := by rw [List.getD_eq_getElem?_getD, hx]; rfl
  have ey : xs.getD j default = y := by rw [List.getD_eq_getElem?_getD, hy]; rfl
  have CS : Hid (∀ W, Upd [] w.drew W → W.cell? ⟨p, 0, none⟩ = some (.slice (some ⟨g, 0, none⟩) xs.length c) ∧ W.cell? ⟨g, i * 4 + 1, none⟩ = some (.int .i64 x.k) ∧ W.cell? ⟨g, i * 4 + 1 + 1, none⟩ = some (.int .i64 x.v) ∧ W.cell? ⟨g, i * 4 + 3, none⟩ = some (.int .i64 x.n) ∧ W.cell? ⟨g, j * 4 + 1, none⟩ = some (.int .i64 y.k) ∧ W.cell? ⟨g, j * 4 + 1 + 1, none⟩ = some (.int .i64 y.v) ∧ W.cell? ⟨g, j * 4 + 3, none⟩ = some (.int .i64 y.n)) := Lib.hid (fun W hW => by
    have hu : Upd [] w W := (Upd.refl [] w).drew.trans hW
    have ho' := ho.upd0 hu
    exact ⟨(hb.upd hu (by simp)).cell 0, ho'.at_ hx 1 _ rfl, ho'.at_ hx 2 _ rfl, ho'.at_ hx 3 _ rfl, ho'.at_ hy 1 _ rfl, ho'.at_ hy 2 _ rfl, ho'.at_ hy 3 _ rfl⟩)
  rw [ex, ey]
  have HL : Hid (ltS x y = decide (orL [cmpI x.k y.k, cmpI x.n y.n] < 0)) := Lib.hid rfl
  obtain ⟨r, hr⟩ : ∃ r, orL [cmpI x.k y.k, cmpI x.n y.n] = r := ⟨_, rfl⟩
  rw [hr] at HL
  have HRR := Lib.hid hr
  obtain ⟨n, hn⟩ : ∃ n, xs.length = n := ⟨_, rfl⟩
  rw [hn] at CS hi hj
  have hsm : n ≤ 1000 := by rw [← hn]; exact hs.small
  have q1 : (0 : Int) ≤ (i : Int) := by omega
  have q2 : (i : Int) < (n : Int) := by omega
  have q3 : (0 : Int) ≤ (j : Int) := by omega
  have q4 : (j : Int) < (n : Int) := by omega
  clear hs hb ho hx hy ex ey hn hr
  go_enter Tryd.func88, Tryd.ntmps88
  go_wp2_with fail
  refine wp_invN [(16, .det (.int .i64 (cmpI x.k y.k))), (33, .det (.int .i64 (cmpI x.n y.n))), (34, .lit 3 #[.int .i64 (cmpI x.k y.k), .int .i64 (cmpI x.n y.n)] 2), (35, .det (.int .i64 r))] [] (by kernel_rfl) (by kernel_rfl) (by kernel_rfl) ⟨lasts_det _, lasts_det _, lasts_lit _ _ _, lasts_det _, trivial⟩ ?_
  with_reducible apply wpV_light
  · simp only [lightOp]
  · intro W hU hF
    have f0 := CS.out W hU
    clear hU hF
    go_simp
    exact rfl
  simp only [Act.put, List.setIfInBounds_toArray, List.set_cons_zero, List.set_cons_succ]
  with_reducible apply wpV_light
  · simp only [lightOp]
  · intro W hU hF
    have f0 := CS.out W hU
    clear hU hF
    go_simp
    exact rfl
  simp only [Act.put, List.setIfInBounds_toArray, List.set_cons_zero, List.set_cons_succ]
  with_reducible apply wpV_light
  · simp only [lightOp]
  · intro W hU hF
    have f0 := CS.out W hU
    clear hU hF
    go_simp
    exact rfl
  simp only [Act.put, List.setIfInBounds_toArray, List.set_cons_zero, List.set_cons_succ]
  with_reducible apply wpV_light
  · simp only [lightOp]
  · intro W hU hF
    have f0 := CS.out W hU
    clear hU hF
    go_simp
    exact rfl
  simp only [Act.put, List.setIfInBounds_toArray, List.set_cons_zero, List.set_cons_succ]
  with_reducible apply wpV_light
  · simp only [lightOp]
  · intro W hU hF
    have f0 := CS.out W hU
    clear hU hF
    go_simp
    exact rfl
  simp only [Act.put, List.setIfInBounds_toArray, List.set_cons_zero, List.set_cons_succ]
  with_reducible apply wpV_light
  · simp only [lightOp]
  · intro W hU hF
    have f0 := CS.out W hU
    clear hU hF
    go_simp
    exact rfl
  simp only [Act.put, List.setIfInBounds_toArray, List.set_cons_zero, List.set_cons_succ]
  with_reducible apply wpV_light
  · simp only [lightOp]
  · intro W hU hF
    have f0 := CS.out W hU
    clear hU hF
    go_simp
    exact rfl
  simp only [Act.put, List.setIfInBounds_toArray, List.set_cons_zero, List.set_cons_succ]
  with_reducible apply wpV_light
  · simp only [lightOp]
  · intro W hU hF
    have f0 := CS.out W hU
    clear hU hF
    go_simp
    exact rfl
  simp only [Act.put, List.setIfInBounds_toArray, List.set_cons_zero, List.set_cons_succ]
  with_reducible apply wpV_light
  · simp only [lightOp]
  · intro W hU hF
    have f0 := CS.out W hU
    clear hU hF
    go_simp
    exact rfl
  simp only [Act.put, List.setIfInBounds_toArray, List.set_cons_zero, List.set_cons_succ]
  with_reducible apply wpV_light
  · simp only [lightOp]
  · intro W hU hF
    have f0 := CS.out W hU
    clear hU hF
    go_simp
    exact rfl
  simp only [Act.put, List.setIfInBounds_toArray, List.set_cons_zero, List.set_cons_succ]
  with_reducible apply wpV_light
  · simp only [lightOp]
  · intro W hU hF
    have f0 := CS.out W hU
    clear hU hF
    go_simp
    exact rfl
  simp only [Act.put, List.setIfInBounds_toArray, List.set_cons_zero, List.set_cons_succ]
  with_reducible apply wpV_light
  · simp only [lightOp]
  · intro W hU hF
    have f0 := CS.out W hU
    clear hU hF
    go_simp
    exact rfl
  simp only [Act.put, List.setIfInBounds_toArray, List.set_cons_zero, List.set_cons_succ]
  with_reducible apply wpV_light
  · simp only [lightOp]
  · intro W hU hF
    have f0 := CS.out W hU
    clear hU hF
    go_simp
    exact rfl
  simp only [Act.put, List.setIfInBounds_toArray, List.set_cons_zero, List.set_cons_succ]
  with_reducible apply wpV_light
  · simp only [lightOp]
  · intro W hU hF
    have f0 := CS.out W hU
    clear hU hF
    go_simp
    exact rfl
  simp only [Act.put, List.setIfInBounds_toArray, List.set_cons_zero, List.set_cons_succ]
  with_reducible apply wpV_light
  · simp only [lightOp]
  · intro W hU hF
    have f0 := CS.out W hU
    clear hU hF
    go_simp
    exact rfl
  simp only [Act.put, List.setIfInBounds_toArray, List.set_cons_zero, List.set_cons_succ]
  with_reducible apply wpV_light
  · simp only [lightOp]
  · intro W hU hF
    have f0 := CS.out W hU
    clear hU hF
    go_simp
    exact rfl
  simp only [Act.put, List.setIfInBounds_toArray, List.set_cons_zero, List.set_cons_succ]
  refine wpV_heavy (by simp only [lightOp]) (by rfl) (fun W hU hk hF K hK => ?_) ?_
  · go_wp2_with fail
    refine (bykey_ok x.k x.v y.k y.v W).mono ?_; rintro e w2 ⟨rfl, u2⟩
    go_wp2_with fail
    exact hK.out _ _ (outV_new rfl rfl (by intro b hb; cases hb) u2)
  rintro _ rfl
  simp only [Act.put, List.setIfInBounds_toArray, List.set_cons_zero, List.set_cons_succ]
  with_reducible apply wpV_light
  · simp only [lightOp]
  · intro W hU hF
    have f0 := CS.out W hU
    clear hU hF
    go_simp
    exact rfl
  simp only [Act.put, List.setIfInBounds_toArray, List.set_cons_zero, List.set_cons_succ]
  with_reducible apply wpV_light
  · simp only [lightOp]
  · intro W hU hF
    have f0 := CS.out W hU
    clear hU hF
    go_simp
    exact rfl
  simp only [Act.put, List.setIfInBounds_toArray, List.set_cons_zero, List.set_cons_succ]
  with_reducible apply wpV_light
  · simp only [lightOp]
  · intro W hU hF
    have f0 := CS.out W hU
    clear hU hF
    go_simp
    exact rfl
  simp only [Act.put, List.setIfInBounds_toArray, List.set_cons_zero, List.set_cons_succ]
  with_reducible apply wpV_light
  · simp only [lightOp]
  · intro W hU hF
    have f0 := CS.out W hU
    clear hU hF
    go_simp
    exact rfl
  simp only [Act.put, List.setIfInBounds_toArray, List.set_cons_zero, List.set_cons_succ]
  with_reducible apply wpV_light
  · simp only [lightOp]
  · intro W hU hF
    have f0 := CS.out W hU
    clear hU hF
    go_simp
    exact rfl
  simp only [Act.put, List.setIfInBounds_toArray, List.set_cons_zero, List.set_cons_succ]
  with_reducible apply wpV_light
  · simp only [lightOp]
  · intro W hU hF
    have f0 := CS.out W hU
    clear hU hF
    go_simp
    exact rfl
  simp only [Act.put, List.setIfInBounds_toArray, List.set_cons_zero, List.set_cons_succ]
  with_reducible apply wpV_light
  · simp only [lightOp]
  · intro W hU hF
    have f0 := CS.out W hU
    clear hU hF
    go_simp
    exact rfl
  simp only [Act.put, List.setIfInBounds_toArray, List.set_cons_zero, List.set_cons_succ]
  with_reducible apply wpV_light
  · simp only [lightOp]
  · intro W hU hF
    have f0 := CS.out W hU
    clear hU hF
    go_simp
    exact rfl
  simp only [Act.put, List.setIfInBounds_toArray, List.set_cons_zero, List.set_cons_succ]
  with_reducible apply wpV_light
  · simp only [lightOp]
  · intro W hU hF
    have f0 := CS.out W hU
    clear hU hF
    go_simp
    exact rfl
  simp only [Act.put, List.setIfInBounds_toArray, List.set_cons_zero, List.set_cons_succ]
  with_reducible apply wpV_light
  · simp only [lightOp]
  · intro W hU hF
    have f0 := CS.out W hU
    clear hU hF
    go_simp
    exact rfl
  simp only [Act.put, List.setIfInBounds_toArray, List.set_cons_zero, List.set_cons_succ]
  with_reducible apply wpV_light
  · simp only [lightOp]
  · intro W hU hF
    have f0 := CS.out W hU
    clear hU hF
    go_simp
    exact rfl
  simp only [Act.put, List.setIfInBounds_toArray, List.set_cons_zero, List.set_cons_succ]
  with_reducible apply wpV_light
  · simp only [lightOp]
  · intro W hU hF
    have f0 := CS.out W hU
    clear hU hF
    go_simp
    exact rfl
  simp only [Act.put, List.setIfInBounds_toArray, List.set_cons_zero, List.set_cons_succ]
  with_reducible apply wpV_light
  · simp only [lightOp]
  · intro W hU hF
    have f0 := CS.out W hU
    clear hU hF
    go_simp
    exact rfl
  simp only [Act.put, List.setIfInBounds_toArray, List.set_cons_zero, List.set_cons_succ]
  with_reducible apply wpV_light
  · simp only [lightOp]
  · intro W hU hF
    have f0 := CS.out W hU
    clear hU hF
    go_simp
    exact rfl
  simp only [Act.put, List.setIfInBounds_toArray, List.set_cons_zero, List.set_cons_succ]
  with_reducible apply wpV_light
  · simp only [lightOp]
  · intro W hU hF
    have f0 := CS.out W hU
    clear hU hF
    go_simp
    exact rfl
  simp only [Act.put, List.setIfInBounds_toArray, List.set_cons_zero, List.set_cons_succ]
  with_reducible apply wpV_light
  · simp only [lightOp]
  · intro W hU hF
    have f0 := CS.out W hU
    clear hU hF
    go_simp
    exact rfl
  simp only [Act.put, List.setIfInBounds_toArray, List.set_cons_zero, List.set_cons_succ]
  refine wpV_heavy (by simp only [lightOp]) (by rfl) (fun W hU hk hF K hK => ?_) ?_
  · go_wp2_with fail
    refine (compare_ok x.n y.n W).mono ?_; rintro e w2 ⟨rfl, rfl⟩
    go_wp2_with fail
    exact hK.out _ _ (outV_new rfl rfl (by intro b hb; cases hb) (.refl _ _))
  rintro _ rfl
  simp only [Act.put, List.setIfInBounds_toArray, List.set_cons_zero, List.set_cons_succ]
  refine wpV_heavy (by simp only [lightOp]) (by rfl) (fun W hU hk hF K hK => ?_) ?_
  · go_wp2_with fail
    exact wpV_lit hK rfl rfl rfl
  rintro _ ⟨gl, rfl⟩
  simp only [Act.put, List.setIfInBounds_toArray, List.set_cons_zero, List.set_cons_succ]
  refine wpV_heavy (by simp only [lightOp]) (by rfl) (fun W hU hk hF K hK => ?_) ?_
  · go_wp2_with fail
    obtain ⟨g', he, hbl⟩ := hF.out.2.2.1 (by kernel_rfl)
    injection he with he _ _
    injection he with he
    injection he with he _ _
    subst he
    refine (or_ok gl 2 [cmpI x.k y.k, cmpI x.n y.n] W hbl (by simp)).mono ?_
    rintro e w2 ⟨rfl, rfl⟩
    rw [HRR.out]
    go_wp2_with fail
    exact hK.out _ _ (outV_new rfl rfl (by intro b hb; cases hb) (.refl _ _))
  rintro _ rfl
  simp only [Act.put, List.setIfInBounds_toArray, List.set_cons_zero, List.set_cons_succ]
  with_reducible apply wpV_light
  · simp only [lightOp]
  · intro W hU hF
    have f0 := CS.out W hU
    clear hU hF
    go_simp
    exact rfl
  simp only [Act.put, List.setIfInBounds_toArray, List.set_cons_zero, List.set_cons_succ]
  with_reducible apply wpV_light
  · simp only [lightOp]
  · intro W hU hF
    have f0 := CS.out W hU
    clear hU hF
    go_simp
    exact rfl
  simp only [Act.put, List.setIfInBounds_toArray, List.set_cons_zero, List.set_cons_succ]
  refine wpV_end (fun W hU _ _ => ?_)
  have U2 : Hid (Upd [] w W) := Lib.hid ((Upd.refl [] w).drew.trans hU)
  clear hU
  refine wpT_end ?_
  go_wp2_with fail
  go_ret
  exact ⟨by rw [HL.out]; rfl, HS.out.upd0 U2.out, .upd0 U2.out⟩
set_option maxRecDepth 100000 in
set_option maxHeartbeats 2000000 in
theorem str_swap (B p : Nat) (xs : List Sm) (i j : Nat) (w : World) (hs : StmSt B p w xs) (hi : i < xs.length) (hj : j < xs.length) :
    Calls Tryd.prog 91 #[.pointer (some ⟨p, 0, none⟩), .int .i64 i, .int .i64 j] w fun e w' => e = .returned (.tuple #[]) ∧ StmSt B p w' (swp xs i j) ∧ FrS B w w' := by
  have HS := Lib.hid hs
  obtain ⟨v, hb, ho⟩ := hs.obj
  obtain ⟨g, c, cur, rfl, hBg, hbg, -⟩ := own_form ho (by omega)
  obtain ⟨x, hx⟩ : ∃ x, xs[i]? = some x := ⟨_, List.getElem?_eq_getElem hi⟩
  obtain ⟨y, hy⟩ : ∃ y, xs[j]? = some y := ⟨_, List.getElem?_eq_getElem hj⟩
  have CS : Hid (∀ W, Upd [] w.drew W → W.cell? ⟨p, 0, none⟩ = some (.slice (some ⟨g, 0, none⟩) xs.length c) ∧ W.cell? ⟨g, i * 4, none⟩ = some (.pointer (some ⟨x.it, 0, none⟩)) ∧ W.cell? ⟨g, i * 4 + 1, none⟩ = some (.int .i64 x.k) ∧ W.cell? ⟨g, i * 4 + 2, none⟩ = some (.int .i64 x.v) ∧ W.cell? ⟨g, i * 4 + 3, none⟩ = some (.int .i64 x.n) ∧ W.cell? ⟨g, j * 4, none⟩ = some (.pointer (some ⟨y.it, 0, none⟩)) ∧ W.cell? ⟨g, j * 4 + 1, none⟩ = some (.int .i64 y.k) ∧ W.cell? ⟨g, j * 4 + 2, none⟩ = some (.int .i64 y.v) ∧ W.cell? ⟨g, j * 4 + 3, none⟩ = some (.int .i64 y.n)) := Lib.hid (fun W hW => by
    have hu : Upd [] w W := (Upd.refl [] w).drew.trans hW
    have ho' := ho.upd0 hu
    exact ⟨(hb.upd hu (by simp)).cell 0, ho'.at_ hx 0 _ rfl, ho'.at_ hx 1 _ rfl, ho'.at_ hx 2 _ rfl, ho'.at_ hx 3 _ rfl, ho'.at_ hy 0 _ rfl, ho'.at_ hy 1 _ rfl, ho'.at_ hy 2 _ rfl, ho'.at_ hy 3 _ rfl⟩)
  obtain ⟨n, hn⟩ : ∃ n, xs.length = n := ⟨_, rfl⟩
  rw [hn] at CS hi hj
  have hsm : n ≤ 1000 := by rw [← hn]; exact hs.small
  have q1 : (0 : Int) ≤ (i : Int) := by omega
  have q2 : (i : Int) < (n : Int) := by omega
  have q3 : (0 : Int) ≤ (j : Int) := by omega
  have q4 : (j : Int) < (n : Int) := by omega
  have HN := Lib.hid hn
  have HB := Lib.hid hb
  have HO := Lib.hid ho
  have HG := Lib.hid hbg
  have HBG := Lib.hid hBg
  have HX : Hid (xs.getD i default = x) := Lib.hid (by rw [List.getD_eq_getElem?_getD, hx]; rfl)
  have HY : Hid (xs.getD j default = y) := Lib.hid (by rw [List.getD_eq_getElem?_getD, hy]; rfl)
  clear hs hb ho hx hy hn hbg hBg
  go_enter Tryd.func91, Tryd.ntmps91
  go_wp2_with fail
  refine wp_invNT 24 [] [] (by kernel_rfl) (by simp) (by kernel_rfl) (by kernel_rfl) trivial ?_
  simp only [List.take_succ_cons, List.take_zero, List.drop_succ_cons, List.drop_zero]
  with_reducible apply wpV_light
  · simp only [lightOp]
  · intro W hU hF
    have f0 := CS.out W hU
    clear hU hF
    go_simp
    exact rfl
  simp only [Act.put, List.setIfInBounds_toArray, List.set_cons_zero, List.set_cons_succ]
  with_reducible apply wpV_light
  · simp only [lightOp]
  · intro W hU hF
    have f0 := CS.out W hU
    clear hU hF
    go_simp
    exact rfl
  simp only [Act.put, List.setIfInBounds_toArray, List.set_cons_zero, List.set_cons_succ]
  with_reducible apply wpV_light
  · simp only [lightOp]
  · intro W hU hF
    have f0 := CS.out W hU
    clear hU hF
    go_simp
    exact rfl
  simp only [Act.put, List.setIfInBounds_toArray, List.set_cons_zero, List.set_cons_succ]
  with_reducible apply wpV_light
  · simp only [lightOp]
  · intro W hU hF
    have f0 := CS.out W hU
    clear hU hF
    go_simp
    exact rfl
  simp only [Act.put, List.setIfInBounds_toArray, List.set_cons_zero, List.set_cons_succ]
  with_reducible apply wpV_light
  · simp only [lightOp]
  · intro W hU hF
    have f0 := CS.out W hU
    clear hU hF
    go_simp
    exact rfl
  simp only [Act.put, List.setIfInBounds_toArray, List.set_cons_zero, List.set_cons_succ]
  with_reducible apply wpV_light
  · simp only [lightOp]
  · intro W hU hF
    have f0 := CS.out W hU
    clear hU hF
    go_simp
    exact rfl
  simp only [Act.put, List.setIfInBounds_toArray, List.set_cons_zero, List.set_cons_succ]
  with_reducible apply wpV_light
  · simp only [lightOp]
  · intro W hU hF
    have f0 := CS.out W hU
    clear hU hF
    go_simp
    exact rfl
  simp only [Act.put, List.setIfInBounds_toArray, List.set_cons_zero, List.set_cons_succ]
  with_reducible apply wpV_light
  · simp only [lightOp]
  · intro W hU hF
    have f0 := CS.out W hU
    clear hU hF
    go_simp
    exact rfl
  simp only [Act.put, List.setIfInBounds_toArray, List.set_cons_zero, List.set_cons_succ]
  with_reducible apply wpV_light
  · simp only [lightOp]
  · intro W hU hF
    have f0 := CS.out W hU
    clear hU hF
    go_simp
    exact rfl
  simp only [Act.put, List.setIfInBounds_toArray, List.set_cons_zero, List.set_cons_succ]
  with_reducible apply wpV_light
  · simp only [lightOp]
  · intro W hU hF
    have f0 := CS.out W hU
    clear hU hF
    go_simp
    exact rfl
  simp only [Act.put, List.setIfInBounds_toArray, List.set_cons_zero, List.set_cons_succ]
  with_reducible apply wpV_light
  · simp only [lightOp]
  · intro W hU hF
    have f0 := CS.out W hU
    clear hU hF
    go_simp
    exact rfl
  simp only [Act.put, List.setIfInBounds_toArray, List.set_cons_zero, List.set_cons_succ]
  with_reducible apply wpV_light
  · simp only [lightOp]
  · intro W hU hF
    have f0 := CS.out W hU
    clear hU hF
    go_simp
    exact rfl
  simp only [Act.put, List.setIfInBounds_toArray, List.set_cons_zero, List.set_cons_succ]
  with_reducible apply wpV_light
  · simp only [lightOp]
  · intro W hU hF
    have f0 := CS.out W hU
    clear hU hF
    go_simp
    exact rfl
  simp only [Act.put, List.setIfInBounds_toArray, List.set_cons_zero, List.set_cons_succ]
  with_reducible apply wpV_light
  · simp only [lightOp]
  · intro W hU hF
    have f0 := CS.out W hU
    clear hU hF
    go_simp
    exact rfl
  simp only [Act.put, List.setIfInBounds_toArray, List.set_cons_zero, List.set_cons_succ]
  with_reducible apply wpV_light
  · simp only [lightOp]
  · intro W hU hF
    have f0 := CS.out W hU
    clear hU hF
    go_simp
    exact rfl
  simp only [Act.put, List.setIfInBounds_toArray, List.set_cons_zero, List.set_cons_succ]
  with_reducible apply wpV_light
  · simp only [lightOp]
  · intro W hU hF
    have f0 := CS.out W hU
    clear hU hF
    go_simp
    exact rfl
  simp only [Act.put, List.setIfInBounds_toArray, List.set_cons_zero, List.set_cons_succ]
  with_reducible apply wpV_light
  · simp only [lightOp]
  · intro W hU hF
    have f0 := CS.out W hU
    clear hU hF
    go_simp
    exact rfl
  simp only [Act.put, List.setIfInBounds_toArray, List.set_cons_zero, List.set_cons_succ]
  with_reducible apply wpV_light
  · simp only [lightOp]
  · intro W hU hF
    have f0 := CS.out W hU
    clear hU hF
    go_simp
    exact rfl
  simp only [Act.put, List.setIfInBounds_toArray, List.set_cons_zero, List.set_cons_succ]
  with_reducible apply wpV_light
  · simp only [lightOp]
  · intro W hU hF
    have f0 := CS.out W hU
    clear hU hF
    go_simp
    exact rfl
  simp only [Act.put, List.setIfInBounds_toArray, List.set_cons_zero, List.set_cons_succ]
  with_reducible apply wpV_light
  · simp only [lightOp]
  · intro W hU hF
    have f0 := CS.out W hU
    clear hU hF
    go_simp
    exact rfl
  simp only [Act.put, List.setIfInBounds_toArray, List.set_cons_zero, List.set_cons_succ]
  with_reducible apply wpV_light
  · simp only [lightOp]
  · intro W hU hF
    have f0 := CS.out W hU
    clear hU hF
    go_simp
    exact rfl
  simp only [Act.put, List.setIfInBounds_toArray, List.set_cons_zero, List.set_cons_succ]
  with_reducible apply wpV_light
  · simp only [lightOp]
  · intro W hU hF
    have f0 := CS.out W hU
    clear hU hF
    go_simp
    exact rfl
  simp only [Act.put, List.setIfInBounds_toArray, List.set_cons_zero, List.set_cons_succ]
  with_reducible apply wpV_light
  · simp only [lightOp]
  · intro W hU hF
    have f0 := CS.out W hU
    clear hU hF
    go_simp
    exact rfl
  simp only [Act.put, List.setIfInBounds_toArray, List.set_cons_zero, List.set_cons_succ]
  with_reducible apply wpV_light
  · simp only [lightOp]
  · intro W hU hF
    have f0 := CS.out W hU
    clear hU hF
    go_simp
    exact rfl
  simp only [Act.put, List.setIfInBounds_toArray, List.set_cons_zero, List.set_cons_succ]
  refine wpV_end (fun W hU _ _ => ?_)
  have U2 : Hid (Upd [] w W) := Lib.hid ((Upd.refl [] w).drew.trans hU)
  clear hU
  have O2 : Hid (W.ownsRow B 85 4 (.slice (some ⟨g, 0, none⟩) n c) n (flat encSm xs)) := Lib.hid (by have := HO.out.upd0 U2.out; unfold Ow at this; rw [HN.out] at this; exact this)
  obtain ⟨f0, f1, f2, f3, f4, f5, f6, f7, f8⟩ := CS.out W ((Upd.refl [] w.drew).trans (by
    have := U2.out
    exact ⟨this.os, this.tape, this.output, this.size, this.keep⟩))
  have fz : ∀ k, W.frozen? ⟨g, k, none⟩ = false := own_frozen O2.out
  have fl : g < W.heap.size := (own_lt O2.out rfl).2
  refine wpT_op (by rfl) (fun K hK => ?_)
  go_wp2_with fail
  refine hK.out _ _ ?_
  clear hK K
  try simp only [Act.put, List.setIfInBounds_toArray, List.set_cons_zero, List.set_cons_succ]
  refine wpT_op (by rfl) (fun K hK => ?_)
  go_wp2_with fail
  refine hK.out _ _ ?_
  clear hK K
  try simp only [Act.put, List.setIfInBounds_toArray, List.set_cons_zero, List.set_cons_succ]
  have O3 : Hid (((((W.setCell ⟨g, i * 4, none⟩ (.pointer (some ⟨y.it, 0, none⟩))).setCell ⟨g, i * 4 + 1, none⟩ (.int .i64 y.k)).setCell ⟨g, i * 4 + 2, none⟩ (.int .i64 y.v)).setCell ⟨g, i * 4 + 3, none⟩ (.int .i64 y.n)).ownsRow B 85 4 (.slice (some ⟨g, 0, none⟩) n c) n (flat encSm (xs.set i y))) := Lib.hid (by rw [flat_set4]; exact own_set (own_set (own_set (own_set O2.out _ _) _ _) _ _) _ _)
  have U3 : Hid (Upd [g] w ((((W.setCell ⟨g, i * 4, none⟩ (.pointer (some ⟨y.it, 0, none⟩))).setCell ⟨g, i * 4 + 1, none⟩ (.int .i64 y.k)).setCell ⟨g, i * 4 + 2, none⟩ (.int .i64 y.v)).setCell ⟨g, i * 4 + 3, none⟩ (.int .i64 y.n))) := Lib.hid (((((U2.out.mono (by simp)).setCell (.inl (by simp)) _).setCell (.inl (by simp)) _).setCell (.inl (by simp)) _).setCell (.inl (by simp)) _)
  generalize ((((W.setCell ⟨g, i * 4, none⟩ (.pointer (some ⟨y.it, 0, none⟩))).setCell ⟨g, i * 4 + 1, none⟩ (.int .i64 y.k)).setCell ⟨g, i * 4 + 2, none⟩ (.int .i64 y.v)).setCell ⟨g, i * 4 + 3, none⟩ (.int .i64 y.n)) = W3 at *
  clear f0 f1 f2 f3 f4 f5 f6 f7 f8 fz fl O2 U2
  have O3' : Hid (Ow encSm 85 W3 B (.slice (some ⟨g, 0, none⟩) n c) (xs.set i y)) := Lib.hid (by unfold Ow; rw [List.length_set, HN.out]; exact O3.out)
  obtain ⟨z, hz⟩ : ∃ z, (xs.set i y)[j]? = some z := ⟨_, List.getElem?_eq_getElem (by rw [List.length_set, HN.out]; exact hj)⟩
  have f1 : W3.cell? ⟨g, j * 4, none⟩ = some (.pointer (some ⟨z.it, 0, none⟩)) := O3'.out.at_ hz 0 _ rfl
  have f2 : W3.cell? ⟨g, j * 4 + 1, none⟩ = some (.int .i64 z.k) := O3'.out.at_ hz 1 _ rfl
  have f3 : W3.cell? ⟨g, j * 4 + 2, none⟩ = some (.int .i64 z.v) := O3'.out.at_ hz 2 _ rfl
  have f4 : W3.cell? ⟨g, j * 4 + 3, none⟩ = some (.int .i64 z.n) := O3'.out.at_ hz 3 _ rfl
  have fz : ∀ k, W3.frozen? ⟨g, k, none⟩ = false := own_frozen O3.out
  have fl : g < W3.heap.size := (own_lt O3.out rfl).2
  clear hz
  refine wpT_op (by rfl) (fun K hK => ?_)
  go_wp2_with fail
  refine hK.out _ _ ?_
  clear hK K
  try simp only [Act.put, List.setIfInBounds_toArray, List.set_cons_zero, List.set_cons_succ]
  refine wpT_op (by rfl) (fun K hK => ?_)
  go_wp2_with fail
  refine hK.out _ _ ?_
  clear hK K
  try simp only [Act.put, List.setIfInBounds_toArray, List.set_cons_zero, List.set_cons_succ]
  have O4 : Hid (((((W3.setCell ⟨g, j * 4, none⟩ (.pointer (some ⟨x.it, 0, none⟩))).setCell ⟨g, j * 4 + 1, none⟩ (.int .i64 x.k)).setCell ⟨g, j * 4 + 2, none⟩ (.int .i64 x.v)).setCell ⟨g, j * 4 + 3, none⟩ (.int .i64 x.n)).ownsRow B 85 4 (.slice (some ⟨g, 0, none⟩) n c) n (flat encSm ((xs.set i y).set j x))) := Lib.hid (by rw [flat_set4]; exact own_set (own_set (own_set (own_set O3.out _ _) _ _) _ _) _ _)
  have U4 : Hid (Upd [g] w ((((W3.setCell ⟨g, j * 4, none⟩ (.pointer (some ⟨x.it, 0, none⟩))).setCell ⟨g, j * 4 + 1, none⟩ (.int .i64 x.k)).setCell ⟨g, j * 4 + 2, none⟩ (.int .i64 x.v)).setCell ⟨g, j * 4 + 3, none⟩ (.int .i64 x.n))) := Lib.hid ((((U3.out.setCell (.inl (by simp)) _).setCell (.inl (by simp)) _).setCell (.inl (by simp)) _).setCell (.inl (by simp)) _)
  generalize ((((W3.setCell ⟨g, j * 4, none⟩ (.pointer (some ⟨x.it, 0, none⟩))).setCell ⟨g, j * 4 + 1, none⟩ (.int .i64 x.k)).setCell ⟨g, j * 4 + 2, none⟩ (.int .i64 x.v)).setCell ⟨g, j * 4 + 3, none⟩ (.int .i64 x.n)) = W4 at *
  clear f1 f2 f3 f4 fz fl O3 O3' U3
  refine wpT_end ?_
  have SW : Hid ((xs.set i y).set j x = swp xs i j) := Lib.hid (by unfold swp; rw [HX.out, HY.out])
  have hgp : g ≠ p := fun e => own_type HO.out HB.out (by decide) (by rw [e]; rfl)
  have HGP := Lib.hid hgp
  clear hgp
  go_wp2_with fail
  go_end0
  have hsl : (swp xs i j).length = n := by rw [← SW.out, List.length_set, List.length_set, HN.out]
  refine ⟨rfl, ⟨⟨.slice (some ⟨g, 0, none⟩) n c, ?_, ?_⟩, by rw [hsl]; exact hsm, HS.out.bp⟩, .of_upd U4.out (by intro k hk; simp at hk; subst hk; exact ⟨HBG.out, .inr ⟨_, _, HG.out, .inr rfl⟩⟩)⟩
  · have := HB.out.upd U4.out (by simpa using fun e => HGP.out e.symm)
    rw [HN.out] at this
    exact this
  · unfold Ow
    rw [hsl, ← SW.out]
    exact O4.out
set_option maxRecDepth 100000 in
set_option maxHeartbeats 2000000 in
theorem str_push (B p : Nat) (xs : List Sm) (x : Sm) (w : World) (hs : StmSt B p w xs) (hl : xs.length < 1000) (hBw : B ≤ w.heap.size) :
    Calls Tryd.prog 90 #[.pointer (some ⟨p, 0, none⟩), .iface 85 (.agg #[.pointer (some ⟨x.it, 0, none⟩), .int .i64 x.k, .int .i64 x.v, .int .i64 x.n])] w fun e w' => e = .returned (.tuple #[]) ∧ StmSt B p w' (xs ++ [x]) ∧ FrS B w w' := by
  have HS := Lib.hid hs
  obtain ⟨v, hb, ho⟩ := hs.obj
  obtain ⟨A, c, rfl, hnc, hcm⟩ := own_slice ho
  obtain ⟨n, hn⟩ : ∃ n, xs.length = n := ⟨_, rfl⟩
  unfold Ow at ho
  rw [hn] at hb ho hl hnc
  have HB := Lib.hid hb
  have HO := Lib.hid ho
  have HN := Lib.hid hn
  have ta : ∀ w, (Instr.typeAssert (.iface 85 (.agg #[.pointer (some ⟨x.it, 0, none⟩), .int .i64 x.k, .int .i64 x.v, .int .i64 x.n])) 20 85 true).run Tryd.prog w = .ok (.tuple #[.agg #[.pointer (some ⟨x.it, 0, none⟩), .int .i64 x.k, .int .i64 x.v, .int .i64 x.n], .bool true]) w := fun _ => by kernel_rfl
  clear hs hb ho hn
  go_enter Tryd.func90, Tryd.ntmps90
  go_wp2_with fail
  have U1 : Hid (Upd [] w (w.alloc (.cells #[.pointer (some ⟨x.it, 0, none⟩), .int .i64 x.k, .int .i64 x.v, .int .i64 x.n] 85))) := Lib.hid ((Upd.refl [] w).alloc _)
  have Y1 : Hid (Blk (w.alloc (.cells #[.pointer (some ⟨x.it, 0, none⟩), .int .i64 x.k, .int .i64 x.v, .int .i64 x.n] 85)) w.heap.size 85 #[.pointer (some ⟨x.it, 0, none⟩), .int .i64 x.k, .int .i64 x.v, .int .i64 x.n]) := Lib.hid (Blk.new w _ _)
  generalize (w.alloc (.cells #[.pointer (some ⟨x.it, 0, none⟩), .int .i64 x.k, .int .i64 x.v, .int .i64 x.n] 85)) = w1 at *
  have HB1 := Lib.hid (HB.out.upd U1.out (by simp))
  have HO1 := Lib.hid (own_upd0 HO.out U1.out)
  have CT : Hid (∀ W, Upd [] w1.drew W → W.cell? ⟨p, 0, none⟩ = some (.slice A n c) ∧ W.cell? ⟨w.heap.size, 0, none⟩ = some (.pointer (some ⟨x.it, 0, none⟩)) ∧ W.cell? ⟨w.heap.size, 1, none⟩ = some (.int .i64 x.k) ∧ W.cell? ⟨w.heap.size, 2, none⟩ = some (.int .i64 x.v) ∧ W.cell? ⟨w.heap.size, 3, none⟩ = some (.int .i64 x.n)) := Lib.hid (fun W hW => by
    have hu : Upd [] w1 W := (Upd.refl [] w1).drew.trans hW
    exact ⟨(HB1.out.upd hu (by simp)).cell 0, (Y1.out.upd hu (by simp)).cell 0, (Y1.out.upd hu (by simp)).cell 1, (Y1.out.upd hu (by simp)).cell 2, (Y1.out.upd hu (by simp)).cell 3⟩)
  have SZ : Hid (B ≤ w1.heap.size) := Lib.hid (Nat.le_trans hBw U1.out.size)
  refine wp_invNT 7 [(6, .lit 85 #[.pointer (some ⟨x.it, 0, none⟩), .int .i64 x.k, .int .i64 x.v, .int .i64 x.n] 1)] [] (by kernel_rfl) (by simp) (by kernel_rfl) (by kernel_rfl) ⟨lasts_lit _ _ _, trivial⟩ ?_
  simp only [List.take_succ_cons, List.take_zero, List.drop_succ_cons, List.drop_zero]
  with_reducible apply wpV_light
  · simp only [lightOp]
  · intro W hU hF
    have f0 := CT.out W hU
    clear hU hF
    go_simp
    exact rfl
  simp only [Act.put, List.setIfInBounds_toArray, List.set_cons_zero, List.set_cons_succ]
  with_reducible apply wpV_light
  · simp only [lightOp]
  · intro W hU hF
    have f0 := CT.out W hU
    clear hU hF
    go_simp
    exact rfl
  simp only [Act.put, List.setIfInBounds_toArray, List.set_cons_zero, List.set_cons_succ]
  with_reducible apply wpV_light
  · simp only [lightOp]
  · intro W hU hF
    have f0 := CT.out W hU
    clear hU hF
    go_simp
    exact rfl
  simp only [Act.put, List.setIfInBounds_toArray, List.set_cons_zero, List.set_cons_succ]
  with_reducible apply wpV_light
  · simp only [lightOp]
  · intro W hU hF
    have f0 := CT.out W hU
    clear hU hF
    go_simp
    exact rfl
  simp only [Act.put, List.setIfInBounds_toArray, List.set_cons_zero, List.set_cons_succ]
  with_reducible apply wpV_light
  · simp only [lightOp]
  · intro W hU hF
    have f0 := CT.out W hU
    clear hU hF
    go_simp
    exact rfl
  simp only [Act.put, List.setIfInBounds_toArray, List.set_cons_zero, List.set_cons_succ]
  with_reducible apply wpV_light
  · simp only [lightOp]
  · intro W hU hF
    have f0 := CT.out W hU
    clear hU hF
    go_simp
    exact rfl
  simp only [Act.put, List.setIfInBounds_toArray, List.set_cons_zero, List.set_cons_succ]
  refine wpV_heavy (by simp only [lightOp]) (by rfl) (fun W hU hk hF K hK => ?_) ?_
  · go_wp2_with fail
    exact wpV_lit hK rfl rfl rfl
  rintro _ ⟨g, rfl⟩
  simp only [Act.put, List.setIfInBounds_toArray, List.set_cons_zero, List.set_cons_succ]
  refine wpV_end (fun W hU _ hF => ?_)
  have U4 : Hid (Upd [] w1 W) := Lib.hid ((Upd.refl [] w1).drew.trans hU)
  have LT : Hid (Blk W g 85 #[.pointer (some ⟨x.it, 0, none⟩), .int .i64 x.k, .int .i64 x.v, .int .i64 x.n]) := Lib.hid (by
    obtain ⟨g', he, hb⟩ := hF.out.1 (by kernel_rfl)
    injection he with he _ _
    injection he with he
    injection he with he
    subst he
    exact hb)
  clear hU hF
  refine wpT_op (by rfl) (fun K hK => ?_)
  refine wp_app W (.tmp 16) (.tmp 18) _ (by rfl) elem_sm (.slice A n c) _ (by rfl) (by rfl) (own_upd0 HO1.out U4.out) (.of_blk LT.out (m := 1) 1 rfl) (by intro u hu; simp at hu; rcases hu with rfl | rfl | rfl | rfl <;> rfl) (by have := HN.out; simp only [maxLen]; omega) (by have := HN.out; omega) (Nat.le_trans SZ.out U4.out.size) ?_
  intro v5 W5 o5 u5 b5
  obtain ⟨A5, c5, rfl, _, _⟩ := own_slice o5
  refine hK.out _ _ ?_
  clear hK K
  simp only [Act.put, List.setIfInBounds_toArray, List.set_cons_zero, List.set_cons_succ]
  have O5 : Hid (W5.ownsRow B 85 4 (.slice A5 (n + 1) c5) (n + 1) (flat encSm (xs ++ [x]))) := Lib.hid (by rw [flat_append]; exact o5)
  have U5 := Lib.hid u5
  have B5 := Lib.hid b5
  have hpo : Hid (∀ b, (Value.slice A n c).ownBlock = some b → b ≠ p) := Lib.hid (fun b hb e => by
    subst e
    exact (own_type HO1.out HB1.out (by decide)) hb)
  clear o5 u5 b5
  have HB5 : Hid (Blk W5 p 82 #[.slice A n c]) := Lib.hid ((HB1.out.upd U4.out (by simp)).upd U5.out (by intro hm; exact hpo.out p (by simpa using hm) rfl))
  have f0 : W5.cell? ⟨p, 0, none⟩ = some (.slice A n c) := HB5.out.cell 0
  have f1 : W5.frozen? ⟨p, 0, none⟩ = false := HB5.out.frozen 0
  have f2 : p < W5.heap.size := HB5.out.lt
  refine wpT_op (by rfl) (fun K hK => ?_)
  go_wp2_with fail
  refine hK.out _ _ ?_
  clear hK K
  try simp only [Act.put, List.setIfInBounds_toArray, List.set_cons_zero, List.set_cons_succ]
  refine wpT_op (by rfl) (fun K hK => ?_)
  go_wp2_with fail
  refine hK.out _ _ ?_
  clear hK K
  try simp only [Act.put, List.setIfInBounds_toArray, List.set_cons_zero, List.set_cons_succ]
  refine wpT_op (by rfl) (fun K hK => ?_)
  go_wp2_with fail
  refine hK.out _ _ ?_
  clear hK K
  try simp only [Act.put, List.setIfInBounds_toArray, List.set_cons_zero, List.set_cons_succ]
  refine wpT_end ?_
  go_wp2_with fail
  go_end0
  have h5p : ∀ b, (Value.slice A5 (n + 1) c5).ownBlock = some b → b ≠ p := fun b hb e => by
    subst e
    exact (own_type O5.out HB5.out (by decide)) hb
  have UF : Upd [p] W5 (W5.setCell ⟨p, 0, none⟩ (.slice A5 (n + 1) c5)) := (Upd.refl [p] W5).setCell (.inl (by simp)) _
  refine ⟨rfl, ⟨⟨.slice A5 (n + 1) c5, HB5.out.set_eq rfl, ?_⟩, ?_, HS.out.bp⟩, ?_⟩
  · unfold Ow
    rw [List.length_append, HN.out]
    exact own_upd O5.out UF (by intro b hb; simpa using h5p b hb)
  · rw [List.length_append, HN.out]; simp; omega
  · have h1 : Upd (p :: (Value.slice A n c).ownBlock.toList) w (W5.setCell ⟨p, 0, none⟩ (.slice A5 (n + 1) c5)) :=
      (((U1.out.mono (by simp)).trans (U4.out.mono (by simp))).trans (U5.out.mono (by intro y hy; exact .inl (List.mem_cons_of_mem _ hy)))).trans (UF.mono (by simp))
    refine .of_upd h1 (fun y hy => ?_)
    rcases List.mem_cons.1 hy with rfl | hy
    · exact ⟨HS.out.bp, .inr ⟨_, _, HB.out, .inl rfl⟩⟩
    · have hy' : (Value.slice A n c).ownBlock = some y := by simpa using hy
      rcases HO.out.2 with ⟨e, _⟩ | ⟨g, cap, cur, e, hBg, hg, _⟩
      · rw [e] at hy'; simp [Value.ownBlock] at hy'
      · rw [e] at hy'
        simp only [Value.ownBlock, Option.some.injEq] at hy'
        subst hy'
        exact ⟨hBg, .inr ⟨_, _, hg, .inr rfl⟩⟩
set_option maxRecDepth 100000 in
set_option maxHeartbeats 1000000 in
theorem str_pop (B p : Nat) (xs : List Sm) (n : Nat) (w : World) (hs : StmSt B p w xs) (hn : xs.length = n + 1) :
    Calls Tryd.prog 89 #[.pointer (some ⟨p, 0, none⟩)] w fun e w' => e = .returned (.iface 85 (.agg #[.pointer (some ⟨(xs.getD n default).it, 0, none⟩), .int .i64 (xs.getD n default).k, .int .i64 (xs.getD n default).v, .int .i64 (xs.getD n default).n])) ∧ StmSt B p w' (xs.take n) ∧ FrS B w w' := by
  have HS := Lib.hid hs
  obtain ⟨v, hb, ho⟩ := hs.obj
  obtain ⟨g, c, cur, rfl, hBg, hbg, hnc, hcm, -⟩ := own_form ho (by omega)
  have hsm := hs.small
  unfold Ow at ho
  rw [hn] at hb ho hnc hsm
  obtain ⟨x, hx⟩ : ∃ x, xs[n]? = some x := ⟨_, List.getElem?_eq_getElem (by omega)⟩
  have hxd : xs.getD n default = x := by rw [List.getD_eq_getElem?_getD, hx]; rfl
  rw [hxd]
  have HB := Lib.hid hb
  have HO := Lib.hid ho
  have HG := Lib.hid hbg
  have HN := Lib.hid hn
  have HX := Lib.hid hx
  have HBG := Lib.hid hBg
  have ho' : Ow encSm 85 w B (.slice (some ⟨g, 0, none⟩) (n + 1) c) xs := by unfold Ow; rw [hn]; exact ho
  have f0 : w.cell? ⟨p, 0, none⟩ = some (.slice (some ⟨g, 0, none⟩) (n + 1) c) := hb.cell 0
  have f1 : w.frozen? ⟨p, 0, none⟩ = false := hb.frozen 0
  have f2 : p < w.heap.size := hb.lt
  have f3 : p < w.heap.size + 1 := by omega
  have c0 : w.cell? ⟨g, n * 4, none⟩ = some (.pointer (some ⟨x.it, 0, none⟩)) := ho'.at_ hx 0 _ rfl
  have c1 : w.cell? ⟨g, n * 4 + 1, none⟩ = some (.int .i64 x.k) := ho'.at_ hx 1 _ rfl
  have c2 : w.cell? ⟨g, n * 4 + 1 + 1, none⟩ = some (.int .i64 x.v) := ho'.at_ hx 2 _ rfl
  have c3 : w.cell? ⟨g, n * 4 + 1 + 1 + 1, none⟩ = some (.int .i64 x.n) := ho'.at_ hx 3 _ rfl
  have gl : g < w.heap.size := hbg.lt
  have hcc : (n : Int) ≤ c := by omega
  have hgp : Hid (g ≠ p) := Lib.hid (fun e => by subst e; exact (Blk.ne_ hb hbg (by decide)) rfl)
  unfold maxLen at hcm
  clear hs hb ho ho' hbg hx hxd hn hBg
  go_enter Tryd.func89, Tryd.ntmps89
  go_wp2_with fail
  go_ret
  have U1 : Upd [p] w ((w.setCell ⟨p, 0, none⟩ (.slice (some ⟨g, 0, none⟩) n c)).alloc (.cells #[.pointer (some ⟨x.it, 0, none⟩), .int .i64 x.k, .int .i64 x.v, .int .i64 x.n] 85)) := ((Upd.refl [p] w).setCell (.inl (by simp)) _).alloc _
  have hlt : (xs.take n).length = n := by rw [List.length_take, HN.out]; omega
  refine ⟨rfl, ⟨⟨.slice (some ⟨g, 0, none⟩) n c, (HB.out.set_eq rfl).alloc _, ?_⟩, by omega, HS.out.bp⟩, ?_⟩
  · unfold Ow
    rw [hlt, flat_take]
    exact own_upd (own_take HO.out n (by omega)) U1 (by intro b hb; simp only [Value.ownBlock, Option.some.injEq] at hb; subst hb; simpa using hgp.out)
  · refine .of_upd U1 (fun y hy => ?_)
    simp only [List.mem_cons, List.not_mem_nil, or_false] at hy
    subst hy
    exact ⟨HS.out.bp, .inr ⟨_, _, HB.out, .inl rfl⟩⟩
theorem str_heaped (B p : Nat) : Heaped Sm 39 88 91 (.pointer (some ⟨p, 0, none⟩)) ltS (StmSt B p) (FrS B) where
  refl := FrS.refl B
  trans := fun a b c => FrS.trans
  len := fun w xs hs => str_len B p xs w hs
  less := fun w xs i j hs hi hj => str_less B p xs i j w hs hi hj
  swap := fun w xs i j hs hi hj => str_swap B p xs i j w hs hi hj
  small := fun w xs hs => Nat.le_trans hs.small (by omega)
end Go.Proofs.YthdjbflbhgbckaaDoor

/-
  What ProgWalks gives to Walk: each line is the next one of the document's.
-/
import Derived.Test.YtblfklnnojhadaaDoorSameR
import Derived.Test.YtblfklnnojhadaaDoorWalkQ
import Derived.Test.YtblfklnnojhadaaDoorLines
import Derived.Test.YtblfklnnojhadaaDoorDrwK
import Derived.IntWalk
set_option linter.unusedVariables false
namespace Go.Proofs.YtblfklnnojhadaaDoor.Drw
open Go.RowKit
attribute [local go_sem] litStep_value
open Classical in
/-- What the closure makes of a line. -/
noncomputable def stepW (en : Int) (L : List (Stm × Nat)) (s : Int × Bool) (k : Nat) (x : Stm) : Bool × (Int × Bool) :=
  let n' := wrap64 (s.1 + 1)
  let ok' := s.2 && (decide (n' ≤ L.length) && (decide ((k : Int) = n') && decide ((L[k - 1]?).map (·.1) = some x)))
  (ok' && decide (¬ (k : Int) = en), (n', ok'))
structure WkB (B pn pok pl pend : Nat) (en : Int) (A : Option Addr) (cc : Nat) (L : List (Stm × Nat)) (xs : List Value) (w : World) (s : Int × Bool) : Prop where
  n : Blk w pn 3 #[.int .i64 s.1]
  ok : Blk w pok 4 #[.bool s.2]
  l : Blk w pl 33 #[.slice A L.length cc]
  e : Blk w pend 3 #[.int .i64 en]
  rows : w.ownsRow B 42 10 (.slice A L.length cc) L.length xs
  lr : LinesR w B L xs
  ne : pn ≠ pend
  bn : B ≤ pn
  bok : B ≤ pok
  bl : B ≤ pl
  be : B ≤ pend
def WkSt (B pn pok pl pend : Nat) (en : Int) (A : Option Addr) (cc : Nat) (L : List (Stm × Nat)) (xs : List Value) (w : World) (s : Int × Bool) : Prop := WkB B pn pok pl pend en A cc L xs w s ∧ ((0 ≤ s.1 ∧ s.1 ≤ 9223372036854775807) ∨ s.2 = false)
def ownW (pn pok pl pend : Nat) (v : Value) (k : Nat) : Prop := k = pn ∨ k = pok ∨ k = pl ∨ k = pend ∨ v.ownBlock = some k
section
variable {B pn pok pl pend cc p : Nat} {en : Int} {A : Option Addr} {L : List (Stm × Nat)} {xs : List Value} {w w' : World} {s : Int × Bool}
theorem WkB.gB (h : WkB B pn pok pl pend en A cc L xs w s) {k : Nat} (hk : (Value.slice A L.length cc).ownBlock = some k) : B ≤ k ∧ k < w.heap.size := own_lt h.rows hk
theorem WkB.hB (h : WkB B pn pok pl pend en A cc L xs w s) : B ≤ w.heap.size := by
  have := h.n.lt
  have := h.bn
  omega
theorem WkB.keep (h : WkB B pn pok pl pend en A cc L xs w s) (hp : ¬ ownW pn pok pl pend (.slice A L.length cc) p) (hB : B ≤ p) (hu : Upd [p] w w') : WkB B pn pok pl pend en A cc L xs w' s := by
  have p1 : pn ≠ p := fun e => hp (.inl e.symm)
  have p2 : pok ≠ p := fun e => hp (.inr (.inl e.symm))
  have p3 : pl ≠ p := fun e => hp (.inr (.inr (.inl e.symm)))
  have p4 : pend ≠ p := fun e => hp (.inr (.inr (.inr (.inl e.symm))))
  exact ⟨h.n.upd hu (by simpa using p1), h.ok.upd hu (by simpa using p2), h.l.upd hu (by simpa using p3), h.e.upd hu (by simpa using p4), own_upd h.rows hu (by intro b hb; simp; rintro rfl; exact hp (.inr (.inr (.inr (.inr hb))))), h.lr.keep (hu.below h.hB (by simpa using hB)), h.ne, h.bn, h.bok, h.bl, h.be⟩
theorem WkB.keep0 (h : WkB B pn pok pl pend en A cc L xs w s) (hu : Upd [] w w') : WkB B pn pok pl pend en A cc L xs w' s :=
  ⟨h.n.upd hu (by simp), h.ok.upd hu (by simp), h.l.upd hu (by simp), h.e.upd hu (by simp), own_upd0 h.rows hu, h.lr.keep (hu.below h.hB (by simp)), h.ne, h.bn, h.bok, h.bl, h.be⟩
theorem WkB.offG (h : WkB B pn pok pl pend en A cc L xs w s) {b : Nat} {t : TypeId} {cs : Array Value} (hb : Blk w b t cs) (ht : t ≠ 42) : (Value.slice A L.length cc).ownBlock ≠ some b := own_type h.rows hb ht
theorem WkB.setN (h : WkB B pn pok pl pend en A cc L xs w s) (o : Obj) (v : Int) : WkB B pn pok pl pend en A cc L xs ((w.setCell ⟨pn, 0, none⟩ (.int .i64 v)).alloc o) (v, s.2) ∧ Upd [pn] w ((w.setCell ⟨pn, 0, none⟩ (.int .i64 v)).alloc o) := by
  have hu : Upd [pn] w ((w.setCell ⟨pn, 0, none⟩ (.int .i64 v)).alloc o) := ((Upd.refl [pn] w).setCell (.inl (by simp)) _).alloc o
  have n1 : pok ≠ pn := Blk.ne_ h.ok h.n (by decide)
  have n2 : pl ≠ pn := Blk.ne_ h.l h.n (by decide)
  have n3 := h.ne
  have n4 := h.offG h.n (by decide)
  exact ⟨⟨(h.n.set_eq rfl).alloc o, h.ok.upd hu (by simpa using n1), h.l.upd hu (by simpa using n2), h.e.upd hu (by simp; omega), own_upd h.rows hu (by intro b hb; simp; rintro rfl; exact n4 hb), h.lr.keep (hu.below h.hB (by simpa using h.bn)), h.ne, h.bn, h.bok, h.bl, h.be⟩, hu⟩
theorem WkB.setOk (h : WkB B pn pok pl pend en A cc L xs w s) (v : Bool) : WkB B pn pok pl pend en A cc L xs (w.setCell ⟨pok, 0, none⟩ (.bool v)) (s.1, v) ∧ Upd [pok] w (w.setCell ⟨pok, 0, none⟩ (.bool v)) := by
  have hu : Upd [pok] w (w.setCell ⟨pok, 0, none⟩ (.bool v)) := (Upd.refl [pok] w).setCell (.inl (by simp)) _
  have n1 : pn ≠ pok := Blk.ne_ h.n h.ok (by decide)
  have n2 : pl ≠ pok := Blk.ne_ h.l h.ok (by decide)
  have n3 : pend ≠ pok := Blk.ne_ h.e h.ok (by decide)
  have n4 := h.offG h.ok (by decide)
  exact ⟨⟨h.n.upd hu (by simpa using n1), h.ok.set_eq rfl, h.l.upd hu (by simpa using n2), h.e.upd hu (by simpa using n3), own_upd h.rows hu (by intro b hb; simp; rintro rfl; exact n4 hb), h.lr.keep (hu.below h.hB (by simpa using h.bok)), h.ne, h.bn, h.bok, h.bl, h.be⟩, hu⟩
theorem updP_two {a b : Nat} {w1 : World} (h1 : Upd [a] w w1) (h2 : Upd [b] w1 w') : Upd [a, b] w w' := (h1.mono (by simp)).trans (h2.mono (by simp))
theorem stms_lit {w : World} {g a B B' : Nat} {a1 a2 a3 a4 a5 a6 a7 : Int} {bo el : List Stm} {vb ve : Value} (hb : Blk w g 39 #[.int .i64 a1, .int .i64 a2, .int .i64 a3, .int .i64 a4, .int .i64 a5, .int .i64 a6, .int .i64 a7, vb, ve]) (h1 : Stms w B vb bo) (h2 : Stms w B ve el) (hg : g < B') (hB : B ≤ B') :
    Stms w B' (.slice (some ⟨g, 0, none⟩) 1 1) [.mk a1 a2 a3 a4 a5 a6 a7 bo el] := by
  refine .mk (some ⟨g, 0, none⟩) 1 1 _ (fun _ => vb) (fun _ => ve) rfl (Nat.le_refl _) (by omega) (fun k b1 b2 b3 b4 b5 b6 b7 bo' el' h => ?_) (fun k b1 b2 b3 b4 b5 b6 b7 bo' el' h => ?_) (fun k b1 b2 b3 b4 b5 b6 b7 bo' el' h => ?_)
  · obtain ⟨hk, h⟩ := List.getElem?_eq_some_iff.1 h
    simp at hk
    subst hk
    simp only [List.getElem_cons_zero] at h
    injection h with e1 e2 e3 e4 e5 e6 e7 e8 e9
    subst e1 e2 e3 e4 e5 e6 e7 e8 e9
    refine ⟨⟨g, 0, none⟩, rfl, hg, fun j u hu => ?_⟩
    have := hb.cell j
    rw [show (⟨g, 0, none⟩ : Addr).add (0 * 9 + j) = ⟨g, j, none⟩ by simp [Addr.add]; exact fun h => h.symm]
    rw [this]
    rw [← hu]
    unfold stmCells
    exact List.getElem?_toArray
  · obtain ⟨hk, h⟩ := List.getElem?_eq_some_iff.1 h
    simp at hk
    subst hk
    simp only [List.getElem_cons_zero] at h
    injection h with e1 e2 e3 e4 e5 e6 e7 e8 e9
    subst e8
    exact h1.more hB
  · obtain ⟨hk, h⟩ := List.getElem?_eq_some_iff.1 h
    simp at hk
    subst hk
    simp only [List.getElem_cons_zero] at h
    injection h with e1 e2 e3 e4 e5 e6 e7 e8 e9
    subst e9
    exact h2.more hB
end
set_option maxRecDepth 100000 in
set_option maxHeartbeats 8000000 in
theorem walks_visitor (B pn pok pl pend : Nat) (en : Int) (A : Option Addr) (cc : Nat) (L : List (Stm × Nat)) (xs : List Value) (hL : L.length ≤ 1000000) :
    Visitor3 (Int × Bool) 16 #[.pointer (some ⟨pn, 0, none⟩), .pointer (some ⟨pok, 0, none⟩), .pointer (some ⟨pl, 0, none⟩), .pointer (some ⟨pend, 0, none⟩)] B (WkSt B pn pok pl pend en A cc L xs) (fun _ k => ownW pn pok pl pend (.slice A L.length cc) k) (stepW en L) where
  enter := fun args w => rfl
  keep := fun w w' s p h hp hB hu => ⟨h.1.keep hp hB hu, h.2⟩
  keepOwn := fun _ _ _ _ _ _ _ _ _ h => h
  ownB := fun w s k h e => by
    have h1 := h.1.n.lt; have h2 := h.1.ok.lt; have h3 := h.1.l.lt; have h4 := h.1.e.lt; 
    have g1 := h.1.bn; have g2 := h.1.bok; have g3 := h.1.bl; have g4 := h.1.be
    rcases e with rfl | rfl | rfl | rfl | e
    · exact ⟨g1, h1⟩
    · exact ⟨g2, h2⟩
    · exact ⟨g3, h3⟩
    · exact ⟨g4, h4⟩
    · exact h.1.gB e
  visit := by
    rintro w ⟨n, ok⟩ k x v hs hv hB hk
    obtain ⟨a1, a2, a3, a4, a5, a6, a7, bo, el⟩ := x
    obtain ⟨vbo, ve, rfl, hb, he⟩ := hv
    obtain ⟨Ab, nb, cb, rfl⟩ := hb.slice
    obtain ⟨Ae, ne, ce, rfl⟩ := he.slice
    obtain ⟨X, hX⟩ : ∃ X, X = Stm.mk a1 a2 a3 a4 a5 a6 a7 bo el := ⟨_, rfl⟩
    rw [← hX]
    have c0 : w.cell? ⟨pn, 0, none⟩ = some (.int .i64 n) := hs.1.n.cell 0
    have c1 : w.frozen? ⟨pn, 0, none⟩ = false := hs.1.n.frozen 0
    have cl : pn < w.heap.size := hs.1.n.lt
    have cl2 : pn < w.heap.size + 1 := by omega
    have HS := Lib.hid hs.1
    have HP := Lib.hid hs.2
    have HB := Lib.hid hb
    have HE := Lib.hid he
    have HX := Lib.hid hX
    clear hs hb he hX
    unfold stmCells
    go_enter Tryd.func16, Tryd.ntmps16
    go_wp2_with fail
    obtain ⟨n', hn'⟩ : ∃ n', wrap64 (n + 1) = n' := ⟨_, rfl⟩
    have HN' := Lib.hid hn'
    rw [hn']
    have HM : Hid (WkB B pn pok pl pend en A cc L xs ((w.setCell ⟨pn, 0, none⟩ (.int .i64 n')).alloc (.cells #[.int .i64 a1, .int .i64 a2, .int .i64 a3, .int .i64 a4, .int .i64 a5, .int .i64 a6, .int .i64 a7, .slice Ab nb cb, .slice Ae ne ce] 39)) (n', ok)) := Lib.hid (HS.out.setN _ n').1
    have UM : Hid (Upd [pn] w ((w.setCell ⟨pn, 0, none⟩ (.int .i64 n')).alloc (.cells #[.int .i64 a1, .int .i64 a2, .int .i64 a3, .int .i64 a4, .int .i64 a5, .int .i64 a6, .int .i64 a7, .slice Ab nb cb, .slice Ae ne ce] 39))) := Lib.hid (HS.out.setN _ n').2
    have BX : Hid (Blk ((w.setCell ⟨pn, 0, none⟩ (.int .i64 n')).alloc (.cells #[.int .i64 a1, .int .i64 a2, .int .i64 a3, .int .i64 a4, .int .i64 a5, .int .i64 a6, .int .i64 a7, .slice Ab nb cb, .slice Ae ne ce] 39)) w.heap.size 39 #[.int .i64 a1, .int .i64 a2, .int .i64 a3, .int .i64 a4, .int .i64 a5, .int .i64 a6, .int .i64 a7, .slice Ab nb cb, .slice Ae ne ce]) := Lib.hid (Blk.newAt _ _ (by simp))
    obtain ⟨m, hm⟩ : ∃ m, L.length = m := ⟨_, rfl⟩
    have HLM := Lib.hid hm
    clear c0 c1 cl cl2 hn'
    generalize ((w.setCell ⟨pn, 0, none⟩ (.int .i64 n')).alloc (.cells #[.int .i64 a1, .int .i64 a2, .int .i64 a3, .int .i64 a4, .int .i64 a5, .int .i64 a6, .int .i64 a7, .slice Ab nb cb, .slice Ae ne ce] 39)) = w1 at *
    have CS : Hid (∀ W, Upd [] w1.drew W → W.cell? ⟨pn, 0, none⟩ = some (.int .i64 n') ∧ W.cell? ⟨pok, 0, none⟩ = some (.bool ok) ∧ W.cell? ⟨pl, 0, none⟩ = some (.slice A m cc)) := Lib.hid (fun W hW => by
      have h := HM.out.keep0 ((Upd.refl [] w1).drew.trans hW)
      exact ⟨h.n.cell 0, h.ok.cell 0, by rw [← HLM.out]; exact h.l.cell 0⟩)
    clear hm
    cases ok with
    | false =>
      have STEP : Hid (stepW en L (n, false) k X = (false, (n', false))) := Lib.hid (by unfold stepW; simp [HN'.out])
      refine wp_invNT 24 [] [] (by kernel_rfl) (by simp) (by kernel_rfl) (by kernel_rfl) trivial ?_
      simp only [List.take_succ_cons, List.take_zero, List.drop_succ_cons, List.drop_zero]
      with_reducible apply wpV_light
      · simp only [lightOp]
      · intro W hU hF
        have f0 := CS.out W hU
        clear hU hF
        go_simp
        exact rfl
      simp only [Act.put, List.setIfInBounds_toArray, List.set_cons_zero, List.set_cons_succ]
      with_reducible apply wpV_light
      · simp only [lightOp]
      · intro W hU hF
        have f0 := CS.out W hU
        clear hU hF
        go_simp
        exact rfl
      simp only [Act.put, List.setIfInBounds_toArray, List.set_cons_zero, List.set_cons_succ]
      refine wpV_skip (by rfl) (by simp only [lightOp]) ?_
      simp only [Act.put, List.setIfInBounds_toArray, List.set_cons_zero, List.set_cons_succ]
      refine wpV_skip (by rfl) (by simp only [lightOp]) ?_
      simp only [Act.put, List.setIfInBounds_toArray, List.set_cons_zero, List.set_cons_succ]
      refine wpV_skip (by rfl) (by simp only [lightOp]) ?_
      simp only [Act.put, List.setIfInBounds_toArray, List.set_cons_zero, List.set_cons_succ]
      refine wpV_skip (by rfl) (by simp only [lightOp]) ?_
      simp only [Act.put, List.setIfInBounds_toArray, List.set_cons_zero, List.set_cons_succ]
      with_reducible apply wpV_light
      · simp only [lightOp]
      · intro W hU hF
        have f0 := CS.out W hU
        clear hU hF
        go_simp
        exact rfl
      simp only [Act.put, List.setIfInBounds_toArray, List.set_cons_zero, List.set_cons_succ]
      with_reducible apply wpV_light
      · simp only [lightOp]
      · intro W hU hF
        have f0 := CS.out W hU
        clear hU hF
        go_simp
        exact rfl
      simp only [Act.put, List.setIfInBounds_toArray, List.set_cons_zero, List.set_cons_succ]
      refine wpV_skip (by rfl) (by simp only [lightOp]) ?_
      simp only [Act.put, List.setIfInBounds_toArray, List.set_cons_zero, List.set_cons_succ]
      refine wpV_skip (by rfl) (by simp only [lightOp]) ?_
      simp only [Act.put, List.setIfInBounds_toArray, List.set_cons_zero, List.set_cons_succ]
      refine wpV_skip (by rfl) (by simp only [lightOp]) ?_
      simp only [Act.put, List.setIfInBounds_toArray, List.set_cons_zero, List.set_cons_succ]
      with_reducible apply wpV_light
      · simp only [lightOp]
      · intro W hU hF
        have f0 := CS.out W hU
        clear hU hF
        go_simp
        exact rfl
      simp only [Act.put, List.setIfInBounds_toArray, List.set_cons_zero, List.set_cons_succ]
      with_reducible apply wpV_light
      · simp only [lightOp]
      · intro W hU hF
        have f0 := CS.out W hU
        clear hU hF
        go_simp
        exact rfl
      simp only [Act.put, List.setIfInBounds_toArray, List.set_cons_zero, List.set_cons_succ]
      refine wpV_skip (by rfl) (by simp only [lightOp]) ?_
      simp only [Act.put, List.setIfInBounds_toArray, List.set_cons_zero, List.set_cons_succ]
      refine wpV_heavySkip (by simp only [lightOp]) (by rfl) (fun W hU hk => outV_new rfl trivial (by intro b hb; cases hb) (.refl _ _)) ?_
      rintro _ trivial
      simp only [Act.put, List.setIfInBounds_toArray, List.set_cons_zero, List.set_cons_succ]
      refine wpV_skip (by rfl) (by simp only [lightOp]) ?_
      simp only [Act.put, List.setIfInBounds_toArray, List.set_cons_zero, List.set_cons_succ]
      refine wpV_skip (by rfl) (by simp only [lightOp]) ?_
      simp only [Act.put, List.setIfInBounds_toArray, List.set_cons_zero, List.set_cons_succ]
      refine wpV_skip (by rfl) (by simp only [lightOp]) ?_
      simp only [Act.put, List.setIfInBounds_toArray, List.set_cons_zero, List.set_cons_succ]
      refine wpV_skip (by rfl) (by simp only [lightOp]) ?_
      simp only [Act.put, List.setIfInBounds_toArray, List.set_cons_zero, List.set_cons_succ]
      refine wpV_skip (by rfl) (by simp only [lightOp]) ?_
      simp only [Act.put, List.setIfInBounds_toArray, List.set_cons_zero, List.set_cons_succ]
      refine wpV_skip (by rfl) (by simp only [lightOp]) ?_
      simp only [Act.put, List.setIfInBounds_toArray, List.set_cons_zero, List.set_cons_succ]
      refine wpV_heavySkip (by simp only [lightOp]) (by rfl) (fun W hU hk => outV_new rfl trivial (by intro b hb; cases hb) (.refl _ _)) ?_
      rintro _ trivial
      simp only [Act.put, List.setIfInBounds_toArray, List.set_cons_zero, List.set_cons_succ]
      refine wpV_heavySkip (by simp only [lightOp]) (by rfl) (fun W hU hk => outV_new rfl trivial (by intro b hb; cases hb) (.refl _ _)) ?_
      rintro _ trivial
      simp only [Act.put, List.setIfInBounds_toArray, List.set_cons_zero, List.set_cons_succ]
      with_reducible apply wpV_light
      · simp only [lightOp]
      · intro W hU hF
        have f0 := CS.out W hU
        clear hU hF
        go_simp
        exact rfl
      simp only [Act.put, List.setIfInBounds_toArray, List.set_cons_zero, List.set_cons_succ]
      refine wpV_end (fun W hU _ hF => ?_)
      have U1 : Hid (Upd [] w1 W) := Lib.hid ((Upd.refl [] w1).drew.trans hU)
      have HW := Lib.hid (HM.out.keep0 U1.out)
      have d0 : W.cell? ⟨pok, 0, none⟩ = some (.bool false) := HW.out.ok.cell 0
      have d1 : W.frozen? ⟨pok, 0, none⟩ = false := HW.out.ok.frozen 0
      have dl : pok < W.heap.size := HW.out.ok.lt
      have HW2 := Lib.hid (HW.out.setOk false)
      have UF : Hid (UpdP (fun k => ownW pn pok pl pend (.slice A L.length cc) k) w (W.setCell ⟨pok, 0, none⟩ (.bool false))) := Lib.hid (.of_upd (S := [pn, pok]) ((UM.out.mono (by simp)).trans ((U1.out.mono (by simp)).trans (HW2.out.2.mono (by simp)))) (by intro x hx; simp at hx; rcases hx with rfl | rfl <;> simp [ownW]))
      clear hU hF
      refine wpT_op (by rfl) (fun K hK => ?_)
      go_wp2_with fail
      refine hK.out _ _ ?_
      clear hK K
      try simp only [Act.put, List.setIfInBounds_toArray, List.set_cons_zero, List.set_cons_succ]
      refine wpT_end ?_
      go_wp2_with fail
      go_ret
      rw [STEP.out]
      exact ⟨rfl, ⟨HW2.out.1, .inr rfl⟩, UF.out, fun k h => .inl h⟩
    | true =>
      by_cases hle : n' ≤ (m : Int)
      · have dle : decide (n' ≤ (m : Int)) = true := by simpa using hle
        by_cases hkn : (k : Int) = n'
        · subst hkn
          obtain ⟨j, hj⟩ : ∃ j, j + 1 = k := ⟨k - 1, by have h0 := HP.out; simp at h0; have h1 := HN'.out; unfold wrap64 at h1; omega⟩
          have hjm : j < m := by omega
          obtain ⟨⟨Y, dd⟩, hY⟩ : ∃ y, L[j]? = some y := ⟨_, List.getElem?_eq_getElem (by rw [HLM.out]; exact hjm)⟩
          obtain ⟨b1, b2, b3, b4, b5, b6, b7, bo', el'⟩ := Y
          obtain ⟨b, hb⟩ : ∃ b : Bool, (b = true ↔ [X] = [Stm.mk b1 b2 b3 b4 b5 b6 b7 bo' el']) := by
            rcases Classical.em ([X] = [Stm.mk b1 b2 b3 b4 b5 b6 b7 bo' el']) with h | h
            · exact ⟨true, by simpa using h⟩
            · exact ⟨false, by simpa using h⟩
          have STEP : Hid (stepW en L (n, true) k X = (b && decide (¬ (k : Int) = en), ((k : Int), b))) := Lib.hid (by
            classical
            unfold stepW
            simp only [HN'.out, HLM.out, show k - 1 = j by omega, hY, Option.map_some, Bool.true_and, dle, decide_true]
            have : decide (some (Stm.mk b1 b2 b3 b4 b5 b6 b7 bo' el') = some X) = b := by
              rw [Bool.eq_iff_iff, decide_eq_true_iff, hb]
              simp [eq_comm]
            rw [this])
          obtain ⟨g, cg, cur, e1, -⟩ := own_form HM.out.rows (by rw [HLM.out]; omega)
          injection e1 with e1 en1 e1'
          subst e1 e1'
          clear en1
          obtain ⟨vb', ve', hsb', hse', hcs⟩ := HM.out.lr.get hY
          obtain ⟨Ab', nb', cb', rfl⟩ := hsb'.slice
          obtain ⟨Ae', ne', ce', rfl⟩ := hse'.slice
          have HBB := Lib.hid hb
          have SB' := Lib.hid hsb'
          have SE' := Lib.hid hse'
          have LC := Lib.hid (fun W (hW : Upd [] w1 W) i u hu => own_cell (HM.out.keep0 hW).rows (j * 10 + i) u (hcs i u hu))
          have CX : Hid (∀ W, Upd [] w1.drew W → W.cell? ⟨w.heap.size, 0, none⟩ = some (.int .i64 a1) ∧ W.cell? ⟨w.heap.size, 1, none⟩ = some (.int .i64 a2) ∧ W.cell? ⟨w.heap.size, 2, none⟩ = some (.int .i64 a3) ∧ W.cell? ⟨w.heap.size, 3, none⟩ = some (.int .i64 a4) ∧ W.cell? ⟨w.heap.size, 4, none⟩ = some (.int .i64 a5) ∧ W.cell? ⟨w.heap.size, 5, none⟩ = some (.int .i64 a6) ∧ W.cell? ⟨w.heap.size, 6, none⟩ = some (.int .i64 a7) ∧ W.cell? ⟨w.heap.size, 7, none⟩ = some (.slice Ab nb cb) ∧ W.cell? ⟨w.heap.size, 8, none⟩ = some (.slice Ae ne ce)) := Lib.hid (fun W hW => by
            have h := BX.out.upd ((Upd.refl [] w1).drew.trans hW) (by simp)
            exact ⟨h.cell 0, h.cell 1, h.cell 2, h.cell 3, h.cell 4, h.cell 5, h.cell 6, h.cell 7, h.cell 8⟩)
          have CY : Hid (∀ W, Upd [] w1.drew W → W.cell? ⟨g, j * 10, none⟩ = some (.int .i64 b1) ∧ W.cell? ⟨g, j * 10 + 1, none⟩ = some (.int .i64 b2) ∧ W.cell? ⟨g, j * 10 + 2, none⟩ = some (.int .i64 b3) ∧ W.cell? ⟨g, j * 10 + 3, none⟩ = some (.int .i64 b4) ∧ W.cell? ⟨g, j * 10 + 4, none⟩ = some (.int .i64 b5) ∧ W.cell? ⟨g, j * 10 + 5, none⟩ = some (.int .i64 b6) ∧ W.cell? ⟨g, j * 10 + 6, none⟩ = some (.int .i64 b7) ∧ W.cell? ⟨g, j * 10 + 7, none⟩ = some (.slice Ab' nb' cb') ∧ W.cell? ⟨g, j * 10 + 8, none⟩ = some (.slice Ae' ne' ce')) := Lib.hid (fun W hW => by
            have h := LC.out W ((Upd.refl [] w1).drew.trans hW)
            exact ⟨h 0 _ rfl, h 1 _ rfl, h 2 _ rfl, h 3 _ rfl, h 4 _ rfl, h 5 _ rfl, h 6 _ rfl, h 7 _ rfl, h 8 _ rfl⟩)
          have q5 : (k : Int) - 1 = (j : Int) := by omega
          have q6 : (0 : Int) ≤ (j : Int) := by omega
          have q5w : IntKind.i64.wrap (j : Int) = (j : Int) := by rw [IntKind.wrap_i64]; omega
          have q7 : (j : Int) < (m : Int) := by omega
          clear hY hb hsb' hse' hcs
          refine wp_invNT 24 [(14, .lit 39 #[.int .i64 a1, .int .i64 a2, .int .i64 a3, .int .i64 a4, .int .i64 a5, .int .i64 a6, .int .i64 a7, .slice Ab nb cb, .slice Ae ne ce] 1), (21, .lit 39 #[.int .i64 b1, .int .i64 b2, .int .i64 b3, .int .i64 b4, .int .i64 b5, .int .i64 b6, .int .i64 b7, .slice Ab' nb' cb', .slice Ae' ne' ce'] 1), (22, .det (.bool b))] [] (by kernel_rfl) (by simp) (by kernel_rfl) (by kernel_rfl) ⟨lasts_lit _ _ _, lasts_lit _ _ _, lasts_det _, trivial⟩ ?_
          simp only [List.take_succ_cons, List.take_zero, List.drop_succ_cons, List.drop_zero]
          with_reducible apply wpV_light
          · simp only [lightOp]
          · intro W hU hF
            have f0 := CS.out W hU
            have f1 := CX.out W hU
            have f2 := CY.out W hU
            clear hU hF
            go_simp
            exact rfl
          simp only [Act.put, List.setIfInBounds_toArray, List.set_cons_zero, List.set_cons_succ]
          with_reducible apply wpV_light
          · simp only [lightOp]
          · intro W hU hF
            have f0 := CS.out W hU
            have f1 := CX.out W hU
            have f2 := CY.out W hU
            clear hU hF
            go_simp
            exact rfl
          simp only [Act.put, List.setIfInBounds_toArray, List.set_cons_zero, List.set_cons_succ]
          with_reducible apply wpV_light
          · simp only [lightOp]
          · intro W hU hF
            have f0 := CS.out W hU
            have f1 := CX.out W hU
            have f2 := CY.out W hU
            clear hU hF
            go_simp
            exact rfl
          simp only [Act.put, List.setIfInBounds_toArray, List.set_cons_zero, List.set_cons_succ]
          with_reducible apply wpV_light
          · simp only [lightOp]
          · intro W hU hF
            have f0 := CS.out W hU
            have f1 := CX.out W hU
            have f2 := CY.out W hU
            clear hU hF
            go_simp
            exact rfl
          simp only [Act.put, List.setIfInBounds_toArray, List.set_cons_zero, List.set_cons_succ]
          with_reducible apply wpV_light
          · simp only [lightOp]
          · intro W hU hF
            have f0 := CS.out W hU
            have f1 := CX.out W hU
            have f2 := CY.out W hU
            clear hU hF
            go_simp
            exact rfl
          simp only [Act.put, List.setIfInBounds_toArray, List.set_cons_zero, List.set_cons_succ]
          with_reducible apply wpV_light
          · simp only [lightOp]
          · intro W hU hF
            have f0 := CS.out W hU
            have f1 := CX.out W hU
            have f2 := CY.out W hU
            clear hU hF
            go_simp
            exact rfl
          simp only [Act.put, List.setIfInBounds_toArray, List.set_cons_zero, List.set_cons_succ]
          with_reducible apply wpV_light
          · simp only [lightOp]
          · intro W hU hF
            have f0 := CS.out W hU
            have f1 := CX.out W hU
            have f2 := CY.out W hU
            clear hU hF
            go_simp
            exact rfl
          simp only [Act.put, List.setIfInBounds_toArray, List.set_cons_zero, List.set_cons_succ]
          with_reducible apply wpV_light
          · simp only [lightOp]
          · intro W hU hF
            have f0 := CS.out W hU
            have f1 := CX.out W hU
            have f2 := CY.out W hU
            clear hU hF
            go_simp
            exact rfl
          simp only [Act.put, List.setIfInBounds_toArray, List.set_cons_zero, List.set_cons_succ]
          with_reducible apply wpV_light
          · simp only [lightOp]
          · intro W hU hF
            have f0 := CS.out W hU
            have f1 := CX.out W hU
            have f2 := CY.out W hU
            clear hU hF
            go_simp
            exact rfl
          simp only [Act.put, List.setIfInBounds_toArray, List.set_cons_zero, List.set_cons_succ]
          with_reducible apply wpV_light
          · simp only [lightOp]
          · intro W hU hF
            have f0 := CS.out W hU
            have f1 := CX.out W hU
            have f2 := CY.out W hU
            clear hU hF
            go_simp
            exact rfl
          simp only [Act.put, List.setIfInBounds_toArray, List.set_cons_zero, List.set_cons_succ]
          with_reducible apply wpV_light
          · simp only [lightOp]
          · intro W hU hF
            have f0 := CS.out W hU
            have f1 := CX.out W hU
            have f2 := CY.out W hU
            clear hU hF
            go_simp
            exact rfl
          simp only [Act.put, List.setIfInBounds_toArray, List.set_cons_zero, List.set_cons_succ]
          with_reducible apply wpV_light
          · simp only [lightOp]
          · intro W hU hF
            have f0 := CS.out W hU
            have f1 := CX.out W hU
            have f2 := CY.out W hU
            clear hU hF
            go_simp
            exact rfl
          simp only [Act.put, List.setIfInBounds_toArray, List.set_cons_zero, List.set_cons_succ]
          with_reducible apply wpV_light
          · simp only [lightOp]
          · intro W hU hF
            have f0 := CS.out W hU
            have f1 := CX.out W hU
            have f2 := CY.out W hU
            clear hU hF
            go_simp
            exact rfl
          simp only [Act.put, List.setIfInBounds_toArray, List.set_cons_zero, List.set_cons_succ]
          with_reducible apply wpV_light
          · simp only [lightOp]
          · intro W hU hF
            have f0 := CS.out W hU
            have f1 := CX.out W hU
            have f2 := CY.out W hU
            clear hU hF
            go_simp
            exact rfl
          simp only [Act.put, List.setIfInBounds_toArray, List.set_cons_zero, List.set_cons_succ]
          refine wpV_heavy (by simp only [lightOp]) (by rfl) (fun W hU hk hF K hK => ?_) ?_
          · go_wp2_with fail
            exact wpV_lit hK rfl rfl rfl
          rintro _ ⟨g1, rfl⟩
          simp only [Act.put, List.setIfInBounds_toArray, List.set_cons_zero, List.set_cons_succ]
          with_reducible apply wpV_light
          · simp only [lightOp]
          · intro W hU hF
            have f0 := CS.out W hU
            have f1 := CX.out W hU
            have f2 := CY.out W hU
            clear hU hF
            go_simp
            exact rfl
          simp only [Act.put, List.setIfInBounds_toArray, List.set_cons_zero, List.set_cons_succ]
          with_reducible apply wpV_light
          · simp only [lightOp]
          · intro W hU hF
            have f0 := CS.out W hU
            have f1 := CX.out W hU
            have f2 := CY.out W hU
            clear hU hF
            go_simp
            exact rfl
          simp only [Act.put, List.setIfInBounds_toArray, List.set_cons_zero, List.set_cons_succ]
          with_reducible apply wpV_light
          · simp only [lightOp]
          · intro W hU hF
            have f0 := CS.out W hU
            have f1 := CX.out W hU
            have f2 := CY.out W hU
            clear hU hF
            go_simp
            exact rfl
          simp only [Act.put, List.setIfInBounds_toArray, List.set_cons_zero, List.set_cons_succ]
          with_reducible apply wpV_light
          · simp only [lightOp]
          · intro W hU hF
            have f0 := CS.out W hU
            have f1 := CX.out W hU
            have f2 := CY.out W hU
            clear hU hF
            go_simp
            exact rfl
          simp only [Act.put, List.setIfInBounds_toArray, List.set_cons_zero, List.set_cons_succ]
          with_reducible apply wpV_light
          · simp only [lightOp]
          · intro W hU hF
            have f0 := CS.out W hU
            have f1 := CX.out W hU
            have f2 := CY.out W hU
            clear hU hF
            go_simp
            exact rfl
          simp only [Act.put, List.setIfInBounds_toArray, List.set_cons_zero, List.set_cons_succ]
          with_reducible apply wpV_light
          · simp only [lightOp]
          · intro W hU hF
            have f0 := CS.out W hU
            have f1 := CX.out W hU
            have f2 := CY.out W hU
            clear hU hF
            go_simp
            exact rfl
          simp only [Act.put, List.setIfInBounds_toArray, List.set_cons_zero, List.set_cons_succ]
          refine wpV_heavy (by simp only [lightOp]) (by rfl) (fun W hU hk hF K hK => ?_) ?_
          · go_wp2_with fail
            exact wpV_lit hK rfl rfl rfl
          rintro _ ⟨g2, rfl⟩
          simp only [Act.put, List.setIfInBounds_toArray, List.set_cons_zero, List.set_cons_succ]
          refine wpV_heavy (by simp only [lightOp]) (by rfl) (fun W hU hk hF K hK => ?_) ?_
          · go_wp2_with fail
            obtain ⟨g1', he1, hb1⟩ := hF.out.1 (by kernel_rfl)
            obtain ⟨g2', he2, hb2⟩ := hF.out.2.1 (by kernel_rfl)
            injection he1 with he1 _ _
            injection he1 with he1
            injection he1 with he1 _ _
            injection he2 with he2 _ _
            injection he2 with he2
            injection he2 with he2 _ _
            subst he1 he2
            have UW : Upd [] w1 W := (Upd.refl [] w1).drew.trans hU
            have B0 : B ≤ W.heap.size := Nat.le_trans HM.out.hB UW.size
            have L1 : Below B w W := (UM.out.below hB (by simpa using HS.out.bn)).trans (UW.below HM.out.hB (by simp))
            have L2 : Below B w1 W := UW.below HM.out.hB (by simp)
            refine (sameS_ok (B := W.heap.size) (B' := W.heap.size) (sizes [X] + 1) [X] [Stm.mk b1 b2 b3 b4 b5 b6 b7 bo' el'] _ _ W (by omega) (by rw [HX.out]; exact stms_lit (a := 0) hb1 (HB.out.belowW L1) (HE.out.belowW L1) hb1.lt B0) (stms_lit (a := 0) hb2 (SB'.out.belowW L2) (SE'.out.belowW L2) hb2.lt B0) (Nat.le_refl _) (Nat.le_refl _)).mono ?_
            rintro e w2 ⟨b', rfl, hb', u2⟩
            obtain rfl : b' = b := Bool.eq_iff_iff.2 (hb'.trans HBB.out.symm)
            go_wp2_with fail
            exact hK.out _ _ (outV_new rfl rfl (by intro b hb; cases hb) u2)
          rintro _ rfl
          simp only [Act.put, List.setIfInBounds_toArray, List.set_cons_zero, List.set_cons_succ]
          with_reducible apply wpV_light
          · simp only [lightOp]
          · intro W hU hF
            have f0 := CS.out W hU
            have f1 := CX.out W hU
            have f2 := CY.out W hU
            clear hU hF
            go_simp
            exact rfl
          simp only [Act.put, List.setIfInBounds_toArray, List.set_cons_zero, List.set_cons_succ]
          refine wpV_end (fun W hU _ hF => ?_)
          have U1 : Hid (Upd [] w1 W) := Lib.hid ((Upd.refl [] w1).drew.trans hU)
          have HW := Lib.hid (HM.out.keep0 U1.out)
          have d0 : W.cell? ⟨pok, 0, none⟩ = some (.bool true) := HW.out.ok.cell 0
          have d1 : W.frozen? ⟨pok, 0, none⟩ = false := HW.out.ok.frozen 0
          have dl : pok < W.heap.size := HW.out.ok.lt
          have HW2 := Lib.hid (HW.out.setOk b)
          have UF : Hid (UpdP (fun k => ownW pn pok pl pend (.slice (some ⟨g, 0, none⟩) L.length cc) k) w (W.setCell ⟨pok, 0, none⟩ (.bool b))) := Lib.hid (.of_upd (S := [pn, pok]) ((UM.out.mono (by simp)).trans ((U1.out.mono (by simp)).trans (HW2.out.2.mono (by simp)))) (by intro x hx; simp at hx; rcases hx with rfl | rfl <;> simp [ownW]))
          clear hU hF
          refine wpT_op (by rfl) (fun K hK => ?_)
          go_wp2_with fail
          refine hK.out _ _ ?_
          clear hK K
          try simp only [Act.put, List.setIfInBounds_toArray, List.set_cons_zero, List.set_cons_succ]
          refine wpT_end ?_
          cases b with
          | false =>
            go_wp2_with fail
            go_ret
            rw [STEP.out]
            exact ⟨rfl, ⟨HW2.out.1, .inr rfl⟩, UF.out, fun k h => .inl h⟩
          | true =>
            have e1 : (W.setCell ⟨pok, 0, none⟩ (.bool true)).cell? ⟨pend, 0, none⟩ = some (.int .i64 en) := HW2.out.1.e.cell 0
            by_cases hke : (k : Int) = en
            · have D : Hid (decide (¬ (k : Int) = en) = false) := Lib.hid (by simpa using hke)
              go_wp2_with fail
              go_ret
              rw [STEP.out, D.out]
              exact ⟨rfl, ⟨HW2.out.1, .inl ⟨by show (0 : Int) ≤ (k : Int); omega, by show (k : Int) ≤ _; omega⟩⟩, UF.out, fun k h => .inl h⟩
            · have D : Hid (decide (¬ (k : Int) = en) = true) := Lib.hid (by simpa using hke)
              have d2 : ((k : Int) != en) = true := by simpa using hke
              have d3 : ((k : Int) == en) = false := by simpa using hke
              go_wp2_with fail
              go_ret
              rw [STEP.out, D.out]
              exact ⟨by simp [hke, d2, d3], ⟨HW2.out.1, .inl ⟨by show (0 : Int) ≤ (k : Int); omega, by show (k : Int) ≤ _; omega⟩⟩, UF.out, fun k h => .inl h⟩
        · have dk : ((k : Int) == n') = false := by simpa using hkn
          have STEP : Hid (stepW en L (n, true) k X = (false, (n', false))) := Lib.hid (by unfold stepW; simp [HN'.out, HLM.out, hle, hkn])
          refine wp_invNT 24 [] [] (by kernel_rfl) (by simp) (by kernel_rfl) (by kernel_rfl) trivial ?_
          simp only [List.take_succ_cons, List.take_zero, List.drop_succ_cons, List.drop_zero]
          with_reducible apply wpV_light
          · simp only [lightOp]
          · intro W hU hF
            have f0 := CS.out W hU
            clear hU hF
            go_simp
            exact rfl
          simp only [Act.put, List.setIfInBounds_toArray, List.set_cons_zero, List.set_cons_succ]
          with_reducible apply wpV_light
          · simp only [lightOp]
          · intro W hU hF
            have f0 := CS.out W hU
            clear hU hF
            go_simp
            exact rfl
          simp only [Act.put, List.setIfInBounds_toArray, List.set_cons_zero, List.set_cons_succ]
          with_reducible apply wpV_light
          · simp only [lightOp]
          · intro W hU hF
            have f0 := CS.out W hU
            clear hU hF
            go_simp
            exact rfl
          simp only [Act.put, List.setIfInBounds_toArray, List.set_cons_zero, List.set_cons_succ]
          with_reducible apply wpV_light
          · simp only [lightOp]
          · intro W hU hF
            have f0 := CS.out W hU
            clear hU hF
            go_simp
            exact rfl
          simp only [Act.put, List.setIfInBounds_toArray, List.set_cons_zero, List.set_cons_succ]
          with_reducible apply wpV_light
          · simp only [lightOp]
          · intro W hU hF
            have f0 := CS.out W hU
            clear hU hF
            go_simp
            exact rfl
          simp only [Act.put, List.setIfInBounds_toArray, List.set_cons_zero, List.set_cons_succ]
          with_reducible apply wpV_light
          · simp only [lightOp]
          · intro W hU hF
            have f0 := CS.out W hU
            clear hU hF
            go_simp
            exact rfl
          simp only [Act.put, List.setIfInBounds_toArray, List.set_cons_zero, List.set_cons_succ]
          with_reducible apply wpV_light
          · simp only [lightOp]
          · intro W hU hF
            have f0 := CS.out W hU
            clear hU hF
            go_simp
            exact rfl
          simp only [Act.put, List.setIfInBounds_toArray, List.set_cons_zero, List.set_cons_succ]
          with_reducible apply wpV_light
          · simp only [lightOp]
          · intro W hU hF
            have f0 := CS.out W hU
            clear hU hF
            go_simp
            exact rfl
          simp only [Act.put, List.setIfInBounds_toArray, List.set_cons_zero, List.set_cons_succ]
          with_reducible apply wpV_light
          · simp only [lightOp]
          · intro W hU hF
            have f0 := CS.out W hU
            clear hU hF
            go_simp
            exact rfl
          simp only [Act.put, List.setIfInBounds_toArray, List.set_cons_zero, List.set_cons_succ]
          with_reducible apply wpV_light
          · simp only [lightOp]
          · intro W hU hF
            have f0 := CS.out W hU
            clear hU hF
            go_simp
            exact rfl
          simp only [Act.put, List.setIfInBounds_toArray, List.set_cons_zero, List.set_cons_succ]
          with_reducible apply wpV_light
          · simp only [lightOp]
          · intro W hU hF
            have f0 := CS.out W hU
            clear hU hF
            go_simp
            exact rfl
          simp only [Act.put, List.setIfInBounds_toArray, List.set_cons_zero, List.set_cons_succ]
          with_reducible apply wpV_light
          · simp only [lightOp]
          · intro W hU hF
            have f0 := CS.out W hU
            clear hU hF
            go_simp
            exact rfl
          simp only [Act.put, List.setIfInBounds_toArray, List.set_cons_zero, List.set_cons_succ]
          with_reducible apply wpV_light
          · simp only [lightOp]
          · intro W hU hF
            have f0 := CS.out W hU
            clear hU hF
            go_simp
            exact rfl
          simp only [Act.put, List.setIfInBounds_toArray, List.set_cons_zero, List.set_cons_succ]
          refine wpV_skip (by rfl) (by simp only [lightOp]) ?_
          simp only [Act.put, List.setIfInBounds_toArray, List.set_cons_zero, List.set_cons_succ]
          refine wpV_heavySkip (by simp only [lightOp]) (by rfl) (fun W hU hk => outV_new rfl trivial (by intro b hb; cases hb) (.refl _ _)) ?_
          rintro _ trivial
          simp only [Act.put, List.setIfInBounds_toArray, List.set_cons_zero, List.set_cons_succ]
          refine wpV_skip (by rfl) (by simp only [lightOp]) ?_
          simp only [Act.put, List.setIfInBounds_toArray, List.set_cons_zero, List.set_cons_succ]
          refine wpV_skip (by rfl) (by simp only [lightOp]) ?_
          simp only [Act.put, List.setIfInBounds_toArray, List.set_cons_zero, List.set_cons_succ]
          refine wpV_skip (by rfl) (by simp only [lightOp]) ?_
          simp only [Act.put, List.setIfInBounds_toArray, List.set_cons_zero, List.set_cons_succ]
          refine wpV_skip (by rfl) (by simp only [lightOp]) ?_
          simp only [Act.put, List.setIfInBounds_toArray, List.set_cons_zero, List.set_cons_succ]
          refine wpV_skip (by rfl) (by simp only [lightOp]) ?_
          simp only [Act.put, List.setIfInBounds_toArray, List.set_cons_zero, List.set_cons_succ]
          refine wpV_skip (by rfl) (by simp only [lightOp]) ?_
          simp only [Act.put, List.setIfInBounds_toArray, List.set_cons_zero, List.set_cons_succ]
          refine wpV_heavySkip (by simp only [lightOp]) (by rfl) (fun W hU hk => outV_new rfl trivial (by intro b hb; cases hb) (.refl _ _)) ?_
          rintro _ trivial
          simp only [Act.put, List.setIfInBounds_toArray, List.set_cons_zero, List.set_cons_succ]
          refine wpV_heavySkip (by simp only [lightOp]) (by rfl) (fun W hU hk => outV_new rfl trivial (by intro b hb; cases hb) (.refl _ _)) ?_
          rintro _ trivial
          simp only [Act.put, List.setIfInBounds_toArray, List.set_cons_zero, List.set_cons_succ]
          with_reducible apply wpV_light
          · simp only [lightOp]
          · intro W hU hF
            have f0 := CS.out W hU
            clear hU hF
            go_simp
            exact rfl
          simp only [Act.put, List.setIfInBounds_toArray, List.set_cons_zero, List.set_cons_succ]
          refine wpV_end (fun W hU _ hF => ?_)
          have U1 : Hid (Upd [] w1 W) := Lib.hid ((Upd.refl [] w1).drew.trans hU)
          have HW := Lib.hid (HM.out.keep0 U1.out)
          have d0 : W.cell? ⟨pok, 0, none⟩ = some (.bool true) := HW.out.ok.cell 0
          have d1 : W.frozen? ⟨pok, 0, none⟩ = false := HW.out.ok.frozen 0
          have dl : pok < W.heap.size := HW.out.ok.lt
          have HW2 := Lib.hid (HW.out.setOk false)
          have UF : Hid (UpdP (fun k => ownW pn pok pl pend (.slice A L.length cc) k) w (W.setCell ⟨pok, 0, none⟩ (.bool false))) := Lib.hid (.of_upd (S := [pn, pok]) ((UM.out.mono (by simp)).trans ((U1.out.mono (by simp)).trans (HW2.out.2.mono (by simp)))) (by intro x hx; simp at hx; rcases hx with rfl | rfl <;> simp [ownW]))
          clear hU hF
          refine wpT_op (by rfl) (fun K hK => ?_)
          go_wp2_with fail
          refine hK.out _ _ ?_
          clear hK K
          try simp only [Act.put, List.setIfInBounds_toArray, List.set_cons_zero, List.set_cons_succ]
          refine wpT_end ?_
          go_wp2_with fail
          go_ret
          rw [STEP.out]
          exact ⟨rfl, ⟨HW2.out.1, .inr rfl⟩, UF.out, fun k h => .inl h⟩
      · have dle : decide (n' ≤ (m : Int)) = false := by simpa using hle
        have STEP : Hid (stepW en L (n, true) k X = (false, (n', false))) := Lib.hid (by unfold stepW; simp [HN'.out, HLM.out, hle])
        refine wp_invNT 24 [] [] (by kernel_rfl) (by simp) (by kernel_rfl) (by kernel_rfl) trivial ?_
        simp only [List.take_succ_cons, List.take_zero, List.drop_succ_cons, List.drop_zero]
        with_reducible apply wpV_light
        · simp only [lightOp]
        · intro W hU hF
          have f0 := CS.out W hU
          clear hU hF
          go_simp
          exact rfl
        simp only [Act.put, List.setIfInBounds_toArray, List.set_cons_zero, List.set_cons_succ]
        with_reducible apply wpV_light
        · simp only [lightOp]
        · intro W hU hF
          have f0 := CS.out W hU
          clear hU hF
          go_simp
          exact rfl
        simp only [Act.put, List.setIfInBounds_toArray, List.set_cons_zero, List.set_cons_succ]
        with_reducible apply wpV_light
        · simp only [lightOp]
        · intro W hU hF
          have f0 := CS.out W hU
          clear hU hF
          go_simp
          exact rfl
        simp only [Act.put, List.setIfInBounds_toArray, List.set_cons_zero, List.set_cons_succ]
        with_reducible apply wpV_light
        · simp only [lightOp]
        · intro W hU hF
          have f0 := CS.out W hU
          clear hU hF
          go_simp
          exact rfl
        simp only [Act.put, List.setIfInBounds_toArray, List.set_cons_zero, List.set_cons_succ]
        with_reducible apply wpV_light
        · simp only [lightOp]
        · intro W hU hF
          have f0 := CS.out W hU
          clear hU hF
          go_simp
          exact rfl
        simp only [Act.put, List.setIfInBounds_toArray, List.set_cons_zero, List.set_cons_succ]
        with_reducible apply wpV_light
        · simp only [lightOp]
        · intro W hU hF
          have f0 := CS.out W hU
          clear hU hF
          go_simp
          exact rfl
        simp only [Act.put, List.setIfInBounds_toArray, List.set_cons_zero, List.set_cons_succ]
        with_reducible apply wpV_light
        · simp only [lightOp]
        · intro W hU hF
          have f0 := CS.out W hU
          clear hU hF
          go_simp
          exact rfl
        simp only [Act.put, List.setIfInBounds_toArray, List.set_cons_zero, List.set_cons_succ]
        with_reducible apply wpV_light
        · simp only [lightOp]
        · intro W hU hF
          have f0 := CS.out W hU
          clear hU hF
          go_simp
          exact rfl
        simp only [Act.put, List.setIfInBounds_toArray, List.set_cons_zero, List.set_cons_succ]
        refine wpV_skip (by rfl) (by simp only [lightOp]) ?_
        simp only [Act.put, List.setIfInBounds_toArray, List.set_cons_zero, List.set_cons_succ]
        refine wpV_skip (by rfl) (by simp only [lightOp]) ?_
        simp only [Act.put, List.setIfInBounds_toArray, List.set_cons_zero, List.set_cons_succ]
        refine wpV_skip (by rfl) (by simp only [lightOp]) ?_
        simp only [Act.put, List.setIfInBounds_toArray, List.set_cons_zero, List.set_cons_succ]
        with_reducible apply wpV_light
        · simp only [lightOp]
        · intro W hU hF
          have f0 := CS.out W hU
          clear hU hF
          go_simp
          exact rfl
        simp only [Act.put, List.setIfInBounds_toArray, List.set_cons_zero, List.set_cons_succ]
        with_reducible apply wpV_light
        · simp only [lightOp]
        · intro W hU hF
          have f0 := CS.out W hU
          clear hU hF
          go_simp
          exact rfl
        simp only [Act.put, List.setIfInBounds_toArray, List.set_cons_zero, List.set_cons_succ]
        refine wpV_skip (by rfl) (by simp only [lightOp]) ?_
        simp only [Act.put, List.setIfInBounds_toArray, List.set_cons_zero, List.set_cons_succ]
        refine wpV_heavySkip (by simp only [lightOp]) (by rfl) (fun W hU hk => outV_new rfl trivial (by intro b hb; cases hb) (.refl _ _)) ?_
        rintro _ trivial
        simp only [Act.put, List.setIfInBounds_toArray, List.set_cons_zero, List.set_cons_succ]
        refine wpV_skip (by rfl) (by simp only [lightOp]) ?_
        simp only [Act.put, List.setIfInBounds_toArray, List.set_cons_zero, List.set_cons_succ]
        refine wpV_skip (by rfl) (by simp only [lightOp]) ?_
        simp only [Act.put, List.setIfInBounds_toArray, List.set_cons_zero, List.set_cons_succ]
        refine wpV_skip (by rfl) (by simp only [lightOp]) ?_
        simp only [Act.put, List.setIfInBounds_toArray, List.set_cons_zero, List.set_cons_succ]
        refine wpV_skip (by rfl) (by simp only [lightOp]) ?_
        simp only [Act.put, List.setIfInBounds_toArray, List.set_cons_zero, List.set_cons_succ]
        refine wpV_skip (by rfl) (by simp only [lightOp]) ?_
        simp only [Act.put, List.setIfInBounds_toArray, List.set_cons_zero, List.set_cons_succ]
        refine wpV_skip (by rfl) (by simp only [lightOp]) ?_
        simp only [Act.put, List.setIfInBounds_toArray, List.set_cons_zero, List.set_cons_succ]
        refine wpV_heavySkip (by simp only [lightOp]) (by rfl) (fun W hU hk => outV_new rfl trivial (by intro b hb; cases hb) (.refl _ _)) ?_
        rintro _ trivial
        simp only [Act.put, List.setIfInBounds_toArray, List.set_cons_zero, List.set_cons_succ]
        refine wpV_heavySkip (by simp only [lightOp]) (by rfl) (fun W hU hk => outV_new rfl trivial (by intro b hb; cases hb) (.refl _ _)) ?_
        rintro _ trivial
        simp only [Act.put, List.setIfInBounds_toArray, List.set_cons_zero, List.set_cons_succ]
        with_reducible apply wpV_light
        · simp only [lightOp]
        · intro W hU hF
          have f0 := CS.out W hU
          clear hU hF
          go_simp
          exact rfl
        simp only [Act.put, List.setIfInBounds_toArray, List.set_cons_zero, List.set_cons_succ]
        refine wpV_end (fun W hU _ hF => ?_)
        have U1 : Hid (Upd [] w1 W) := Lib.hid ((Upd.refl [] w1).drew.trans hU)
        have HW := Lib.hid (HM.out.keep0 U1.out)
        have d0 : W.cell? ⟨pok, 0, none⟩ = some (.bool true) := HW.out.ok.cell 0
        have d1 : W.frozen? ⟨pok, 0, none⟩ = false := HW.out.ok.frozen 0
        have dl : pok < W.heap.size := HW.out.ok.lt
        have HW2 := Lib.hid (HW.out.setOk false)
        have UF : Hid (UpdP (fun k => ownW pn pok pl pend (.slice A L.length cc) k) w (W.setCell ⟨pok, 0, none⟩ (.bool false))) := Lib.hid (.of_upd (S := [pn, pok]) ((UM.out.mono (by simp)).trans ((U1.out.mono (by simp)).trans (HW2.out.2.mono (by simp)))) (by intro x hx; simp at hx; rcases hx with rfl | rfl <;> simp [ownW]))
        clear hU hF
        refine wpT_op (by rfl) (fun K hK => ?_)
        go_wp2_with fail
        refine hK.out _ _ ?_
        clear hK K
        try simp only [Act.put, List.setIfInBounds_toArray, List.set_cons_zero, List.set_cons_succ]
        refine wpT_end ?_
        go_wp2_with fail
        go_ret
        rw [STEP.out]
        exact ⟨rfl, ⟨HW2.out.1, .inr rfl⟩, UF.out, fun k h => .inl h⟩
end Go.Proofs.YtblfklnnojhadaaDoor.Drw

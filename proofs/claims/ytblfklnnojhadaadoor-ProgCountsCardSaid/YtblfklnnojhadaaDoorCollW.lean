/-
  prog.Colls: what Walk calls appends.
-/
import Derived.Test.YtblfklnnojhadaaDoorWalkG
set_option linter.unusedVariables false
namespace Go.Proofs.YtblfklnnojhadaaDoor
open Go.RowKit

theorem int_elem : Elem Tryd.prog 23 3 1 8 := .mk' (z := ((Tryd.prog.info? 3).bind (·.zero)).getD undef) Tryd.underlying23 (by kernel_rfl) (by kernel_rfl) (by omega)
theorem stoppedC {p : Prop} (h : Hid p) : p := h.out
def collOf : Stm → Option Int
  | .mk k c _ _ _ _ _ _ _ => if 1 ≤ k ∧ k ≤ 8 then some c else none
def stepC (s : List Int) (x : Stm) : List Int := match collOf x with
  | some c => s ++ [c]
  | none => s
theorem stepC_len (s : List Int) (x : Stm) : (stepC s x).length ≤ s.length + 1 := by
  unfold stepC
  cases collOf x with
  | none => simp
  | some c => simp
def CollSt (B b : Nat) (w : World) (s : List Int) : Prop := ∃ v, Blk w b 23 #[v] ∧ B ≤ b ∧ w.ownsRow B 3 1 v s.length (s.map (Value.int .i64))
def collOwn (b : Nat) (w : World) (k : Nat) : Prop := k = b ∨ ∃ v, w.cell? ⟨b, 0, none⟩ = some v ∧ v.ownBlock = some k

set_option maxRecDepth 100000 in
set_option maxHeartbeats 1000000 in
theorem colls_visitor (B b : Nat) : Visitor2G (List Int) (fun n s => s.length ≤ n) 36 #[.pointer (some ⟨b, 0, none⟩)] B (CollSt B b) (collOwn b) (fun s n x => (true, stepC s x)) where
  enter := fun args w => rfl
  keep := fun w w' s p ⟨v, h1, h2, h3⟩ hp hu => ⟨v, h1.upd hu (by simpa using fun e => hp (.inl e.symm)), h2, own_upd h3 hu (fun k hk => by simp; rintro rfl; exact hp (.inr ⟨v, h1.cell 0, hk⟩))⟩
  keepOwn := fun w w' s k p ⟨v, h1, h2, h3⟩ hp hu h => by
    rcases h with h | ⟨v', hc, hk⟩
    · exact .inl h
    · have h4 : w'.cell? ⟨b, 0, none⟩ = some v := (h1.upd hu (by simpa using fun e => hp (.inl e.symm))).cell 0
      rw [h4] at hc
      injection hc with hc
      subst hc
      exact .inr ⟨v, h1.cell 0, hk⟩
  ownB := fun w s k ⟨v, h1, h2, h3⟩ h => by
    rcases h with rfl | ⟨v', hc, hk⟩
    · exact ⟨h2, h1.lt⟩
    · have h4 : w.cell? ⟨b, 0, none⟩ = some v := h1.cell 0
      rw [h4] at hc
      injection hc with hc
      subst hc
      exact own_lt h3 hk
  good := fun n s x h => by have := stepC_len s x; simp only; omega
  visit := by
    rintro w s n x v ⟨m, rfl, hm⟩ hs hv hB hn
    obtain ⟨a1, a2, a3, a4, a5, a6, a7, bo, el⟩ := x
    obtain ⟨vbo, ve, rfl, hb, he⟩ := hv
    obtain ⟨vl, hbl, hBb, ho⟩ := hs
    have c0 : w.cell? ⟨b, 0, none⟩ = some vl := hbl.cell 0
    have c1 : w.frozen? ⟨b, 0, none⟩ = false := hbl.frozen 0
    have cl : b < w.heap.size := hbl.lt
    have HBL := Lib.hid hbl
    have HO := Lib.hid ho
    have HBB := Lib.hid hBb
    have HB := Lib.hid hB
    clear hbl hb he ho hBb hB
    unfold stmCells
    by_cases hk : 1 ≤ a1 ∧ a1 ≤ 8
    · have k1 : decide ((1 : Int) ≤ a1) = true := by simp; omega
      have k2 : decide (a1 ≤ (8 : Int)) = true := by simp; omega
      have STEP : Hid (stepC s (.mk a1 a2 a3 a4 a5 a6 a7 bo el) = s ++ [a2]) := Lib.hid (by unfold stepC; rw [show collOf (.mk a1 a2 a3 a4 a5 a6 a7 bo el) = some a2 from if_pos hk])
      have KOA : Hid (∀ o o', ((w.alloc o).alloc o').ownsRow B 3 1 vl s.length (s.map (Value.int .i64))) := Lib.hid (fun o o' => own_upd0 HO.out (((Upd.refl [] w).alloc o).alloc o'))
      have LEN : Hid (s.length + 1 ≤ maxLen) := Lib.hid (by simp only [maxLen]; omega)
      have BYT : Hid ((s.length + 1) * 8 ≤ 140737488355328) := Lib.hid (by omega)
      have BZ : Hid (B ≤ w.heap.size + 1 + 1) := Lib.hid (by have := HB.out; omega)
      go_enter Tryd.func36, Tryd.ntmps36
      go_wp2_with (at_builtin; refine stoppedC ?_)
      refine Lib.hid ?_
      refine wpList_app _ (by rfl) (.tmp 14) (.tmp 17) _ (by rfl) int_elem vl (.slice (some ⟨w.heap.size + 1, 0, none⟩) 1 1) (by rfl) (by rfl) (KOA.out _ _) (.of_blk (Blk.newAt 3 #[.int .i64 a2] (by simp)) (m := 1) 1 rfl) (by intro u hu; simp at hu; subst hu; rfl) LEN.out BYT.out (by simpa using BZ.out) ?_
      intro v1 w1 o1 u1 b1
      obtain ⟨A1, cc1, rfl, _, _⟩ := own_slice o1
      have O1 := Lib.hid o1
      have U1 := Lib.hid u1
      have B1 := Lib.hid b1
      have NB : Hid (vl.ownBlock ≠ some b) := Lib.hid (own_type HO.out HBL.out (by decide))
      have BL1 : Hid (Blk w1 b 23 #[vl]) := Lib.hid (((HBL.out.alloc _).alloc _).upd u1 (fun h => NB.out (by simpa using h)))
      have d0 : w1.frozen? ⟨b, 0, none⟩ = false := BL1.out.frozen 0
      have d1 : w1.cell? ⟨b, 0, none⟩ = some vl := BL1.out.cell 0
      have dl : b < w1.heap.size := BL1.out.lt
      clear o1 u1 b1
      go_wp2_with fail
      go_ret
      have NB1 : (Value.slice A1 (s.length + 1) cc1).ownBlock ≠ some b := own_type O1.out BL1.out (by decide)
      have hu : Upd [b] w1 (w1.setCell ⟨b, 0, none⟩ (.slice A1 (s.length + 1) cc1)) := (Upd.refl [b] w1).setCell (.inl (by simp)) _
      rw [STEP.out]
      refine ⟨rfl, ⟨_, BL1.out.set_eq rfl, HBB.out, ?_⟩, ?_, ?_⟩
      · have := own_upd O1.out hu (fun k hk => by simp; rintro rfl; exact NB1 hk)
        simpa using this
      · refine .of_upd (S := b :: vl.ownBlock.toList) ?_ ?_
        · exact ((((Upd.refl _ w).alloc _).alloc _).trans (U1.out.mono (fun x hx => .inl (List.mem_cons_of_mem _ hx)))).trans (hu.mono (fun x hx => .inl (by simp at hx; subst hx; simp)))
        · intro x hx
          rcases List.mem_cons.1 hx with rfl | hx
          · exact .inl (.inl rfl)
          · exact .inl (.inr ⟨_, HBL.out.cell 0, by simpa using hx⟩)
      · rintro k (rfl | ⟨v', hc, hk⟩)
        · exact .inl (.inl rfl)
        · have h4 : (w1.setCell ⟨b, 0, none⟩ (.slice A1 (s.length + 1) cc1)).cell? ⟨b, 0, none⟩ = some (.slice A1 (s.length + 1) cc1) := (BL1.out.set_eq rfl : Blk _ b 23 #[.slice A1 (s.length + 1) cc1]).cell 0
          rw [h4] at hc
          injection hc with hc
          subst hc
          rcases B1.out with e | e
          · rw [e] at hk
            exact .inl (.inr ⟨_, HBL.out.cell 0, hk⟩)
          · rw [e] at hk
            injection hk with hk
            exact .inr (by rw [← hk]; simp; omega)
    · have STEP : Hid (stepC s (.mk a1 a2 a3 a4 a5 a6 a7 bo el) = s) := Lib.hid (by unfold stepC; rw [show collOf (.mk a1 a2 a3 a4 a5 a6 a7 bo el) = none from if_neg hk])
      by_cases h1 : 1 ≤ a1
      · have k1 : decide ((1 : Int) ≤ a1) = true := by simp; omega
        have k2 : decide (a1 ≤ (8 : Int)) = false := by simp; omega
        go_enter Tryd.func36, Tryd.ntmps36
        go_wp2_with fail
        go_ret
        rw [STEP.out]
        exact ⟨rfl, ⟨_, HBL.out.alloc _, HBB.out, own_upd0 HO.out ((Upd.refl [] w).alloc _)⟩, .of_upd ((Upd.refl [] w).alloc _) (by simp), fun k h => .inl (h.imp id fun ⟨v', hc, hk⟩ => ⟨_, HBL.out.cell 0, by
          have h4 := ((HBL.out.alloc (.cells #[.int .i64 a1, .int .i64 a2, .int .i64 a3, .int .i64 a4, .int .i64 a5, .int .i64 a6, .int .i64 a7, vbo, ve] 39)).cell 0).symm.trans hc
          simp at h4
          subst h4
          exact hk⟩)⟩
      · have k1 : decide ((1 : Int) ≤ a1) = false := by simp; omega
        go_enter Tryd.func36, Tryd.ntmps36
        go_wp2_with fail
        go_ret
        rw [STEP.out]
        exact ⟨rfl, ⟨_, HBL.out.alloc _, HBB.out, own_upd0 HO.out ((Upd.refl [] w).alloc _)⟩, .of_upd ((Upd.refl [] w).alloc _) (by simp), fun k h => .inl (h.imp id fun ⟨v', hc, hk⟩ => ⟨_, HBL.out.cell 0, by
          have h4 := ((HBL.out.alloc (.cells #[.int .i64 a1, .int .i64 a2, .int .i64 a3, .int .i64 a4, .int .i64 a5, .int .i64 a6, .int .i64 a7, vbo, ve] 39)).cell 0).symm.trans hc
          simp at h4
          subst h4
          exact hk⟩)⟩

end Go.Proofs.YtblfklnnojhadaaDoor

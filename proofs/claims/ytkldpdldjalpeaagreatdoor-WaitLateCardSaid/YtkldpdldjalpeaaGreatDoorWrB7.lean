/-
  The closure of WaitLate, as a body; what it comes to, alone.
  WaitLate, the walk.
-/
import Derived.Test.YtkldpdldjalpeaaGreatDoorWrB6
set_option linter.unusedVariables false
namespace Go.Proofs.YtkldpdldjalpeaaGreatDoor.Th
def lateT (lk : Bool) (ver : Int) : Pg An := (if lk = true then turnT 6 0 (lockTo 3) 8 else .ret ⟨0, 0, 0⟩).bind fun a => if a.err = 0 then (sleepT 9 [(3, 0), (6, ver)]).bind fun b => .ret ⟨0, b.err, b.n⟩ else .ret ⟨a.err, 0, 0⟩
theorem dep_late (lk : Bool) (ver : Int) : Dep (lateT lk ver) (16 + 33) := by
  refine Dep.bind (n := 16) (m := 33) ?_ fun a => ?_
  · split
    · exact dep_turn 6 0 _ 8
    · exact .ret _ _
  · split
    · exact (dep_sleep 9 [(3, 0), (6, ver)]).bind (m := 0) fun b => .ret _ _
    · exact .ret _ _
def RB2 (w0 v0 w1 v1 r : Int) : BS := ⟨11, [(1, 1), (3, 2), (6, 2), (9, 1)], [0, 3, 0, 5, w0, v0, 5, w1, v1, 3, r] ++ List.replicate 289 0⟩
set_option maxRecDepth 20000 in
theorem br2 : BR 2 = RB2 0 10 0 11 0 := rfl
set_option maxRecDepth 20000 in
theorem la_e1 (ver : Int) : exec 30 (lateT true ver) (RB2 0 10 0 11 0) = some (⟨0, 12, 0⟩, RB2 2 10 769 11 0) := rfl
set_option maxRecDepth 20000 in
theorem la_e2 : exec 30 (lateT false 0) (RB2 0 10 0 11 0) = some (⟨0, 0, 0⟩, RB2 2 10 2 11 0) := rfl
set_option maxRecDepth 20000 in
theorem la_e3 {ver : Int} (h : ver ≠ 0) : exec 30 (lateT false ver) (RB2 0 10 0 11 0) = some (⟨0, 12, 0⟩, RB2 2 10 0 11 0) := by
  have h1 : exec 3 ((awaitsT [(3, 0)])) (RB2 0 10 0 11 0) = some (⟨0, 0, 0⟩, RB2 2 10 0 11 0) := rfl
  have h2 : exec 3 (turnT 6 ver waitTo 8) (RB2 2 10 0 11 0) = some (⟨12, 0, 0⟩, RB2 2 10 0 11 0) := by
    show exec 2 (if (false = true) ∨ (0 : Int) ≠ ver then (Pg.ret ⟨12, 0, 0⟩ : Pg An) else _) _ = _
    rw [if_pos (.inr (fun e => h e.symm))]
    rfl
  have h3 : exec (3 + 3) (awaitsT [(3, 0), (6, ver)]) (RB2 0 10 0 11 0) = some (⟨12, 0, 0⟩, RB2 2 10 0 11 0) := by
    have h4 : exec 2 (turnT 3 0 waitTo 8) (RB2 0 10 0 11 0) = some (⟨0, 0, 0⟩, RB2 2 10 0 11 0) := rfl
    refine exec_bind 2 4 h4 ?_
    rw [if_pos rfl]
    exact exec_bind 3 1 h2 rfl
  have h5 : exec 1 (nowT 9) (RB2 0 10 0 11 0) = some (⟨0, 0, 0⟩, RB2 0 10 0 11 0) := rfl
  have h6 : exec (1 + (6 + 0)) (sleepT 9 [(3, 0), (6, ver)]) (RB2 0 10 0 11 0) = some (⟨12, 0, 0⟩, RB2 2 10 0 11 0) := exec_bind 1 (6 + 0) h5 (exec_bind 6 0 h3 rfl)
  exact exec_bind 0 30 (p := (.ret ⟨0, 0, 0⟩ : Pg An)) rfl (exec_bind (1 + (6 + 0)) 23 h6 rfl)
end Go.Proofs.YtkldpdldjalpeaaGreatDoor.Th
namespace Go.Proofs.YtkldpdldjalpeaaGreatDoor
open Go.RowKit Th
attribute [local go_sem] litStep_value

/-- A slice of a new block, known whole, from block B on. -/
def litN (B : Nat) (t : TypeId) (cs : Array Value) (n : Nat) : Spec := ⟨fun v => v.ownBlock.toList, fun v w => ∃ g, v = .slice (some ⟨g, 0, none⟩) n n ∧ B ≤ g ∧ Blk w g t cs, fun v => ∃ g, v = .slice (some ⟨g, 0, none⟩) n n⟩
theorem lasts_litN {S : List Nat} {w0 : World} (B : Nat) (t : TypeId) (cs : Array Value) (n : Nat) : Lasts S w0 (litN B t cs n) := ⟨fun v w w' T _ h hu hT _ => by
  obtain ⟨g, rfl, hn, hb⟩ := h
  exact ⟨g, rfl, hn, hb.upd hu fun hm => hT g hm (by simp [litN, Value.ownBlock])⟩, ⟨_, 0, rfl⟩, fun _ _ ⟨g, e, _⟩ => ⟨g, e⟩⟩
abbrev lateC (lb cbx kb rb vb : Nat) (lk : Bool) (ver : Int) : List (Nat × TypeId × Array Value) := [(lb, 4, #[.bool lk]), (cbx, 27, #[.slice (some ⟨kb, 0, none⟩) 2 2]), (kb, 26, #[.int .u64 3, .int .u64 6]), (rb, 26, #[.int .u64 9]), (vb, 3, #[.int .i64 ver])]
abbrev lateO (gb db : Nat) : List (Nat × TypeId × (An → Value)) := [(gb, 3, fun a => .int .i64 a.n), (db, 3, fun a => .int .i64 a.val)]
set_option maxRecDepth 20000 in
set_option maxHeartbeats 2000000 in
theorem late_ok (lb cbx kb rb vb gb db : Nat) (lk : Bool) (ver : Int) {F : BFp} {cb : Nat} {lv : Value} {c : CS} {S : List Nat} {r0 : Option An} (w : World) (h : CSt w F cb lv c) (hJ : ∀ q ∈ [(3, 2), (6, 2), (9, 1)], q ∈ c.B.sz) (hM : MBx (lateC lb cbx kb rb vb lk ver) (lateO gb db) w S r0) (hS : ∀ x ∈ S, x ∉ SS F cb lv) (hf : ∀ a, (run (lateT lk ver) c).1 = some a → ¬ a.err ≠ 0) :
    Calls Tryz.prog 21 #[.pointer (some ⟨cb, 0, none⟩), .pointer (some ⟨lb, 0, none⟩), .pointer (some ⟨cbx, 0, none⟩), .pointer (some ⟨rb, 0, none⟩), .pointer (some ⟨vb, 0, none⟩), .pointer (some ⟨gb, 0, none⟩), .pointer (some ⟨db, 0, none⟩)] w fun e w' => ∃ v, e = .returned v ∧ DoP F cb lv S (MBx (lateC lb cbx kb rb vb lk ver) (lateO gb db)) w (run (lateT lk ver) c) v w' := by
  have D0 : Hid (DoW F cb lv S (lateC lb cbx kb rb vb lk ver) (lateO gb db) w lv c w) := Lib.hid (.start h hM hS)
  have FX : Hid (∀ W lv1 c1, DoW F cb lv S (lateC lb cbx kb rb vb lk ver) (lateO gb db) w lv1 c1 W → Blk W lb 4 #[.bool lk] ∧ Blk W cbx 27 #[.slice (some ⟨kb, 0, none⟩) 2 2] ∧ Blk W kb 26 #[.int .u64 3, .int .u64 6] ∧ Blk W rb 26 #[.int .u64 9] ∧ Blk W vb 3 #[.int .i64 ver] ∧ (∃ x, Blk W gb 3 #[x]) ∧ ∃ x, Blk W db 3 #[x]) := Lib.hid (fun W lv1 c1 hD => by
    obtain ⟨_, _, m1, m2⟩ := hD.m
    simp only [List.mem_cons, forall_eq_or_imp, List.not_mem_nil, false_imp_iff, implies_true, and_true] at m1 m2
    obtain ⟨⟨x, e1, _⟩, y, e2, _⟩ := m2
    exact ⟨m1.1, m1.2.1, m1.2.2.1, m1.2.2.2.1, m1.2.2.2.2, ⟨x, e1⟩, y, e2⟩)
  have HNE : Hid (gb ≠ db ∧ gb ∈ S ∧ db ∈ S) := Lib.hid (by
    obtain ⟨rfl, hnd, _⟩ := hM
    refine ⟨?_, by simp, by simp⟩
    simp at hnd
    omega)
  have HLT := Lib.hid ((mbx_ok _ _).lt _ _ _ hM)
  have HJ := Lib.hid hJ
  have HF := Lib.hid hf
  have b1 := (FX.out _ _ _ D0.out).1.facts
  have H0 := Lib.hid h
  clear h hJ hM hS hf
  go_enter Tryz.func21, Tryz.ntmps21
  cases lk with
  | false =>
    obtain ⟨w1, hw1⟩ : ∃ w1, w1 = w := ⟨_, rfl⟩
    have D1 : Hid (DoW F cb lv S (lateC lb cbx kb rb vb false ver) (lateO gb db) w lv c w) := D0
    have HJ1 := HJ
    have HR1 : Hid (run ((sleepT 9 [(3, 0), (6, ver)]).bind fun b => .ret ⟨0, b.err, b.n⟩) c = run (lateT false ver) c) := Lib.hid rfl
    clear hw1
    obtain ⟨_, g2, g3, g4, g5, ⟨x6, g6⟩, x7, g7⟩ := FX.out _ _ _ D1.out
    have hin : ∀ b ∈ [cbx, kb, rb, vb], b ∉ SS F cb lv := fun b hb => D1.out.ns b (by rw [D1.out.m.1]; simp at hb ⊢; omega)
    have KP : Hid (∀ V, Upd (SS F cb lv) w V → V.cell? ⟨cbx, 0, none⟩ = some (.slice (some ⟨kb, 0, none⟩) 2 2) ∧ V.cell? ⟨kb, 0, none⟩ = some (.int .u64 3) ∧ V.cell? ⟨kb, 1, none⟩ = some (.int .u64 6) ∧ V.cell? ⟨rb, 0, none⟩ = some (.int .u64 9) ∧ V.cell? ⟨vb, 0, none⟩ = some (.int .i64 ver)) := Lib.hid (fun V hu => by
      exact ⟨(g2.upd hu (hin _ (by simp))).cell 0, (g3.upd hu (hin _ (by simp))).cell 0, (g3.upd hu (hin _ (by simp))).cell 1, (g4.upd hu (hin _ (by simp))).cell 0, (g5.upd hu (hin _ (by simp))).cell 0⟩)
    obtain ⟨W, hW⟩ : ∃ W, W = (w.alloc (Obj.cells #[.int .u64 3, .int .i64 0, .int .u64 6, .int .i64 ver] 56)).drew := ⟨_, rfl⟩
    have UW : Hid (Upd [] w W) := Lib.hid (by rw [hW]; exact ((Upd.refl _ _).alloc _).drew)
    have OW : Hid (Ow SnE 56 W 0 (.slice (some ⟨w.heap.size, 0, none⟩) 2 2) [(3, 0), (6, ver)]) := Lib.hid (by rw [hW]; exact (ow_lit (Blk.new _ _ _) rfl rfl (by simp [maxLen])).upd0 (Upd.refl _ _).drew)
    have DW := Lib.hid (D1.out.upd UW.out)
    have HC := Lib.hid (sleep_ok W DW.out.st 9 (HJ1.out _ (by simp)) [(3, 0), (6, ver)] (.slice (some ⟨w.heap.size, 0, none⟩) 2 2) OW.out (fun b hb hm => by
      simp [Value.ownBlock] at hb
      subst hb
      have := SS_lt D1.out.st _ hm
      omega) (by simp) (fun x hx => by
      simp at hx
      rcases hx with rfl | rfl
      · exact HJ1.out _ (by simp)
      · exact HJ1.out _ (by simp)))
    rw [hW] at HC
    clear g2 g3 g4 g5 g6 g7 OW
    go_wp2_with fail
    go_region_held3 (fun V => V.cell? ⟨cbx, 0, none⟩ = some (.slice (some ⟨kb, 0, none⟩) 2 2) ∧ V.cell? ⟨kb, 0, none⟩ = some (.int .u64 3) ∧ V.cell? ⟨kb, 1, none⟩ = some (.int .u64 6) ∧ V.cell? ⟨rb, 0, none⟩ = some (.int .u64 9) ∧ V.cell? ⟨vb, 0, none⟩ = some (.int .i64 ver)) (first | exact KP.out _ hu2 | exact KP.out _ ((Upd.refl _ _).alloc _).drew | exact KP.out _ (Upd.refl _ _).drew | exact KP.out _ ((Upd.refl _ _).drew.alloc _)) (first
      | (go_at_call 20; refine HC.out.mono ?_; rintro e w2 ⟨lv2, v, rfl, h1, h2, h3⟩; rw [← hW] at h2 h3; have hu2 : Upd (SS F cb lv) w w2 := (UW.out.mono (by simp)).trans h2.up; have D2 := Lib.hid (DW.out.call h1 h2); have H3 := Lib.hid (h3.base DW.out.up.size); clear h1 h2 h3))
    obtain ⟨_, _, _, _, _, ⟨x6, g6⟩, x7, g7⟩ := FX.out _ _ _ D2.out
    have f6 := g6.facts
    have f7 := g7.facts
    have hne : gb ≠ db := HNE.out.1
    have hne' : db ≠ gb := fun e => hne e.symm
    have HUB : Hid (∀ (x y : Value), ErK 2 w2 w.heap.size v 11 → ErK 2 ((w2.setCell ⟨gb, 0, none⟩ x).setCell ⟨db, 0, none⟩ y) w.heap.size v 11) := Lib.hid (fun x y h => h.upd (S := [gb, db]) (((Upd.refl _ _).setCell (by simp) _).setCell (by simp) _) (fun z hz => by
      simp at hz
      rcases hz with rfl | rfl
      · exact HLT.out _ HNE.out.2.1
      · exact HLT.out _ HNE.out.2.2))
    clear hu2 g6 g7
    cases hr : run (sleepT 9 [(3, 0), (6, ver)]) c with
    | mk o c2 =>
      rw [hr] at D2 H3
      cases o with
      | none =>
        have HR : Hid (run (lateT false ver) c = (none, c2)) := Lib.hid (by rw [← HR1.out]; exact run_bind_none hr)
        have HE := H3.out
        simp only [resA] at HE
        have HE2 := Lib.hid HE
        clear hr HE
        simp only [resA]
        go_wp2_with fail
        refine (no_er (HE2.out.er (by omega))).mono ?_
        rintro e w' ⟨rfl, rfl⟩
        obtain ⟨D3, y3, u3⟩ := D2.out.put (b := gb) (t := 3) (f := fun a => .int .i64 a.n) (by simp) (.int .i64 0)
        obtain ⟨D4, y4, u4⟩ := D3.put (b := db) (t := 3) (f := fun a => .int .i64 a.val) (by simp) (.int .i64 11)
        have D4 := Lib.hid D4
        clear D3 y3 u3 y4 u4
        go_wp2_with fail
        go_ret
        rw [HR.out]
        exact ⟨_, rfl, D4.out.fin (by intro a ha; cases ha) (HUB.out _ _ HE2.out)⟩
      | some b =>
        have HR : Hid (run (lateT false ver) c = (some ⟨0, b.err, b.n⟩, c2)) := Lib.hid (by rw [← HR1.out]; exact run_bind_some hr)
        have he : b.err = 0 ∨ b.err = 12 := retAll_run (P := E012) (e012_sleep _ _) (by rw [hr])
        have h11 : (b.err == 11) = false := by rcases he with h | h <;> rw [h] <;> rfl
        have HE := H3.out
        simp only [resA] at HE
        have HE2 := Lib.hid HE
        clear hr HE he
        simp only [resA]
        obtain ⟨be, bv, bn⟩ := b
        simp only at h11 HE2 HR ⊢
        go_wp2_with fail
        refine (no_er (HE2.out.er (by omega))).mono ?_
        rintro e w' ⟨rfl, rfl⟩
        obtain ⟨D3, y3, u3⟩ := D2.out.put (b := gb) (t := 3) (f := fun a => .int .i64 a.n) (by simp) (.int .i64 bn)
        obtain ⟨D4, y4, u4⟩ := D3.put (b := db) (t := 3) (f := fun a => .int .i64 a.val) (by simp) (.int .i64 be)
        have D4 := Lib.hid D4
        have Y3 := Lib.hid (y3.upd u4 (by simpa using hne))
        have Y4 := Lib.hid y4
        clear D3 y3 u3 y4 u4
        go_wp2_with fail
        go_ret
        rw [HR.out]
        exact ⟨_, rfl, D4.out.fin (fun a ha => by
          injection ha with ha
          subst ha
          simp only [List.mem_cons, forall_eq_or_imp, List.not_mem_nil, false_imp_iff, implies_true, and_true]
          exact ⟨Y3.out, Y4.out⟩) rfl⟩
  | true =>
    obtain ⟨_, a2, a3, _⟩ := FX.out _ _ _ D0.out
    have b2 := a2.facts
    have b3 := a3.facts
    have HL := Lib.hid (mlock_ok w H0.out 6 (HJ.out _ (by simp)) 0 3 (by omega))
    clear a2 a3
    go_wp2_with fail
    refine HL.out.mono ?_
    rintro e w1 ⟨lv1, v, rfl, h1, h2, h3⟩
    have D1 := Lib.hid (D0.out.call h1 h2)
    cases hr : run (turnT 6 0 (lockTo 3) 8) c with
    | mk o c1 =>
      rw [hr] at D1 h3
      cases o with
      | none =>
        have HR : Hid (run (lateT true ver) c = (none, c1)) := Lib.hid (run_bind_none hr)
        have H3 := Lib.hid h3
        have hc := h3.cases
        simp only [resA] at hc
        obtain ⟨⟨t, x, rfl⟩, _⟩ := hc.resolve_left (by omega)
        clear h1 h2 h3 hc hr b1 b2 b3
        go_wp2_with fail
        go_ret
        rw [HR.out]
        exact ⟨_, rfl, D1.out.fin (by intro a ha; cases ha) H3.out⟩
      | some a =>
        have hR := run_bind_some (f := fun a : An => if a.err = 0 then (sleepT 9 [(3, 0), (6, ver)]).bind fun b => .ret (⟨0, b.err, b.n⟩ : An) else .ret ⟨a.err, 0, 0⟩) hr
        have hR : run (lateT true ver) c = run (if a.err = 0 then (sleepT 9 [(3, 0), (6, ver)]).bind fun b => .ret (⟨0, b.err, b.n⟩ : An) else .ret ⟨a.err, 0, 0⟩) c1 := hR
        have he : a.err = 0 := Classical.byContradiction fun h0 => by
          rw [if_neg h0] at hR
          exact HF.out ⟨a.err, 0, 0⟩ (by rw [hR]; rfl) h0
        rw [if_pos he] at hR
        have HR1 := Lib.hid hR.symm
        have HJ1 : Hid (∀ q ∈ [(3, 2), (6, 2), (9, 1)], q ∈ c1.B.sz) := Lib.hid (fun q hq => run_mem hr (HJ.out q hq))
        simp only [resA, he] at h3
        obtain rfl := h3.zero
        clear h1 h2 h3 hr b1 b2 b3 hR he
        obtain ⟨_, g2, g3, g4, g5, ⟨x6, g6⟩, x7, g7⟩ := FX.out _ _ _ D1.out
        have hin : ∀ b ∈ [cbx, kb, rb, vb], b ∉ SS F cb lv1 := fun b hb => D1.out.ns b (by rw [D1.out.m.1]; simp at hb ⊢; omega)
        have KP : Hid (∀ V, Upd (SS F cb lv1) w1 V → V.cell? ⟨cbx, 0, none⟩ = some (.slice (some ⟨kb, 0, none⟩) 2 2) ∧ V.cell? ⟨kb, 0, none⟩ = some (.int .u64 3) ∧ V.cell? ⟨kb, 1, none⟩ = some (.int .u64 6) ∧ V.cell? ⟨rb, 0, none⟩ = some (.int .u64 9) ∧ V.cell? ⟨vb, 0, none⟩ = some (.int .i64 ver)) := Lib.hid (fun V hu => by
          exact ⟨(g2.upd hu (hin _ (by simp))).cell 0, (g3.upd hu (hin _ (by simp))).cell 0, (g3.upd hu (hin _ (by simp))).cell 1, (g4.upd hu (hin _ (by simp))).cell 0, (g5.upd hu (hin _ (by simp))).cell 0⟩)
        obtain ⟨W, hW⟩ : ∃ W, W = (w1.alloc (Obj.cells #[.int .u64 3, .int .i64 0, .int .u64 6, .int .i64 ver] 56)).drew := ⟨_, rfl⟩
        have UW : Hid (Upd [] w1 W) := Lib.hid (by rw [hW]; exact ((Upd.refl _ _).alloc _).drew)
        have OW : Hid (Ow SnE 56 W 0 (.slice (some ⟨w1.heap.size, 0, none⟩) 2 2) [(3, 0), (6, ver)]) := Lib.hid (by rw [hW]; exact (ow_lit (Blk.new _ _ _) rfl rfl (by simp [maxLen])).upd0 (Upd.refl _ _).drew)
        have DW := Lib.hid (D1.out.upd UW.out)
        have HC := Lib.hid (sleep_ok W DW.out.st 9 (HJ1.out _ (by simp)) [(3, 0), (6, ver)] (.slice (some ⟨w1.heap.size, 0, none⟩) 2 2) OW.out (fun b hb hm => by
          simp [Value.ownBlock] at hb
          subst hb
          have := SS_lt D1.out.st _ hm
          omega) (by simp) (fun x hx => by
          simp at hx
          rcases hx with rfl | rfl
          · exact HJ1.out _ (by simp)
          · exact HJ1.out _ (by simp)))
        rw [hW] at HC
        clear g2 g3 g4 g5 g6 g7 OW
        go_wp2_with fail
        go_region_held3 (fun V => V.cell? ⟨cbx, 0, none⟩ = some (.slice (some ⟨kb, 0, none⟩) 2 2) ∧ V.cell? ⟨kb, 0, none⟩ = some (.int .u64 3) ∧ V.cell? ⟨kb, 1, none⟩ = some (.int .u64 6) ∧ V.cell? ⟨rb, 0, none⟩ = some (.int .u64 9) ∧ V.cell? ⟨vb, 0, none⟩ = some (.int .i64 ver)) (first | exact KP.out _ hu2 | exact KP.out _ ((Upd.refl _ _).alloc _).drew | exact KP.out _ (Upd.refl _ _).drew | exact KP.out _ ((Upd.refl _ _).drew.alloc _)) (first
          | (go_at_call 20; refine HC.out.mono ?_; rintro e w2 ⟨lv2, v, rfl, h1, h2, h3⟩; rw [← hW] at h2 h3; have hu2 : Upd (SS F cb lv1) w1 w2 := (UW.out.mono (by simp)).trans h2.up; have D2 := Lib.hid (DW.out.call h1 h2); have H3 := Lib.hid (h3.base DW.out.up.size); clear h1 h2 h3))
        obtain ⟨_, _, _, _, _, ⟨x6, g6⟩, x7, g7⟩ := FX.out _ _ _ D2.out
        have f6 := g6.facts
        have f7 := g7.facts
        have hne : gb ≠ db := HNE.out.1
        have hne' : db ≠ gb := fun e => hne e.symm
        have HUB : Hid (∀ (x y : Value), ErK 2 w2 w.heap.size v 11 → ErK 2 ((w2.setCell ⟨gb, 0, none⟩ x).setCell ⟨db, 0, none⟩ y) w.heap.size v 11) := Lib.hid (fun x y h => h.upd (S := [gb, db]) (((Upd.refl _ _).setCell (by simp) _).setCell (by simp) _) (fun z hz => by
          simp at hz
          rcases hz with rfl | rfl
          · exact HLT.out _ HNE.out.2.1
          · exact HLT.out _ HNE.out.2.2))
        clear hu2 g6 g7
        cases hr : run (sleepT 9 [(3, 0), (6, ver)]) c1 with
        | mk o c2 =>
          rw [hr] at D2 H3
          cases o with
          | none =>
            have HR : Hid (run (lateT true ver) c = (none, c2)) := Lib.hid (by rw [← HR1.out]; exact run_bind_none hr)
            have HE := H3.out
            simp only [resA] at HE
            have HE2 := Lib.hid HE
            clear hr HE
            simp only [resA]
            go_wp2_with fail
            refine (no_er (HE2.out.er (by omega))).mono ?_
            rintro e w' ⟨rfl, rfl⟩
            obtain ⟨D3, y3, u3⟩ := D2.out.put (b := gb) (t := 3) (f := fun a => .int .i64 a.n) (by simp) (.int .i64 0)
            obtain ⟨D4, y4, u4⟩ := D3.put (b := db) (t := 3) (f := fun a => .int .i64 a.val) (by simp) (.int .i64 11)
            have D4 := Lib.hid D4
            clear D3 y3 u3 y4 u4
            go_wp2_with fail
            go_ret
            rw [HR.out]
            exact ⟨_, rfl, D4.out.fin (by intro a ha; cases ha) (HUB.out _ _ HE2.out)⟩
          | some b =>
            have HR : Hid (run (lateT true ver) c = (some ⟨0, b.err, b.n⟩, c2)) := Lib.hid (by rw [← HR1.out]; exact run_bind_some hr)
            have he : b.err = 0 ∨ b.err = 12 := retAll_run (P := E012) (e012_sleep _ _) (by rw [hr])
            have h11 : (b.err == 11) = false := by rcases he with h | h <;> rw [h] <;> rfl
            have HE := H3.out
            simp only [resA] at HE
            have HE2 := Lib.hid HE
            clear hr HE he
            simp only [resA]
            obtain ⟨be, bv, bn⟩ := b
            simp only at h11 HE2 HR ⊢
            go_wp2_with fail
            refine (no_er (HE2.out.er (by omega))).mono ?_
            rintro e w' ⟨rfl, rfl⟩
            obtain ⟨D3, y3, u3⟩ := D2.out.put (b := gb) (t := 3) (f := fun a => .int .i64 a.n) (by simp) (.int .i64 bn)
            obtain ⟨D4, y4, u4⟩ := D3.put (b := db) (t := 3) (f := fun a => .int .i64 a.val) (by simp) (.int .i64 be)
            have D4 := Lib.hid D4
            have Y3 := Lib.hid (y3.upd u4 (by simpa using hne))
            have Y4 := Lib.hid y4
            clear D3 y3 u3 y4 u4
            go_wp2_with fail
            go_ret
            rw [HR.out]
            exact ⟨_, rfl, D4.out.fin (fun a ha => by
              injection ha with ha
              subst ha
              simp only [List.mem_cons, forall_eq_or_imp, List.not_mem_nil, false_imp_iff, implies_true, and_true]
              exact ⟨Y3.out, Y4.out⟩) rfl⟩
end Go.Proofs.YtkldpdldjalpeaaGreatDoor

namespace Go.Proofs.YtkldpdldjalpeaaGreatDoor
open Go.RowKit Th
attribute [local go_sem] litStep_value

set_option maxRecDepth 20000 in
theorem late_do (lb cbx kb rb vb gb db : Nat) (lk : Bool) (ver : Int) : DoOk 21 #[.pointer (some ⟨lb, 0, none⟩), .pointer (some ⟨cbx, 0, none⟩), .pointer (some ⟨rb, 0, none⟩), .pointer (some ⟨vb, 0, none⟩), .pointer (some ⟨gb, 0, none⟩), .pointer (some ⟨db, 0, none⟩)] (lateT lk ver) (fun a => a.err ≠ 0) (fun B => ∀ q ∈ [(3, 2), (6, 2), (9, 1)], q ∈ B.sz) (MBx (lateC lb cbx kb rb vb lk ver) (lateO gb db)) :=
  doOk_of (fun _ _ => rfl) fun w F cb lv c S r0 h1 h2 h3 h4 h5 => late_ok lb cbx kb rb vb gb db lk ver w h1 h2 h3 h4 h5
theorem late_exec (lk : Bool) (ver : Int) : ∃ w1, exec 30 (lateT lk ver) (RB2 0 10 0 11 0) = some (⟨0, if lk = true ∨ ver ≠ 0 then 12 else 0, 0⟩, RB2 2 10 w1 11 0) := by
  cases lk with
  | true => exact ⟨_, la_e1 ver⟩
  | false =>
    by_cases h : ver = 0
    · subst h
      exact ⟨_, la_e2⟩
    · rw [if_pos (.inr h)]
      exact ⟨_, la_e3 h⟩
set_option maxRecDepth 20000 in
set_option maxHeartbeats 2000000 in
theorem law_late (ver : Int) (lk : Bool) (w : World) :
    Calls Tryz.prog 5 #[.int .i64 ver, .bool lk] w fun e w' => e = .returned (.bool true) ∧ Upd [] w w' := by
  go_enter Tryz.func5, Tryz.ntmps5
  go_wp2_with fail
  obtain ⟨nb, hnb⟩ : ∃ nb, nb = w.heap.size := ⟨_, rfl⟩
  obtain ⟨wa, hwa⟩ : ∃ wa, wa = (w.alloc (Obj.cells #[.int .i64 ver] 3)).alloc (Obj.cells #[.bool lk] 4) := ⟨_, rfl⟩
  have Ua : Hid (Upd [] w wa) := Lib.hid (by rw [hwa]; exact ((Upd.refl _ _).alloc _).alloc _)
  have Sa : Hid (wa.heap.size = nb + 2 ∧ nb = w.heap.size) := Lib.hid ⟨by rw [hwa, hnb]; simp, hnb⟩
  have Xa : Hid (Blk wa nb 3 #[.int .i64 ver] ∧ Blk wa (nb + 1) 4 #[.bool lk]) := Lib.hid ⟨by rw [hwa, hnb]; exact (Blk.new _ _ _).alloc _, by rw [hwa, hnb]; exact Blk.newAt _ _ (by simp)⟩
  rw [← hwa, ← hnb]
  clear hwa hnb
  refine (scene15_ok 2 (by omega) wa).mono ?_
  rintro e w1 ⟨F, kb, rfl, h1, h2, h3, h4, h5, h6⟩
  rw [br2] at h1
  have H1 := Lib.hid h1
  have H2 : Hid (Blk w1 kb 26 #[.int .u64 3, .int .u64 6]) := Lib.hid h2
  have H3 := Lib.hid h3
  have H4 : Hid ((∀ x ∈ F.l, wa.heap.size ≤ x) ∧ wa.heap.size ≤ kb ∧ kb ∉ F.l) := Lib.hid ⟨h4, h5, h6⟩
  have hr : rmN 2 = 9 := rfl
  rw [hr]
  clear h1 h2 h3 h4 h5 h6 hr
  go_wp2_with fail
  obtain ⟨n0, hn0⟩ : ∃ n0, n0 = w1.heap.size := ⟨_, rfl⟩
  obtain ⟨w2, hw2⟩ : ∃ w2, w2 = (((w1.alloc (Obj.cells #[.int .u64 9] 26)).alloc (Obj.cells #[.slice (some ⟨kb, 0, none⟩) 2 2] 27)).alloc (Obj.cells #[.int .i64 (-1)] 3)).alloc (Obj.cells #[.int .i64 0] 3) := ⟨_, rfl⟩
  have U2 : Hid (Upd [] w1 w2) := Lib.hid (by rw [hw2]; exact ((((Upd.refl _ _).alloc _).alloc _).alloc _).alloc _)
  have S2 : Hid (w2.heap.size = n0 + 4) := Lib.hid (by rw [hw2, hn0]; simp)
  have XX : Hid (Blk w2 n0 26 #[.int .u64 9] ∧ Blk w2 (n0 + 1) 27 #[.slice (some ⟨kb, 0, none⟩) 2 2] ∧ Blk w2 (n0 + 1 + 1) 3 #[.int .i64 (-1)] ∧ Blk w2 (n0 + 1 + 1 + 1) 3 #[.int .i64 0]) := Lib.hid (by
    rw [hw2, hn0]
    exact ⟨(((Blk.new _ _ _).alloc _).alloc _).alloc _, ((Blk.newAt _ _ (by simp)).alloc _).alloc _, (Blk.newAt _ _ (by simp)).alloc _, Blk.newAt _ _ (by simp)⟩)
  have KL : Hid ((∀ x ∈ F.l, x < n0) ∧ nb + 2 ≤ n0 ∧ kb < n0) := Lib.hid ⟨hn0 ▸ H1.out.lt, by have := H3.out.size; have := Sa.out; omega, hn0 ▸ H2.out.lt⟩
  rw [← hw2, ← hn0]
  clear hw2 hn0
  obtain ⟨L, hL⟩ : ∃ L, L = [nb + 1, n0 + 1, kb, n0, nb, n0 + 1 + 1, n0 + 1 + 1 + 1] := ⟨_, rfl⟩
  have HL := Lib.hid hL
  have hL1 : ∀ x ∈ L, w.heap.size ≤ x ∧ x < w2.heap.size := fun x hx => by
    have := S2.out; have := Sa.out; have := KL.out.2; have := H4.out.2.1
    rw [hL] at hx
    simp at hx
    omega
  have hF1 : ∀ x ∈ F.l, w.heap.size ≤ x ∧ x ∉ L := fun x hx => ⟨by have := H4.out.1 x hx; have := Sa.out; omega, fun hm => by
    have := KL.out.1 x hx
    have := H4.out.1 x hx
    have := Sa.out
    rw [hL] at hm
    simp at hm
    rcases hm with rfl | rfl | rfl | rfl | rfl | rfl | rfl
    · omega
    · omega
    · exact H4.out.2.2 hx
    · omega
    · omega
    · omega
    · omega⟩
  have UU : Hid (Upd [] w w2) := Lib.hid ((Ua.out.trans H3.out).trans U2.out)
  have U12 := Lib.hid (H3.out.trans U2.out)
  have hM1 : MBx (lateC (nb + 1) (n0 + 1) kb n0 nb lk ver) (lateO (n0 + 1 + 1) (n0 + 1 + 1 + 1)) w2 L (none : Option An) := ⟨hL, by have := KL.out.2; have := H4.out.2.1; have := Sa.out; rw [hL]; simp; omega, by simp only [List.mem_cons, forall_eq_or_imp, List.not_mem_nil, false_imp_iff, implies_true, and_true]; exact ⟨Xa.out.2.upd U12.out (by simp), XX.out.2.1, H2.out.upd U2.out (by simp), XX.out.1, Xa.out.1.upd U12.out (by simp)⟩, by simp only [List.mem_cons, forall_eq_or_imp, List.not_mem_nil, false_imp_iff, implies_true, and_true]; exact ⟨⟨_, XX.out.2.2.1, by intro a ha; cases ha⟩, _, XX.out.2.2.2, by intro a ha; cases ha⟩⟩
  obtain ⟨wx, hex⟩ := late_exec lk ver
  refine (alone_ok (mbx_ok _ _) (late_do (nb + 1) (n0 + 1) kb n0 nb (n0 + 1 + 1) (n0 + 1 + 1 + 1) lk ver) w2 (H1.out.upd U2.out (by simp)) hM1 (fun x hx hm => (hF1 x hm).2 hx) hex (dep_late _ _) (by decide) (by decide) (by simp)).mono ?_
  rintro e w3 ⟨rfl, F1, p1, p2, p3, p4, p5, p6⟩
  obtain ⟨_, _, m1, m2⟩ := p2
  simp only [List.mem_cons, forall_eq_or_imp, List.not_mem_nil, false_imp_iff, implies_true, and_true] at m1 m2
  obtain ⟨⟨x0, m3, m4⟩, x1, m5, m6⟩ := m2
  obtain rfl := m4 _ rfl
  obtain rfl := m6 _ rfl
  obtain ⟨g1, g2, g3, g4⟩ := alone_next hF1 hL1 UU.out p4 (fun x hx => hx) p5
  have z1 := m1.1.facts
  have z2 := m1.2.2.2.2.facts
  have m3' : Blk w3 (n0 + 1 + 1) 3 #[.int .i64 0] := m3
  have z3 := m3'.facts
  have U3 := Lib.hid g1
  by_cases hc : lk = true ∨ ver ≠ 0
  · have m5' : Blk w3 (n0 + 1 + 1 + 1) 3 #[.int .i64 12] := by rw [if_pos hc] at m5; exact m5
    have z4 := m5'.facts
    clear p1 p3 p4 p5 p6 m1 m3 m3' m4 m5 m5' m6 g1 g2 g3 g4 hM1 hL1 hF1 hL hex
    cases lk with
    | true =>
      clear hc
      go_wp2_with fail
      refine (alive15_ok w3).mono ?_
      rintro e w4 ⟨rfl, u4⟩
      have U4 := Lib.hid (U3.out.trans u4)
      clear u4
      go_wp2_with fail
      go_ret
      exact ⟨rfl, U4.out⟩
    | false =>
      have hv : ver ≠ 0 := hc.resolve_left (by simp)
      have hv2 : (ver != 0) = true := by simpa using hv
      clear hc
      go_wp2_with fail
      refine (alive15_ok w3).mono ?_
      rintro e w4 ⟨rfl, u4⟩
      have U4 := Lib.hid (U3.out.trans u4)
      clear u4
      go_wp2_with fail
      go_ret
      exact ⟨rfl, U4.out⟩
  · have m5' : Blk w3 (n0 + 1 + 1 + 1) 3 #[.int .i64 0] := by rw [if_neg hc] at m5; exact m5
    have z4 := m5'.facts
    have h1 : lk = false := by cases lk <;> simp at hc ⊢
    have h2 : ver = 0 := Classical.byContradiction fun h => hc (.inr h)
    subst h1 h2
    clear p1 p3 p4 p5 p6 m1 m3 m3' m4 m5 m5' m6 g1 g2 g3 g4 hM1 hL1 hF1 hL hex hc
    go_wp2_with fail
    refine (alive15_ok w3).mono ?_
    rintro e w4 ⟨rfl, u4⟩
    have U4 := Lib.hid (U3.out.trans u4)
    clear u4
    go_wp2_with fail
    go_ret
    exact ⟨rfl, U4.out⟩
end Go.Proofs.YtkldpdldjalpeaaGreatDoor

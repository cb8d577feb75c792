/-
  Package thread's Ctx: an access that is done now.
  Package thread's Ctx: Load.
  Package thread's Ctx: CAS. Printed by gen_ctx.py.
  Package thread's Ctx: Store. Printed by gen_ctx.py.
  Package words by contracts: New, Words, Count, and an arena that is none; the chapter's example.
  Package blocks by contracts: New, Alloc (nothing was freed).
  Package thread's Ctx: Alloc.
  Cells with versions, and a clock, as bodies that do accesses; lists of calls. No program in sight.
-/
import Derived.Test.YtkldpdldjalpeaaGreatDoorWrB2
import Derived.Deep.RegionHeld3
import Derived.Test.YtkldpdldjalpeaaGreatDoorWrB0
import Derived.Test.YtkldpdldjalpeaaGreatDoorWrB1
import Derived.BigQuiet
import Derived.Deep.QuietTactic
set_option linter.unusedVariables false
namespace Go.Proofs.YtkldpdldjalpeaaGreatDoor
open Go.RowKit Th
attribute [local go_sem] litStep_value

theorem ent_elem : Elem Tryz.prog 62 94 6 48 := .mk' (z := ((Tryz.prog.info? 94).bind (·.zero)).getD undef) Tryz.underlying62 (by kernel_rfl) (by kernel_rfl) (by omega)
set_option maxRecDepth 20000 in
set_option maxHeartbeats 4000000 in
/-- The access is done now: what 'do' answers. -/
theorem access_now {F : BFp} {cb : Nat} {lv : Value} {c : CS} (w : World) (h : CSt w F cb lv c) (fid : FuncId) (caps : Array Value) (hx : c.next = c.log.length) (hd : c.did = false) (a : Ac) (PF : BFp → Prop)
    (hw : 0 ≤ (ex c.B a).1.word ∧ (ex c.B a).1.word < 18446744073709551616)
    (ent : ∀ args w, (callFunc fid args).run Tryz.prog w = .ok (.enter fid args) w)
    (H : ∀ W, Upd [] w W → Calls Tryz.prog fid caps W fun e w' => ∃ F', e = .returned (.agg (encE (ex c.B a).1).toArray) ∧ BSt w' F' (ex c.B a).2 ∧ Upd F.l W w' ∧ (∀ x ∈ F'.l, x ∈ F.l ∨ W.heap.size ≤ x) ∧ F'.b0 = F.b0 ∧ PF F') :
    Calls Tryz.prog 57 #[.pointer (some ⟨cb, 0, none⟩), .func (.func fid) #[] caps] w fun e w' => ∃ F' lv',
      e = .returned (.tuple #[.agg (encE (ex c.B a).1).toArray, .nilIface]) ∧ CSt w' F' cb lv' ⟨c.log ++ [(ex c.B a).1], c.next + 1, true, (ex c.B a).2⟩ ∧ CNx w w' F F' cb lv lv' ∧ PF F' := by
  obtain ⟨A, n, rfl, hn1, hn2⟩ := h.log.form
  have hlen : c.log.length < 6000 := h.room.2.resolve_left (by simp [hd])
  have f := h.hdr.facts
  have hB := h.hdr
  rw [hd] at f hB
  rw [hx] at f hB
  have hdc : decide ((c.log.length : Int) < c.log.length) = false := by simp
  have HS := Lib.hid h
  have HB := Lib.hid hB
  have hl3 : (c.log.length : Int) < 6000 := by omega
  have hge : decide ((6000 : Int) ≤ c.log.length) = false := by simp; omega
  generalize hxe : (ex c.B a).1 = x at hw H ⊢
  generalize hbe : (ex c.B a).2 = B' at H ⊢
  have HH := Lib.hid H
  have HW := Lib.hid hw
  have HX := Lib.hid hx
  have HN := Lib.hid hlen
  clear h H hB hlen hw hx hd hxe hbe
  go_enter Tryz.func57, Tryz.ntmps57
  go_wp2_with fail
  go_quiet (fail)
  go_wp2_with fail
  refine (HH.out _ (((Upd.refl _ _).alloc _).drewN _)).mono ?_
  rintro e w1 ⟨F', rfl, hb1, hu1, hg1, hb0, hpf⟩
  have hu1' : Upd F.l w w1 := ((((Upd.refl F.l w).alloc _).drewN _).trans hu1)
  have HB1 : Hid (Blk w1 cb 67 #[.pointer (some ⟨F.b0, 0, none⟩), .slice A c.log.length n, .int .i64 c.log.length, .bool false]) := Lib.hid (HB.out.upd hu1' HS.out.ncb)
  have HO1 : Hid (Ow EnE 94 w1 0 (.slice A c.log.length n) c.log) := Lib.hid (HS.out.log.upd hu1' HS.out.nlv)
  have HR1 : Hid (Blk w1 w.heap.size 94 #[.int .i64 0, .int .u64 0, .int .i64 0, .int .u64 0, .bool false, .int .i64 0]) := Lib.hid (((Blk.new _ _ _).drewN _).upd hu1 (fun hm => by have := HS.out.st.lt _ hm; omega))
  have H1 := Lib.hid hb1
  have U1 := Lib.hid hu1'
  have G1 : Hid (∀ x ∈ F'.l, x ∈ F.l ∨ w.heap.size + 1 ≤ x) := Lib.hid (fun x hx => (hg1 x hx).elim .inl (fun e => .inr (by simpa using e)))
  have B01 := Lib.hid hb0
  have PF1 := Lib.hid hpf
  clear hb1 hu1 hu1' hg1 hb0 hpf f
  simp only [encE]
  go_wp2_with fail
  obtain ⟨w2, hw2⟩ : ∃ w2, w2 = w1.alloc (Obj.cells #[.int .i64 x.kind, .int .u64 x.ref, .int .i64 x.i, .int .u64 x.word, .bool x.done, .int .i64 0] 94) := ⟨_, rfl⟩
  have U2 : Hid (Upd [] w1 w2) := Lib.hid (by rw [hw2]; exact (Upd.refl _ _).alloc _)
  have X2 : Hid (Blk w2 w1.heap.size 94 #[.int .i64 x.kind, .int .u64 x.ref, .int .i64 x.i, .int .u64 x.word, .bool x.done, .int .i64 0]) := Lib.hid (by rw [hw2]; exact Blk.new _ _ _)
  rw [← hw2]
  clear hw2
  have HB2 := Lib.hid (HB1.out.upd U2.out (by simp))
  have HO2 := Lib.hid (HO1.out.upd0 U2.out)
  have CT : Hid (∀ W, Upd [] w2.drew W → W.cell? ⟨cb, 1, none⟩ = some (.slice A c.log.length n) ∧ W.cell? ⟨w1.heap.size, 0, none⟩ = some (.int .i64 x.kind) ∧ W.cell? ⟨w1.heap.size, 1, none⟩ = some (.int .u64 x.ref) ∧ W.cell? ⟨w1.heap.size, 2, none⟩ = some (.int .i64 x.i) ∧ W.cell? ⟨w1.heap.size, 3, none⟩ = some (.int .u64 x.word) ∧ W.cell? ⟨w1.heap.size, 4, none⟩ = some (.bool x.done) ∧ W.cell? ⟨w1.heap.size, 5, none⟩ = some (.int .i64 0)) := Lib.hid (fun W hW => by
    have hu : Upd [] w2 W := (Upd.refl [] w2).drew.trans hW
    have hx2 := X2.out.upd hu (by simp)
    exact ⟨(HB2.out.upd hu (by simp)).cell 1, hx2.cell 0, hx2.cell 1, hx2.cell 2, hx2.cell 3, hx2.cell 4, hx2.cell 5⟩)
  refine wp_invNT 7 [(6, .lit 94 #[.int .i64 x.kind, .int .u64 x.ref, .int .i64 x.i, .int .u64 x.word, .bool x.done, .int .i64 0] 1)] [] (by kernel_rfl) (by simp) (by kernel_rfl) (by kernel_rfl) ⟨lasts_lit _ _ _, trivial⟩ ?_
  simp only [List.take_succ_cons, List.take_zero, List.drop_succ_cons, List.drop_zero]
  with_reducible apply wpV_light
  · simp only [lightOp]
  · intro W hU hF
    have f0 := CT.out W hU
    clear hU hF
    go_simp
    exact rfl
  simp only [Act.put, List.setIfInBounds_toArray, List.set_cons_zero, List.set_cons_succ]
  with_reducible apply wpV_light
  · simp only [lightOp]
  · intro W hU hF
    have f0 := CT.out W hU
    clear hU hF
    go_simp
    exact rfl
  simp only [Act.put, List.setIfInBounds_toArray, List.set_cons_zero, List.set_cons_succ]
  with_reducible apply wpV_light
  · simp only [lightOp]
  · intro W hU hF
    have f0 := CT.out W hU
    clear hU hF
    go_simp
    exact rfl
  simp only [Act.put, List.setIfInBounds_toArray, List.set_cons_zero, List.set_cons_succ]
  with_reducible apply wpV_light
  · simp only [lightOp]
  · intro W hU hF
    have f0 := CT.out W hU
    clear hU hF
    go_simp
    exact rfl
  simp only [Act.put, List.setIfInBounds_toArray, List.set_cons_zero, List.set_cons_succ]
  with_reducible apply wpV_light
  · simp only [lightOp]
  · intro W hU hF
    have f0 := CT.out W hU
    clear hU hF
    go_simp
    exact rfl
  simp only [Act.put, List.setIfInBounds_toArray, List.set_cons_zero, List.set_cons_succ]
  with_reducible apply wpV_light
  · simp only [lightOp]
  · intro W hU hF
    have f0 := CT.out W hU
    clear hU hF
    go_simp
    exact rfl
  simp only [Act.put, List.setIfInBounds_toArray, List.set_cons_zero, List.set_cons_succ]
  refine wpV_heavy (by simp only [lightOp]) (by rfl) (fun W hU hk hF K hK => ?_) ?_
  · go_wp2_with fail
    exact wpV_lit hK rfl rfl rfl
  rintro _ ⟨g, rfl⟩
  simp only [Act.put, List.setIfInBounds_toArray, List.set_cons_zero, List.set_cons_succ]
  refine wpV_end (fun W hU _ hF => ?_)
  have U4 : Hid (Upd [] w2 W) := Lib.hid ((Upd.refl [] w2).drew.trans hU)
  have LT : Hid (Blk W g 94 #[.int .i64 x.kind, .int .u64 x.ref, .int .i64 x.i, .int .u64 x.word, .bool x.done, .int .i64 0]) := Lib.hid (by
    obtain ⟨g', he, hb⟩ := hF.out.1 (by kernel_rfl)
    injection he with he _ _
    injection he with he
    injection he with he
    subst he
    exact hb)
  clear hU hF
  refine wpT_op (by rfl) (fun K hK => ?_)
  refine wp_app W (.tmp 74) (.tmp 76) _ (by rfl) ent_elem (.slice A c.log.length n) _ (by rfl) (by rfl) (own_upd0 HO2.out U4.out) (.of_blk LT.out (m := 1) 1 rfl) (by intro u hu; simp at hu; rcases hu with rfl | rfl | rfl | rfl | rfl | rfl <;> rfl) (by have := HN.out; simp only [maxLen]; omega) (by have := HN.out; omega) (Nat.zero_le _) ?_
  intro v5 W5 o5 u5 b5
  obtain ⟨A5, c5, rfl, _, _⟩ := own_slice o5
  refine hK.out _ _ ?_
  clear hK K
  simp only [Act.put, List.setIfInBounds_toArray, List.set_cons_zero, List.set_cons_succ]
  have O5 : Hid (Ow EnE 94 W5 0 (.slice A5 (c.log.length + 1) c5) (c.log ++ [x])) := Lib.hid (by
    unfold Ow
    rw [flat_append, flat_one_, List.length_append, List.length_singleton]
    exact o5)
  have U5 := Lib.hid u5
  have B5 := Lib.hid b5
  clear o5 u5 b5
  have hpo : Hid (cb ∉ (Value.slice A c.log.length n).ownBlock.toList) := Lib.hid (fun hm => HS.out.cbl (by simpa using hm))
  have HB5 : Hid (Blk W5 cb 67 #[.pointer (some ⟨F.b0, 0, none⟩), .slice A c.log.length n, .int .i64 c.log.length, .bool false]) := Lib.hid ((HB2.out.upd U4.out (by simp)).upd U5.out hpo.out)
  have HR5 : Hid (Blk W5 w.heap.size 94 #[.int .i64 0, .int .u64 0, .int .i64 0, .int .u64 0, .bool false, .int .i64 0]) := Lib.hid (((HR1.out.upd U2.out (by simp)).upd U4.out (by simp)).upd U5.out (fun hm => by
    have := (own_lt HS.out.log (b := w.heap.size) (by simpa using hm)).2
    omega))
  have HX5 : Hid (Blk W5 w1.heap.size 94 #[.int .i64 x.kind, .int .u64 x.ref, .int .i64 x.i, .int .u64 x.word, .bool x.done, .int .i64 0]) := Lib.hid ((X2.out.upd U4.out (by simp)).upd U5.out (fun hm => by
    have := (own_lt HO1.out (b := w1.heap.size) (by simpa using hm)).2
    omega))
  clear hn2 hdc hge ent
  have f := HB5.out.facts
  have fr := HR5.out.facts
  have fx := HX5.out.facts
  have hne1 : cb ≠ w.heap.size := by have := HB.out.lt; omega
  have hne2 : cb ≠ w1.heap.size := by have := HB1.out.lt; omega
  have hne3 : w.heap.size ≠ w1.heap.size := by have := HR1.out.lt; omega
  refine wpT_op (by kernel_rfl) (fun K hK => ?_)
  go_wp2_with fail
  refine hK.out _ _ ?_
  clear hK K
  try simp only [Act.put, List.setIfInBounds_toArray, List.set_cons_zero, List.set_cons_succ]
  refine wpT_op (by kernel_rfl) (fun K hK => ?_)
  go_wp2_with fail
  refine hK.out _ _ ?_
  clear hK K
  try simp only [Act.put, List.setIfInBounds_toArray, List.set_cons_zero, List.set_cons_succ]
  refine wpT_op (by kernel_rfl) (fun K hK => ?_)
  go_wp2_with fail
  refine hK.out _ _ ?_
  clear hK K
  try simp only [Act.put, List.setIfInBounds_toArray, List.set_cons_zero, List.set_cons_succ]
  refine wpT_end ?_
  go_wp2_with fail
  have UF : Hid (Upd [cb] W5 (((W5.setCell ⟨cb, 1, none⟩ (.slice A5 (c.log.length + 1) c5)).setCell ⟨cb, 2, none⟩ (.int .i64 ((c.log.length : Int) + 1))).setCell ⟨cb, 3, none⟩ (.bool true))) := Lib.hid ((((Upd.refl _ _).setCell (by simp) _).setCell (by simp) _).setCell (by simp) _)
  have HB6 : Hid (Blk (((W5.setCell ⟨cb, 1, none⟩ (.slice A5 (c.log.length + 1) c5)).setCell ⟨cb, 2, none⟩ (.int .i64 ((c.log.length : Int) + 1))).setCell ⟨cb, 3, none⟩ (.bool true)) cb 67 #[.pointer (some ⟨F.b0, 0, none⟩), .slice A5 (c.log.length + 1) c5, .int .i64 ((c.log.length : Int) + 1), .bool true]) := Lib.hid (((HB5.out.set_ 1 _).set_ 2 _).set_ 3 _)
  generalize ((W5.setCell ⟨cb, 1, none⟩ (.slice A5 (c.log.length + 1) c5)).setCell ⟨cb, 2, none⟩ (.int .i64 ((c.log.length : Int) + 1))).setCell ⟨cb, 3, none⟩ (.bool true) = W6 at UF HB6 ⊢
  clear f fr fx
  have HX6 : Hid (Blk W6 w1.heap.size 94 #[.int .i64 x.kind, .int .u64 x.ref, .int .i64 x.i, .int .u64 x.word, .bool x.done, .int .i64 0]) := Lib.hid (HX5.out.upd UF.out (by simpa using hne2.symm))
  have HR6 : Hid (Blk W6 w.heap.size 94 #[.int .i64 0, .int .u64 0, .int .i64 0, .int .u64 0, .bool false, .int .i64 0]) := Lib.hid (HR5.out.upd UF.out (by simpa using hne1.symm))
  have fx := HX6.out.facts
  have fr := HR6.out.facts
  have hne1' := hne1.symm
  have hne3' := hne3.symm
  have FIN : Hid (∀ Wf, Upd [w.heap.size] W6 Wf → CSt Wf F' cb (.slice A5 (c.log.length + 1) c5) ⟨c.log ++ [x], c.next + 1, true, B'⟩ ∧ CNx w Wf F F' cb (.slice A c.log.length n) (.slice A5 (c.log.length + 1) c5)) := Lib.hid (fun Wf hu => by
    have hlv : ∀ b, (Value.slice A c.log.length n).ownBlock = some b → b < w.heap.size ∧ b ∉ F.l := fun b hb => ⟨(own_lt HS.out.log hb).2, HS.out.nlv b hb⟩
    have hz1 : w.heap.size + 1 ≤ w1.heap.size := HR1.out.lt
    have hz2 : w1.heap.size ≤ W.heap.size := Nat.le_trans U2.out.size U4.out.size
    have hF' : ∀ b ∈ F'.l, b < w1.heap.size := H1.out.lt
    have hlv5 : ∀ b, (Value.slice A5 (c.log.length + 1) c5).ownBlock = some b → b ∉ F'.l ∧ b ≠ w.heap.size := by
      intro b hb
      rcases B5.out with e | e
      · rw [e] at hb
        obtain ⟨h1, h2⟩ := hlv b hb
        refine ⟨fun hm => (G1.out b hm).elim h2 (fun e => by omega), by omega⟩
      · rw [e] at hb
        injection hb with hb
        subst hb
        exact ⟨fun hm => by have := hF' _ hm; omega, by omega⟩
    have hcF : cb ∉ F'.l := fun hm => (G1.out cb hm).elim HS.out.ncb (fun e => by have := HB.out.lt; omega)
    refine ⟨⟨?_, ?_, ?_, hcF, fun b hb => (hlv5 b hb).1, ?_, ?_, ?_⟩, ⟨?_, ?_⟩⟩
    · have h6 := HB6.out.upd hu (by simpa using hne1)
      rw [← B01.out] at h6
      have e : (((c.next + 1 : Nat) : Int)) = (c.log.length : Int) + 1 := by rw [HX.out]; omega
      show Blk Wf cb _ #[_, _, .int .i64 ((c.next + 1 : Nat) : Int), _]
      rw [e]
      exact h6
    · refine (O5.out.upd UF.out (fun b hb hm => ?_)).upd hu (fun b hb hm => ?_)
      · simp at hm
        subst hm
        exact (own_type O5.out HB5.out (by decide)) hb
      · simp at hm
        exact (hlv5 b hb).2 hm
    · refine ((((H1.out.upd U2.out (by simp)).upd U4.out (by simp)).upd U5.out (fun y hy hm => ?_)).upd UF.out (fun y hy => ?_)).upd hu (fun y hy hm => ?_)
      · obtain ⟨h1, h2⟩ := hlv y (by simpa using hy)
        exact (G1.out y hm).elim h2 (fun e => by omega)
      · simp at hy; subst hy; exact hcF
      · simp at hy; subst hy; exact (G1.out _ hm).elim (fun h => by have := HS.out.st.lt _ h; omega) (fun e => by omega)
    · intro e he
      rcases List.mem_append.1 he with he | he
      · exact HS.out.lwd e he
      · simp at he; subst he; exact HW.out
    · exact ⟨by have := HX.out; simp only [List.length_append, List.length_singleton]; omega, .inl rfl⟩
    · have := HN.out; simp only [List.length_append, List.length_singleton]; omega
    · have a1 : Upd (SS F cb (.slice A c.log.length n)) w w1 := U1.out.mono (fun y hy => .inl (by simp [SS, hy]))
      have a2 := (a1.trans' U2.out (by simp)).trans' U4.out (by simp)
      have a3 := a2.trans' U5.out (fun y hy => .inl (by simp only [SS]; exact List.mem_append_right _ (List.mem_cons_of_mem _ hy)))
      have a4 := a3.trans' UF.out (fun y hy => .inl (by simp at hy; subst hy; simp [SS]))
      exact a4.trans' hu (fun y hy => .inr (by simp at hy; omega))
    · intro y hy
      rcases List.mem_append.1 hy with hy | hy
      · rcases G1.out y hy with h | h
        · exact .inl (by simp [SS, h])
        · exact .inr (by omega)
      · rcases List.mem_cons.1 hy with rfl | hy
        · exact .inl (by simp [SS])
        · rcases B5.out with e | e
          · rw [e] at hy
            exact .inl (by simp only [SS]; exact List.mem_append_right _ (List.mem_cons_of_mem _ hy))
          · rw [e] at hy
            simp at hy
            exact .inr (by omega))
  go_region_with ((go_at_call 69); (refine (told_ok _).mono ?_); (rintro e w3 ⟨rfl, rfl⟩))
  all_goals
    go_wp2_with fail
    have HRf : Blk ((((((W6.setCell ⟨w.heap.size, 0, none⟩ (.int .i64 x.kind)).setCell ⟨w.heap.size, 1, none⟩ (.int .u64 x.ref)).setCell ⟨w.heap.size, 2, none⟩ (.int .i64 x.i)).setCell ⟨w.heap.size, 3, none⟩ (.int .u64 x.word)).setCell ⟨w.heap.size, 4, none⟩ (.bool x.done)).setCell ⟨w.heap.size, 5, none⟩ (.int .i64 0)) w.heap.size 94 #[.int .i64 x.kind, .int .u64 x.ref, .int .i64 x.i, .int .u64 x.word, .bool x.done, .int .i64 0] := (((((HR6.out.set_ 0 _).set_ 1 _).set_ 2 _).set_ 3 _).set_ 4 _).set_ 5 _
    have UFf : Upd [w.heap.size] W6 ((((((W6.setCell ⟨w.heap.size, 0, none⟩ (.int .i64 x.kind)).setCell ⟨w.heap.size, 1, none⟩ (.int .u64 x.ref)).setCell ⟨w.heap.size, 2, none⟩ (.int .i64 x.i)).setCell ⟨w.heap.size, 3, none⟩ (.int .u64 x.word)).setCell ⟨w.heap.size, 4, none⟩ (.bool x.done)).setCell ⟨w.heap.size, 5, none⟩ (.int .i64 0)) := ((((((Upd.refl _ _).setCell (by simp) _).setCell (by simp) _).setCell (by simp) _).setCell (by simp) _).setCell (by simp) _).setCell (by simp) _
    generalize (((((W6.setCell ⟨w.heap.size, 0, none⟩ (.int .i64 x.kind)).setCell ⟨w.heap.size, 1, none⟩ (.int .u64 x.ref)).setCell ⟨w.heap.size, 2, none⟩ (.int .i64 x.i)).setCell ⟨w.heap.size, 3, none⟩ (.int .u64 x.word)).setCell ⟨w.heap.size, 4, none⟩ (.bool x.done)).setCell ⟨w.heap.size, 5, none⟩ (.int .i64 0) = W7 at HRf UFf ⊢
    have d0 : W7.cell? ⟨w.heap.size, 0, none⟩ = some (.int .i64 x.kind) := HRf.cell 0
    have d1 : W7.cell? ⟨w.heap.size, 1, none⟩ = some (.int .u64 x.ref) := HRf.cell 1
    have d2 : W7.cell? ⟨w.heap.size, 2, none⟩ = some (.int .i64 x.i) := HRf.cell 2
    have d3 : W7.cell? ⟨w.heap.size, 3, none⟩ = some (.int .u64 x.word) := HRf.cell 3
    have d4 : W7.cell? ⟨w.heap.size, 4, none⟩ = some (.bool x.done) := HRf.cell 4
    have d5 : W7.cell? ⟨w.heap.size, 5, none⟩ = some (.int .i64 0) := HRf.cell 5
    refine bodyPost_ret (v := .tuple #[.agg (encE x).toArray, .nilIface]) (by simp [results, Tryz.results57, go_sem, Act.put, encE, d0, d1, d2, d3, d4, d5]) rfl ⟨F', _, rfl, (FIN.out _ ?_).1, (FIN.out _ ?_).2, PF1.out⟩
    all_goals (first | exact UFf | exact UFf.drew)
end Go.Proofs.YtkldpdldjalpeaaGreatDoor

namespace Go.Proofs.YtkldpdldjalpeaaGreatDoor
open Go.RowKit Th
attribute [local go_sem] litStep_value

/-- What access answers. -/
def AccV (r : Array Value) (v : Value) : Option En → Prop
  | some en => r = (encE en).toArray ∧ v = .nilIface
  | none => r = #[.int .i64 0, .int .u64 0, .int .i64 0, .int .u64 0, .bool false, .int .i64 0] ∧ v = .iface 65 (.int .i64 11)
theorem access_ok {F : BFp} {cb : Nat} {lv : Value} {c : CS} (w : World) (h : CSt w F cb lv c) (fid : FuncId) (caps : Array Value) (a : Ac) (PF : BFp → Prop)
    (hw : 0 ≤ (ex c.B a).1.word ∧ (ex c.B a).1.word < 18446744073709551616)
    (ent : ∀ args w, (callFunc fid args).run Tryz.prog w = .ok (.enter fid args) w)
    (H : ∀ W, Upd [] w W → Calls Tryz.prog fid caps W fun e w' => ∃ F', e = .returned (.agg (encE (ex c.B a).1).toArray) ∧ BSt w' F' (ex c.B a).2 ∧ Upd F.l W w' ∧ (∀ x ∈ F'.l, x ∈ F.l ∨ W.heap.size ≤ x) ∧ F'.b0 = F.b0 ∧ PF F') :
    Calls Tryz.prog 57 #[.pointer (some ⟨cb, 0, none⟩), .func (.func fid) #[] caps] w fun e w' => ∃ F' lv' r v,
      e = .returned (.tuple #[.agg r, v]) ∧ CSt w' F' cb lv' (access c a).2 ∧ CNx w w' F F' cb lv lv' ∧ (F' = F ∨ PF F') ∧ AccV r v (access c a).1 := by
  unfold access
  cases hx : c.log[c.next]? with
  | some x =>
    refine (access_told w h fid caps x hx).mono ?_
    rintro e w' ⟨rfl, h1, h2⟩
    exact ⟨F, lv, _, _, rfl, h1, h2, .inl rfl, rfl, rfl⟩
  | none =>
    have hn : c.next = c.log.length := by
      have := List.getElem?_eq_none_iff.1 hx
      have := h.room.1
      omega
    by_cases hd : c.did = true
    · refine (access_over w h fid caps hn hd).mono ?_
      rintro e w' ⟨rfl, hu⟩
      rw [if_pos hd]
      exact ⟨F, lv, _, _, rfl, h.upd0 hu, ⟨hu.mono (by simp), fun x hx => .inl hx⟩, .inl rfl, rfl, rfl⟩
    · rw [if_neg hd]
      refine (access_now w h fid caps hn (by simpa using hd) a PF hw ent H).mono ?_
      rintro e w' ⟨F', lv', rfl, h1, h2, h3⟩
      exact ⟨F', lv', _, _, rfl, h1, h2, .inr h3, rfl, rfl⟩

set_option maxRecDepth 20000 in
set_option maxHeartbeats 2000000 in
theorem load1_ok {F : BFp} {B : BS} (W : World) (p1 p2 p3 cb r i n : Nat) (l nx dd : Value) (h : BSt W F B) (hm : (r, n) ∈ B.sz) (hi : i < n) (b1 : Blk W p1 45 #[.pointer (some ⟨cb, 0, none⟩)]) (b2 : Blk W p2 26 #[.int .u64 r]) (b3 : Blk W p3 3 #[.int .i64 i]) (bc : Blk W cb 67 #[.pointer (some ⟨F.b0, 0, none⟩), l, nx, dd]) (hp : p1 ∉ F.l ∧ p2 ∉ F.l ∧ p3 ∉ F.l ∧ cb ∉ F.l) :
    Calls Tryz.prog 64 #[.pointer (some ⟨p1, 0, none⟩), .pointer (some ⟨p2, 0, none⟩), .pointer (some ⟨p3, 0, none⟩)] W fun e w' => ∃ F', e = .returned (.agg (encE (ex B (.load r i)).1).toArray) ∧ BSt w' F' (ex B (.load r i)).2 ∧ Upd F.l W w' ∧ (∀ x ∈ F'.l, x ∈ F.l ∨ W.heap.size ≤ x) ∧ F'.b0 = F.b0 ∧ F' = F := by
  have HS := Lib.hid h
  have HM := Lib.hid hm
  have HP := Lib.hid hp
  have H1 := Lib.hid b1
  have H2 := Lib.hid b2
  have H3 := Lib.hid b3
  have HC := Lib.hid bc
  clear h hm hp b1 b2 b3 bc
  go_enter Tryz.func64, Tryz.ntmps64
  go_wp2_with fail
  obtain ⟨w1, hw1⟩ : ∃ w1, w1 = W.alloc (Obj.cells #[.int .i64 0, .int .u64 0, .int .i64 0, .int .u64 0, .bool false, .int .i64 0] 94) := ⟨_, rfl⟩
  have U1 : Hid (Upd [] W w1) := Lib.hid (by rw [hw1]; exact (Upd.refl _ _).alloc _)
  have X1 : Hid (Blk w1 W.heap.size 94 #[.int .i64 0, .int .u64 0, .int .i64 0, .int .u64 0, .bool false, .int .i64 0]) := Lib.hid (by rw [hw1]; exact Blk.new _ _ _)
  rw [← hw1]
  clear hw1
  have HS1 : Hid (BSt w1 F B) := Lib.hid (HS.out.upd U1.out (by simp))
  have KP : Hid (∀ V, Upd F.l w1 V → V.cell? ⟨p1, 0, none⟩ = some (.pointer (some ⟨cb, 0, none⟩)) ∧ V.cell? ⟨p2, 0, none⟩ = some (.int .u64 r) ∧ V.cell? ⟨p3, 0, none⟩ = some (.int .i64 i) ∧ V.cell? ⟨cb, 0, none⟩ = some (.pointer (some ⟨F.b0, 0, none⟩))) := Lib.hid (fun V hV => by
    have hu : Upd F.l W V := (U1.out.mono (by simp)).trans hV
    exact ⟨(H1.out.upd hu HP.out.1).cell 0, (H2.out.upd hu HP.out.2.1).cell 0, (H3.out.upd hu HP.out.2.2.1).cell 0, (HC.out.upd hu HP.out.2.2.2).cell 0⟩)
  go_region_held3 (fun V => V.cell? ⟨p1, 0, none⟩ = some (.pointer (some ⟨cb, 0, none⟩)) ∧ V.cell? ⟨p2, 0, none⟩ = some (.int .u64 r) ∧ V.cell? ⟨p3, 0, none⟩ = some (.int .i64 i) ∧ V.cell? ⟨cb, 0, none⟩ = some (.pointer (some ⟨F.b0, 0, none⟩))) (first | exact KP.out _ ((Upd.refl _ _).drew.trans hu2) | exact KP.out _ (Upd.refl _ _).drew) (first
    | ((go_at_call 65); (refine (bload_ok _ (HS1.out.upd (Upd.refl [] w1).drew (by simp)) r n i HM.out hi).mono ?_); (rintro e w2 ⟨rfl, hb2, hu2⟩); (replace hu2 : Upd F.l w1.drew w2 := hu2.mono (fun y hy => .inl (by simp at hy; rcases hy with rfl | rfl <;> simp [BFp.l])))))
  have K2 : Hid (∀ V, Upd [] w2 V → V.cell? ⟨p1, 0, none⟩ = some (.pointer (some ⟨cb, 0, none⟩)) ∧ V.cell? ⟨p2, 0, none⟩ = some (.int .u64 r) ∧ V.cell? ⟨p3, 0, none⟩ = some (.int .i64 i) ∧ V.cell? ⟨cb, 0, none⟩ = some (.pointer (some ⟨F.b0, 0, none⟩))) := Lib.hid (fun V hV => KP.out V (((Upd.refl _ _).drew.trans hu2).trans' hV (by simp)))
  have X2 : Hid (Blk w2 W.heap.size 94 #[.int .i64 0, .int .u64 0, .int .i64 0, .int .u64 0, .bool false, .int .i64 0]) := Lib.hid (X1.out.upd ((Upd.refl _ _).drew.trans hu2) (fun hm => by have := HS.out.lt _ hm; omega))
  have U2 : Hid (Upd F.l W w2) := Lib.hid ((U1.out.mono (by simp)).trans ((Upd.refl _ _).drew.trans hu2))
  have HB2 := Lib.hid hb2
  clear hu2 hb2
  go_wp2_with fail
  have CT : Hid (∀ V, Upd [] w2.drew V → V.cell? ⟨p2, 0, none⟩ = some (.int .u64 r) ∧ V.cell? ⟨p3, 0, none⟩ = some (.int .i64 i)) := Lib.hid (fun V hV => by
    have := K2.out V ((Upd.refl _ _).drew.trans hV)
    exact ⟨this.2.1, this.2.2.1⟩)
  refine wp_invNT 6 [(4, .det (.int .i64 0)), (5, .det (.agg #[.int .i64 1, .int .u64 r, .int .i64 i, .int .u64 (B.ws[r + 1 + i]?.getD 0), .bool false, .int .i64 0]))] [] (by kernel_rfl) (by simp) (by kernel_rfl) (by kernel_rfl) ⟨lasts_det _, lasts_det _, trivial⟩ ?_
  simp only [List.take_succ_cons, List.take_zero, List.drop_succ_cons, List.drop_zero]
  with_reducible apply wpV_light
  · simp only [lightOp]
  · intro W hU hF
    have f0 := CT.out W hU
    clear hU hF
    go_simp
    exact rfl
  simp only [Act.put, List.setIfInBounds_toArray, List.set_cons_zero, List.set_cons_succ]
  with_reducible apply wpV_light
  · simp only [lightOp]
  · intro W hU hF
    have f0 := CT.out W hU
    clear hU hF
    go_simp
    exact rfl
  simp only [Act.put, List.setIfInBounds_toArray, List.set_cons_zero, List.set_cons_succ]
  with_reducible apply wpV_light
  · simp only [lightOp]
  · intro W hU hF
    have f0 := CT.out W hU
    clear hU hF
    go_simp
    exact rfl
  simp only [Act.put, List.setIfInBounds_toArray, List.set_cons_zero, List.set_cons_succ]
  with_reducible apply wpV_light
  · simp only [lightOp]
  · intro W hU hF
    have f0 := CT.out W hU
    clear hU hF
    go_simp
    exact rfl
  simp only [Act.put, List.setIfInBounds_toArray, List.set_cons_zero, List.set_cons_succ]
  refine wpV_heavy (by simp only [lightOp]) (by rfl) (fun W hU hk hF K hK => ?_) ?_
  · go_wp2_with fail
    refine (number_ok _).mono ?_; rintro e w3 ⟨rfl, hu3⟩
    go_wp2_with fail
    refine hK.out _ _ (outV_new rfl rfl (by intro b hb; cases hb) hu3)
  rintro _ rfl
  simp only [Act.put, List.setIfInBounds_toArray, List.set_cons_zero, List.set_cons_succ]
  refine wpV_heavy (by simp only [lightOp]) (by rfl) (fun W hU hk hF K hK => ?_) ?_
  · go_wp2_with fail
    refine hK.out _ _ (outV_new rfl rfl (by intro b hb; cases hb) (.refl _ _))
  rintro _ rfl
  simp only [Act.put, List.setIfInBounds_toArray, List.set_cons_zero, List.set_cons_succ]
  refine wpV_end (fun V hU _ hF => ?_)
  have U3 : Hid (Upd [] w2 V) := Lib.hid ((Upd.refl _ _).drew.trans hU)
  clear hU hF
  have X3 : Hid (Blk V W.heap.size 94 #[.int .i64 0, .int .u64 0, .int .i64 0, .int .u64 0, .bool false, .int .i64 0]) := Lib.hid (X2.out.upd U3.out (by simp))
  have x3 := X3.out.facts
  refine wpT_op (by rfl) (fun K hK => ?_)
  go_wp2_with fail
  refine hK.out _ _ ?_
  clear hK K
  try simp only [Act.put, List.setIfInBounds_toArray, List.set_cons_zero, List.set_cons_succ]
  refine wpT_end ?_
  go_wp2_with fail
  have HRf := (((((X3.out.set_ 0 (.int .i64 1)).set_ 1 (.int .u64 r)).set_ 2 (.int .i64 i)).set_ 3 (.int .u64 (B.ws[r + 1 + i]?.getD 0))).set_ 4 (.bool false)).set_ 5 (.int .i64 0)
  have UFf : Upd [W.heap.size] V ((((((V.setCell ⟨W.heap.size, 0, none⟩ (.int .i64 1)).setCell ⟨W.heap.size, 1, none⟩ (.int .u64 r)).setCell ⟨W.heap.size, 2, none⟩ (.int .i64 i)).setCell ⟨W.heap.size, 3, none⟩ (.int .u64 (B.ws[r + 1 + i]?.getD 0))).setCell ⟨W.heap.size, 4, none⟩ (.bool false)).setCell ⟨W.heap.size, 5, none⟩ (.int .i64 0)) := ((((((Upd.refl _ _).setCell (by simp) _).setCell (by simp) _).setCell (by simp) _).setCell (by simp) _).setCell (by simp) _).setCell (by simp) _
  generalize (((((V.setCell ⟨W.heap.size, 0, none⟩ (.int .i64 1)).setCell ⟨W.heap.size, 1, none⟩ (.int .u64 r)).setCell ⟨W.heap.size, 2, none⟩ (.int .i64 i)).setCell ⟨W.heap.size, 3, none⟩ (.int .u64 (B.ws[r + 1 + i]?.getD 0))).setCell ⟨W.heap.size, 4, none⟩ (.bool false)).setCell ⟨W.heap.size, 5, none⟩ (.int .i64 0) = W7 at HRf UFf ⊢
  have d0 : W7.cell? ⟨W.heap.size, 0, none⟩ = some (.int .i64 1) := HRf.cell 0
  have d1 : W7.cell? ⟨W.heap.size, 1, none⟩ = some (.int .u64 r) := HRf.cell 1
  have d2 : W7.cell? ⟨W.heap.size, 2, none⟩ = some (.int .i64 i) := HRf.cell 2
  have d3 : W7.cell? ⟨W.heap.size, 3, none⟩ = some (.int .u64 (B.ws[r + 1 + i]?.getD 0)) := HRf.cell 3
  have d4 : W7.cell? ⟨W.heap.size, 4, none⟩ = some (.bool false) := HRf.cell 4
  have d5 : W7.cell? ⟨W.heap.size, 5, none⟩ = some (.int .i64 0) := HRf.cell 5
  have hlt := HS.out.lt
  refine bodyPost_ret (v := .agg (encE (ex B (.load r i)).1).toArray) (by simp [results, Tryz.results64, go_sem, Act.put, encE, ex, d0, d1, d2, d3, d4, d5]) rfl ⟨F, rfl, ?_, ?_, fun x hx => .inl hx, rfl, rfl⟩
  · exact (HB2.out.upd U3.out (by simp)).upd UFf (fun y hy hm => by simp at hy; subst hy; have := hlt _ hm; omega)
  · exact (U2.out.trans' U3.out (by simp)).trans' UFf (fun y hy => .inr (by simp at hy; omega))
/-- A word that was told. -/
def LdV (x : Int) (v : Value) : Option En → Prop
  | some en => x = en.word ∧ v = .nilIface
  | none => x = 0 ∧ v = .iface 65 (.int .i64 11)
theorem ex_word {w : World} {F : BFp} {B : BS} (h : BSt w F B) {r n i : Nat} (hm : (r, n) ∈ B.sz) (hi : i < n) : 0 ≤ (ex B (.load r i)).1.word ∧ (ex B (.load r i)).1.word < 18446744073709551616 := by
  obtain ⟨x, hx, hg, h1⟩ := h.word hm hi
  have e : (ex B (.load r i)).1.word = x := hg
  rw [e]
  exact h1
set_option maxRecDepth 20000 in
set_option maxHeartbeats 2000000 in
theorem cload_ok {F : BFp} {cb : Nat} {lv : Value} {c : CS} (w : World) (h : CSt w F cb lv c) (r n i : Nat) (hm : (r, n) ∈ c.B.sz) (hi : i < n) :
    Calls Tryz.prog 52 #[.pointer (some ⟨cb, 0, none⟩), .int .u64 r, .int .i64 i] w fun e w' => ∃ lv' x v,
      e = .returned (.tuple #[.int .u64 x, v]) ∧ CSt w' F cb lv' (access c (.load r i)).2 ∧ CNx w w' F F cb lv lv' ∧ LdV x v (access c (.load r i)).1 := by
  have HS := Lib.hid h
  have HW := Lib.hid (ex_word h.st hm hi)
  have HM := Lib.hid hm
  clear h hm
  go_enter Tryz.func52, Tryz.ntmps52
  go_wp2_with fail
  obtain ⟨w1, hw1⟩ : ∃ w1, w1 = ((w.alloc (Obj.cells #[.pointer (some ⟨cb, 0, none⟩)] 45)).alloc (Obj.cells #[.int .u64 r] 26)).alloc (Obj.cells #[.int .i64 i] 3) := ⟨_, rfl⟩
  have U1 : Hid (Upd [] w w1) := Lib.hid (by rw [hw1]; exact (((Upd.refl _ _).alloc _).alloc _).alloc _)
  have P1 : Hid (Blk w1 w.heap.size 45 #[.pointer (some ⟨cb, 0, none⟩)]) := Lib.hid (by rw [hw1]; exact ((Blk.new _ _ _).alloc _).alloc _)
  have P2 : Hid (Blk w1 (w.heap.size + 1) 26 #[.int .u64 r]) := Lib.hid (by rw [hw1]; exact (Blk.newAt _ _ (by simp)).alloc _)
  have P3 : Hid (Blk w1 (w.heap.size + 1 + 1) 3 #[.int .i64 i]) := Lib.hid (by rw [hw1]; exact Blk.newAt _ _ (by simp))
  rw [← hw1]
  clear hw1
  refine (access_ok w1 (HS.out.upd0 U1.out) 64 _ (.load r i) (· = F) HW.out (fun _ _ => rfl) (fun W hW => ?_)).mono ?_
  · have hlt := HS.out.st.lt
    exact load1_ok W w.heap.size (w.heap.size + 1) (w.heap.size + 1 + 1) cb r i n _ _ _ ((HS.out.st.upd U1.out (by simp)).upd hW (by simp)) HM.out hi (P1.out.upd hW (by simp)) (P2.out.upd hW (by simp)) (P3.out.upd hW (by simp)) ((HS.out.hdr.upd U1.out (by simp)).upd hW (by simp))
      ⟨fun hm => by have := hlt _ hm; omega, fun hm => by have := hlt _ hm; omega, fun hm => by have := hlt _ hm; omega, HS.out.ncb⟩
  rintro e w2 ⟨F', lv', r', v, rfl, h1, h2, h3, h4⟩
  have hF : F' = F := h3.elim id id
  subst hF
  have H1 := Lib.hid h1
  have H2 := Lib.hid (h2.upd0 U1.out)
  have hcase : ∃ a1 a2 a3 a4 a5 a6, r' = #[.int .i64 a1, .int .u64 a2, .int .i64 a3, .int .u64 a4, .bool a5, .int .i64 a6] ∧ LdV a4 v (access c (.load r i)).1 := by
    cases ha : (access c (.load r i)).1 with
    | some en => rw [ha] at h4; exact ⟨_, _, _, _, _, _, h4.1, rfl, h4.2⟩
    | none => rw [ha] at h4; exact ⟨_, _, _, _, _, _, h4.1, rfl, h4.2⟩
  obtain ⟨a1, a2, a3, a4, a5, a6, rfl, hv⟩ := hcase
  have HV := Lib.hid hv
  clear h1 h2 h3 h4 hv
  go_wp2_with fail
  go_ret2
  refine ⟨lv', a4, v, rfl, H1.out.upd0 ?_, H2.out.upd ?_, HV.out⟩
  all_goals exact (Upd.refl _ _).alloc _
end Go.Proofs.YtkldpdldjalpeaaGreatDoor

namespace Go.Proofs.YtkldpdldjalpeaaGreatDoor
open Go.RowKit Th
attribute [local go_sem] litStep_value

set_option maxRecDepth 20000 in
set_option maxHeartbeats 4000000 in
theorem cas1_ok {F : BFp} {B : BS} (W : World) (p1 p2 p3 p4 p5 cb : Nat) (r i n : Nat) (o x : Int) (l nx dd : Value) (h : BSt W F B) (hx : 0 ≤ x ∧ x < 18446744073709551616) (hm : (r, n) ∈ B.sz) (hi : i < n) (b1 : Blk W p1 45 #[.pointer (some ⟨cb, 0, none⟩)]) (b2 : Blk W p2 26 #[.int .u64 r]) (b3 : Blk W p3 3 #[.int .i64 i]) (b4 : Blk W p4 26 #[.int .u64 o]) (b5 : Blk W p5 26 #[.int .u64 x]) (bc : Blk W cb 67 #[.pointer (some ⟨F.b0, 0, none⟩), l, nx, dd]) (hp : p1 ∉ F.l ∧ p2 ∉ F.l ∧ p3 ∉ F.l ∧ p4 ∉ F.l ∧ p5 ∉ F.l ∧ cb ∉ F.l) :
    Calls Tryz.prog 66 #[.pointer (some ⟨p1, 0, none⟩), .pointer (some ⟨p2, 0, none⟩), .pointer (some ⟨p3, 0, none⟩), .pointer (some ⟨p4, 0, none⟩), .pointer (some ⟨p5, 0, none⟩)] W fun e w' => ∃ F', e = .returned (.agg (encE (ex B (.cas r i o x)).1).toArray) ∧ BSt w' F' (ex B (.cas r i o x)).2 ∧ Upd F.l W w' ∧ (∀ x ∈ F'.l, x ∈ F.l ∨ W.heap.size ≤ x) ∧ F'.b0 = F.b0 ∧ F' = F := by
  have HS := Lib.hid h
  have HM := Lib.hid hm
  have HP := Lib.hid hp
  have H1 := Lib.hid b1
  have H2 := Lib.hid b2
  have H3 := Lib.hid b3
  have H4 := Lib.hid b4
  have H5 := Lib.hid b5
  have HC := Lib.hid bc
  clear h hm hp bc b1 b2 b3 b4 b5
  go_enter Tryz.func66, Tryz.ntmps66
  go_wp2_with fail
  obtain ⟨w1, hw1⟩ : ∃ w1, w1 = W.alloc (Obj.cells #[.int .i64 0, .int .u64 0, .int .i64 0, .int .u64 0, .bool false, .int .i64 0] 94) := ⟨_, rfl⟩
  have U1 : Hid (Upd [] W w1) := Lib.hid (by rw [hw1]; exact (Upd.refl _ _).alloc _)
  have X1 : Hid (Blk w1 W.heap.size 94 #[.int .i64 0, .int .u64 0, .int .i64 0, .int .u64 0, .bool false, .int .i64 0]) := Lib.hid (by rw [hw1]; exact Blk.new _ _ _)
  rw [← hw1]
  clear hw1
  have HS1 : Hid (BSt w1 F B) := Lib.hid (HS.out.upd U1.out (by simp))
  have KP : Hid (∀ V, Upd F.l w1 V → V.cell? ⟨p1, 0, none⟩ = some (.pointer (some ⟨cb, 0, none⟩)) ∧ V.cell? ⟨p2, 0, none⟩ = some (.int .u64 r) ∧ V.cell? ⟨p3, 0, none⟩ = some (.int .i64 i) ∧ V.cell? ⟨p4, 0, none⟩ = some (.int .u64 o) ∧ V.cell? ⟨p5, 0, none⟩ = some (.int .u64 x) ∧ V.cell? ⟨cb, 0, none⟩ = some (.pointer (some ⟨F.b0, 0, none⟩))) := Lib.hid (fun V hV => by
    have hu : Upd F.l W V := (U1.out.mono (by simp)).trans hV
    exact ⟨(H1.out.upd hu HP.out.1).cell 0, (H2.out.upd hu HP.out.2.1).cell 0, (H3.out.upd hu HP.out.2.2.1).cell 0, (H4.out.upd hu HP.out.2.2.2.1).cell 0, (H5.out.upd hu HP.out.2.2.2.2.1).cell 0, (HC.out.upd hu HP.out.2.2.2.2.2).cell 0⟩)
  have HX := Lib.hid hx
  clear hx
  generalize hd : (B.ws.getD (r + 1 + i) 0 == o) = dn
  have HD := Lib.hid hd
  clear hd
  go_region_held3 (fun V => V.cell? ⟨p1, 0, none⟩ = some (.pointer (some ⟨cb, 0, none⟩)) ∧ V.cell? ⟨p2, 0, none⟩ = some (.int .u64 r) ∧ V.cell? ⟨p3, 0, none⟩ = some (.int .i64 i) ∧ V.cell? ⟨p4, 0, none⟩ = some (.int .u64 o) ∧ V.cell? ⟨p5, 0, none⟩ = some (.int .u64 x) ∧ V.cell? ⟨cb, 0, none⟩ = some (.pointer (some ⟨F.b0, 0, none⟩))) (first | exact KP.out _ ((Upd.refl _ _).drew.trans hu2) | exact KP.out _ (Upd.refl _ _).drew) (first
    | ((go_at_call 67); (refine (bcas_ok _ (HS1.out.upd (Upd.refl [] w1).drew (by simp)) r n i o x HX.out HM.out hi).mono ?_); (rintro e w2 ⟨rfl, hb2, hu2⟩); (replace hu2 : Upd F.l w1.drew w2 := hu2.mono (fun y hy => .inl (by simp at hy; rcases hy with rfl | rfl <;> simp [BFp.l]))); (rw [HD.out])))
  have K2 : Hid (∀ V, Upd [] w2 V → V.cell? ⟨p1, 0, none⟩ = some (.pointer (some ⟨cb, 0, none⟩)) ∧ V.cell? ⟨p2, 0, none⟩ = some (.int .u64 r) ∧ V.cell? ⟨p3, 0, none⟩ = some (.int .i64 i) ∧ V.cell? ⟨p4, 0, none⟩ = some (.int .u64 o) ∧ V.cell? ⟨p5, 0, none⟩ = some (.int .u64 x) ∧ V.cell? ⟨cb, 0, none⟩ = some (.pointer (some ⟨F.b0, 0, none⟩))) := Lib.hid (fun V hV => KP.out V (((Upd.refl _ _).drew.trans hu2).trans' hV (by simp)))
  have X2 : Hid (Blk w2 W.heap.size 94 #[.int .i64 0, .int .u64 0, .int .i64 0, .int .u64 0, .bool false, .int .i64 0]) := Lib.hid (X1.out.upd ((Upd.refl _ _).drew.trans hu2) (fun hm => by have := HS.out.lt _ hm; omega))
  have U2 : Hid (Upd F.l W w2) := Lib.hid ((U1.out.mono (by simp)).trans ((Upd.refl _ _).drew.trans hu2))
  have HB2 := Lib.hid hb2
  clear hu2 hb2
  go_wp2_with fail
  have CT : Hid (∀ V, Upd [] w2.drew V → V.cell? ⟨p2, 0, none⟩ = some (.int .u64 r) ∧ V.cell? ⟨p3, 0, none⟩ = some (.int .i64 i) ∧ V.cell? ⟨p5, 0, none⟩ = some (.int .u64 x)) := Lib.hid (fun V hV => by
    have := K2.out V ((Upd.refl _ _).drew.trans hV)
    exact ⟨this.2.1, this.2.2.1, this.2.2.2.2.1⟩)
  refine wp_invNT 7 [(5, .det (.int .i64 0)), (6, .det (.agg #[.int .i64 3, .int .u64 r, .int .i64 i, .int .u64 x, .bool dn, .int .i64 0]))] [] (by kernel_rfl) (by simp) (by kernel_rfl) (by kernel_rfl) ⟨lasts_det _, lasts_det _, trivial⟩ ?_
  simp only [List.take_succ_cons, List.take_zero, List.drop_succ_cons, List.drop_zero]
  with_reducible apply wpV_light
  · simp only [lightOp]
  · intro W hU hF
    have f0 := CT.out W hU
    clear hU hF
    go_simp
    exact rfl
  simp only [Act.put, List.setIfInBounds_toArray, List.set_cons_zero, List.set_cons_succ]
  with_reducible apply wpV_light
  · simp only [lightOp]
  · intro W hU hF
    have f0 := CT.out W hU
    clear hU hF
    go_simp
    exact rfl
  simp only [Act.put, List.setIfInBounds_toArray, List.set_cons_zero, List.set_cons_succ]
  with_reducible apply wpV_light
  · simp only [lightOp]
  · intro W hU hF
    have f0 := CT.out W hU
    clear hU hF
    go_simp
    exact rfl
  simp only [Act.put, List.setIfInBounds_toArray, List.set_cons_zero, List.set_cons_succ]
  with_reducible apply wpV_light
  · simp only [lightOp]
  · intro W hU hF
    have f0 := CT.out W hU
    clear hU hF
    go_simp
    exact rfl
  simp only [Act.put, List.setIfInBounds_toArray, List.set_cons_zero, List.set_cons_succ]
  with_reducible apply wpV_light
  · simp only [lightOp]
  · intro W hU hF
    have f0 := CT.out W hU
    clear hU hF
    go_simp
    exact rfl
  simp only [Act.put, List.setIfInBounds_toArray, List.set_cons_zero, List.set_cons_succ]
  refine wpV_heavy (by simp only [lightOp]) (by rfl) (fun W hU hk hF K hK => ?_) ?_
  · go_wp2_with fail
    refine (number_ok _).mono ?_; rintro e w3 ⟨rfl, hu3⟩
    go_wp2_with fail
    refine hK.out _ _ (outV_new rfl rfl (by intro b hb; cases hb) hu3)
  rintro _ rfl
  simp only [Act.put, List.setIfInBounds_toArray, List.set_cons_zero, List.set_cons_succ]
  refine wpV_heavy (by simp only [lightOp]) (by rfl) (fun W hU hk hF K hK => ?_) ?_
  · go_wp2_with fail
    refine hK.out _ _ (outV_new rfl rfl (by intro b hb; cases hb) (.refl _ _))
  rintro _ rfl
  simp only [Act.put, List.setIfInBounds_toArray, List.set_cons_zero, List.set_cons_succ]
  refine wpV_end (fun V hU _ hF => ?_)
  have U3 : Hid (Upd [] w2 V) := Lib.hid ((Upd.refl _ _).drew.trans hU)
  clear hU hF
  have X3 : Hid (Blk V W.heap.size 94 #[.int .i64 0, .int .u64 0, .int .i64 0, .int .u64 0, .bool false, .int .i64 0]) := Lib.hid (X2.out.upd U3.out (by simp))
  have x3 := X3.out.facts
  refine wpT_op (by rfl) (fun K hK => ?_)
  go_wp2_with fail
  refine hK.out _ _ ?_
  clear hK K
  try simp only [Act.put, List.setIfInBounds_toArray, List.set_cons_zero, List.set_cons_succ]
  refine wpT_end ?_
  go_wp2_with fail
  have hdn : (B.ws[r + 1 + i]?.getD 0 == o) = dn := by rw [← List.getD_eq_getElem?_getD]; exact HD.out
  have HRf := ((((((X3.out.set_ 0 (.int .i64 3)).set_ 1 (.int .u64 r)).set_ 2 (.int .i64 i)).set_ 3 (.int .u64 x)).set_ 4 (.bool (dn))).set_ 5 (.int .i64 0))
  have UFf : Upd [W.heap.size] V ((((((V.setCell ⟨W.heap.size, 0, none⟩ (.int .i64 3)).setCell ⟨W.heap.size, 1, none⟩ (.int .u64 r)).setCell ⟨W.heap.size, 2, none⟩ (.int .i64 i)).setCell ⟨W.heap.size, 3, none⟩ (.int .u64 x)).setCell ⟨W.heap.size, 4, none⟩ (.bool (dn))).setCell ⟨W.heap.size, 5, none⟩ (.int .i64 0)) := ((((((Upd.refl _ _).setCell (by simp) _).setCell (by simp) _).setCell (by simp) _).setCell (by simp) _).setCell (by simp) _).setCell (by simp) _
  generalize (((((V.setCell ⟨W.heap.size, 0, none⟩ (.int .i64 3)).setCell ⟨W.heap.size, 1, none⟩ (.int .u64 r)).setCell ⟨W.heap.size, 2, none⟩ (.int .i64 i)).setCell ⟨W.heap.size, 3, none⟩ (.int .u64 x)).setCell ⟨W.heap.size, 4, none⟩ (.bool (dn))).setCell ⟨W.heap.size, 5, none⟩ (.int .i64 0) = W7 at HRf UFf ⊢
  have d0 : W7.cell? ⟨W.heap.size, 0, none⟩ = some (.int .i64 3) := HRf.cell 0
  have d1 : W7.cell? ⟨W.heap.size, 1, none⟩ = some (.int .u64 r) := HRf.cell 1
  have d2 : W7.cell? ⟨W.heap.size, 2, none⟩ = some (.int .i64 i) := HRf.cell 2
  have d3 : W7.cell? ⟨W.heap.size, 3, none⟩ = some (.int .u64 x) := HRf.cell 3
  have d4 : W7.cell? ⟨W.heap.size, 4, none⟩ = some (.bool (dn)) := HRf.cell 4
  have d5 : W7.cell? ⟨W.heap.size, 5, none⟩ = some (.int .i64 0) := HRf.cell 5
  have hlt := HS.out.lt
  refine bodyPost_ret (v := .agg (encE (ex B (.cas r i o x)).1).toArray) (by simp [results, Tryz.results66, go_sem, Act.put, encE, ex, hdn, d0, d1, d2, d3, d4, d5]) rfl ⟨F, rfl, ?_, ?_, fun x hx => .inl hx, rfl, rfl⟩
  · exact (HB2.out.upd U3.out (by simp)).upd UFf (fun y hy hm => by simp at hy; subst hy; have := hlt _ hm; omega)
  · exact (U2.out.trans' U3.out (by simp)).trans' UFf (fun y hy => .inr (by simp at hy; omega))
/-- Was it done? -/
def CasV (d : Bool) (v : Value) : Option En → Prop
  | some en => d = en.done ∧ v = .nilIface
  | none => d = false ∧ v = .iface 65 (.int .i64 11)
set_option maxRecDepth 20000 in
set_option maxHeartbeats 2000000 in
theorem ccas_ok {F : BFp} {cb : Nat} {lv : Value} {c : CS} (w : World) (h : CSt w F cb lv c) (r n i : Nat) (o x : Int) (hx : 0 ≤ x ∧ x < 18446744073709551616) (hm : (r, n) ∈ c.B.sz) (hi : i < n) :
    Calls Tryz.prog 53 #[.pointer (some ⟨cb, 0, none⟩), .int .u64 r, .int .i64 i, .int .u64 o, .int .u64 x] w fun e w' => ∃ lv' d v,
      e = .returned (.tuple #[.bool d, v]) ∧ CSt w' F cb lv' (access c (.cas r i o x)).2 ∧ CNx w w' F F cb lv lv' ∧ CasV d v (access c (.cas r i o x)).1 := by
  have HS := Lib.hid h
  have HX := Lib.hid hx
  have HM := Lib.hid hm
  clear h hm hx
  go_enter Tryz.func53, Tryz.ntmps53
  go_wp2_with fail
  obtain ⟨w1, hw1⟩ : ∃ w1, w1 = ((((w.alloc (Obj.cells #[.pointer (some ⟨cb, 0, none⟩)] 45)).alloc (Obj.cells #[.int .u64 r] 26)).alloc (Obj.cells #[.int .i64 i] 3)).alloc (Obj.cells #[.int .u64 o] 26)).alloc (Obj.cells #[.int .u64 x] 26) := ⟨_, rfl⟩
  have U1 : Hid (Upd [] w w1) := Lib.hid (by rw [hw1]; exact (((((Upd.refl _ _).alloc _).alloc _).alloc _).alloc _).alloc _)
  have P1 : Hid (Blk w1 w.heap.size 45 #[.pointer (some ⟨cb, 0, none⟩)]) := Lib.hid (by rw [hw1]; exact ((((Blk.new _ _ _).alloc _).alloc _).alloc _).alloc _)
  have P2 : Hid (Blk w1 (w.heap.size + 1) 26 #[.int .u64 r]) := Lib.hid (by rw [hw1]; exact (((Blk.newAt _ _ (by simp)).alloc _).alloc _).alloc _)
  have P3 : Hid (Blk w1 (w.heap.size + 1 + 1) 3 #[.int .i64 i]) := Lib.hid (by rw [hw1]; exact ((Blk.newAt _ _ (by simp)).alloc _).alloc _)
  have P4 : Hid (Blk w1 (w.heap.size + 1 + 1 + 1) 26 #[.int .u64 o]) := Lib.hid (by rw [hw1]; exact (Blk.newAt _ _ (by simp)).alloc _)
  have P5 : Hid (Blk w1 (w.heap.size + 1 + 1 + 1 + 1) 26 #[.int .u64 x]) := Lib.hid (by rw [hw1]; exact Blk.newAt _ _ (by simp))
  rw [← hw1]
  clear hw1
  refine (access_ok w1 (HS.out.upd0 U1.out) 66 _ (.cas r i o x) (· = F) HX.out (fun _ _ => rfl) (fun W hW => ?_)).mono ?_
  · have hlt := HS.out.st.lt
    exact cas1_ok W w.heap.size (w.heap.size + 1) (w.heap.size + 1 + 1) (w.heap.size + 1 + 1 + 1) (w.heap.size + 1 + 1 + 1 + 1) cb r i n o x _ _ _ ((HS.out.st.upd U1.out (by simp)).upd hW (by simp)) HX.out HM.out hi (P1.out.upd hW (by simp)) (P2.out.upd hW (by simp)) (P3.out.upd hW (by simp)) (P4.out.upd hW (by simp)) (P5.out.upd hW (by simp)) ((HS.out.hdr.upd U1.out (by simp)).upd hW (by simp))
      ⟨fun hm => by have := hlt _ hm; omega, fun hm => by have := hlt _ hm; omega, fun hm => by have := hlt _ hm; omega, fun hm => by have := hlt _ hm; omega, fun hm => by have := hlt _ hm; omega, HS.out.ncb⟩
  rintro e w2 ⟨F', lv', r', v, rfl, h1, h2, h3, h4⟩
  have hF : F' = F := h3.elim id id
  subst hF
  have H1 := Lib.hid h1
  have H2 := Lib.hid (h2.upd0 U1.out)
  have hcase : ∃ a1 a2 a3 a4 a5 a6, r' = #[.int .i64 a1, .int .u64 a2, .int .i64 a3, .int .u64 a4, .bool a5, .int .i64 a6] ∧ CasV a5 v (access c (.cas r i o x)).1 := by
    cases ha : (access c (.cas r i o x)).1 with
    | some en => rw [ha] at h4; exact ⟨_, _, _, _, _, _, h4.1, rfl, h4.2⟩
    | none => rw [ha] at h4; exact ⟨_, _, _, _, _, _, h4.1, rfl, h4.2⟩
  obtain ⟨a1, a2, a3, a4, a5, a6, rfl, hv⟩ := hcase
  have HV := Lib.hid hv
  clear h1 h2 h3 h4 hv
  go_wp2_with fail
  go_ret2
  refine ⟨lv', a5, v, rfl, H1.out.upd0 ?_, H2.out.upd ?_, HV.out⟩
  all_goals exact (Upd.refl _ _).alloc _
end Go.Proofs.YtkldpdldjalpeaaGreatDoor

namespace Go.Proofs.YtkldpdldjalpeaaGreatDoor
open Go.RowKit Th
attribute [local go_sem] litStep_value

set_option maxRecDepth 20000 in
set_option maxHeartbeats 4000000 in
theorem store1_ok {F : BFp} {B : BS} (W : World) (p1 p2 p3 p4 cb : Nat) (r i n : Nat) (x : Int) (l nx dd : Value) (h : BSt W F B) (hx : 0 ≤ x ∧ x < 18446744073709551616) (hm : (r, n) ∈ B.sz) (hi : i < n) (b1 : Blk W p1 26 #[.int .u64 r]) (b2 : Blk W p2 3 #[.int .i64 i]) (b3 : Blk W p3 26 #[.int .u64 x]) (b4 : Blk W p4 45 #[.pointer (some ⟨cb, 0, none⟩)]) (bc : Blk W cb 67 #[.pointer (some ⟨F.b0, 0, none⟩), l, nx, dd]) (hp : p1 ∉ F.l ∧ p2 ∉ F.l ∧ p3 ∉ F.l ∧ p4 ∉ F.l ∧ cb ∉ F.l) :
    Calls Tryz.prog 58 #[.pointer (some ⟨p1, 0, none⟩), .pointer (some ⟨p2, 0, none⟩), .pointer (some ⟨p3, 0, none⟩), .pointer (some ⟨p4, 0, none⟩)] W fun e w' => ∃ F', e = .returned (.agg (encE (ex B (.store r i x)).1).toArray) ∧ BSt w' F' (ex B (.store r i x)).2 ∧ Upd F.l W w' ∧ (∀ x ∈ F'.l, x ∈ F.l ∨ W.heap.size ≤ x) ∧ F'.b0 = F.b0 ∧ F' = F := by
  have HS := Lib.hid h
  have HM := Lib.hid hm
  have HP := Lib.hid hp
  have H1 := Lib.hid b1
  have H2 := Lib.hid b2
  have H3 := Lib.hid b3
  have H4 := Lib.hid b4
  have HC := Lib.hid bc
  clear h hm hp bc b1 b2 b3 b4
  go_enter Tryz.func58, Tryz.ntmps58
  go_wp2_with fail
  obtain ⟨w1, hw1⟩ : ∃ w1, w1 = W.alloc (Obj.cells #[.int .i64 0, .int .u64 0, .int .i64 0, .int .u64 0, .bool false, .int .i64 0] 94) := ⟨_, rfl⟩
  have U1 : Hid (Upd [] W w1) := Lib.hid (by rw [hw1]; exact (Upd.refl _ _).alloc _)
  have X1 : Hid (Blk w1 W.heap.size 94 #[.int .i64 0, .int .u64 0, .int .i64 0, .int .u64 0, .bool false, .int .i64 0]) := Lib.hid (by rw [hw1]; exact Blk.new _ _ _)
  rw [← hw1]
  clear hw1
  have HS1 : Hid (BSt w1 F B) := Lib.hid (HS.out.upd U1.out (by simp))
  have KP : Hid (∀ V, Upd F.l w1 V → V.cell? ⟨p1, 0, none⟩ = some (.int .u64 r) ∧ V.cell? ⟨p2, 0, none⟩ = some (.int .i64 i) ∧ V.cell? ⟨p3, 0, none⟩ = some (.int .u64 x) ∧ V.cell? ⟨p4, 0, none⟩ = some (.pointer (some ⟨cb, 0, none⟩)) ∧ V.cell? ⟨cb, 0, none⟩ = some (.pointer (some ⟨F.b0, 0, none⟩))) := Lib.hid (fun V hV => by
    have hu : Upd F.l W V := (U1.out.mono (by simp)).trans hV
    exact ⟨(H1.out.upd hu HP.out.1).cell 0, (H2.out.upd hu HP.out.2.1).cell 0, (H3.out.upd hu HP.out.2.2.1).cell 0, (H4.out.upd hu HP.out.2.2.2.1).cell 0, (HC.out.upd hu HP.out.2.2.2.2).cell 0⟩)
  have HX := Lib.hid hx
  clear hx
  have CT : Hid (∀ V, Upd F.l w1.drew V → V.cell? ⟨p1, 0, none⟩ = some (.int .u64 r) ∧ V.cell? ⟨p2, 0, none⟩ = some (.int .i64 i) ∧ V.cell? ⟨p3, 0, none⟩ = some (.int .u64 x) ∧ V.cell? ⟨p4, 0, none⟩ = some (.pointer (some ⟨cb, 0, none⟩)) ∧ V.cell? ⟨cb, 0, none⟩ = some (.pointer (some ⟨F.b0, 0, none⟩))) := Lib.hid (fun V hV => KP.out V ((Upd.refl _ _).drew.trans hV))
  have hl1 : ∀ b ∈ F.l, b < w1.heap.size := HS1.out.lt
  refine wp_invT 13 F.l (fun s V => (s = 0 → BSt V F B) ∧ (s = 1 → BSt V F (ex B (.store r i x)).2)) [(10, .det .nilIface), (11, .det (.int .i64 0)), (12, .det (.agg #[.int .i64 2, .int .u64 r, .int .i64 i, .int .u64 x, .bool false, .int .i64 0]))] [] [10] (by kernel_rfl) (by simp) (by kernel_rfl) (by kernel_rfl) hl1 ⟨lasts_det _, lasts_det _, lasts_det _, trivial⟩ (fun s V V' T hk hu hT => ⟨fun e => (hk.1 e).upd hu (fun y hy hm => by have := hT y hy; have := hl1 y hm; omega), fun e => (hk.2 e).upd hu (fun y hy hm => by have := hT y hy; have := hl1 y hm; omega)⟩) ⟨fun _ => HS1.out.upd (Upd.refl [] w1).drew (by simp), fun e => by cases e⟩ ?_
  simp only [List.take_succ_cons, List.take_zero, List.drop_succ_cons, List.drop_zero]
  clear hl1
  with_reducible apply wpV_light
  · simp only [lightOp]
  · intro W hU hF
    have f0 := CT.out W hU
    clear hU hF
    go_simp
    exact rfl
  simp only [Act.put, List.setIfInBounds_toArray, List.set_cons_zero, List.set_cons_succ]
  with_reducible apply wpV_light
  · simp only [lightOp]
  · intro W hU hF
    have f0 := CT.out W hU
    clear hU hF
    go_simp
    exact rfl
  simp only [Act.put, List.setIfInBounds_toArray, List.set_cons_zero, List.set_cons_succ]
  with_reducible apply wpV_light
  · simp only [lightOp]
  · intro W hU hF
    have f0 := CT.out W hU
    clear hU hF
    go_simp
    exact rfl
  simp only [Act.put, List.setIfInBounds_toArray, List.set_cons_zero, List.set_cons_succ]
  with_reducible apply wpV_light
  · simp only [lightOp]
  · intro W hU hF
    have f0 := CT.out W hU
    clear hU hF
    go_simp
    exact rfl
  simp only [Act.put, List.setIfInBounds_toArray, List.set_cons_zero, List.set_cons_succ]
  with_reducible apply wpV_light
  · simp only [lightOp]
  · intro W hU hF
    have f0 := CT.out W hU
    clear hU hF
    go_simp
    exact rfl
  simp only [Act.put, List.setIfInBounds_toArray, List.set_cons_zero, List.set_cons_succ]
  with_reducible apply wpV_light
  · simp only [lightOp]
  · intro W hU hF
    have f0 := CT.out W hU
    clear hU hF
    go_simp
    exact rfl
  simp only [Act.put, List.setIfInBounds_toArray, List.set_cons_zero, List.set_cons_succ]
  with_reducible apply wpV_light
  · simp only [lightOp]
  · intro W hU hF
    have f0 := CT.out W hU
    clear hU hF
    go_simp
    exact rfl
  simp only [Act.put, List.setIfInBounds_toArray, List.set_cons_zero, List.set_cons_succ]
  with_reducible apply wpV_light
  · simp only [lightOp]
  · intro W hU hF
    have f0 := CT.out W hU
    clear hU hF
    go_simp
    exact rfl
  simp only [Act.put, List.setIfInBounds_toArray, List.set_cons_zero, List.set_cons_succ]
  with_reducible apply wpV_light
  · simp only [lightOp]
  · intro W hU hF
    have f0 := CT.out W hU
    clear hU hF
    go_simp
    exact rfl
  simp only [Act.put, List.setIfInBounds_toArray, List.set_cons_zero, List.set_cons_succ]
  with_reducible apply wpV_light
  · simp only [lightOp]
  · intro W hU hF
    have f0 := CT.out W hU
    clear hU hF
    go_simp
    exact rfl
  simp only [Act.put, List.setIfInBounds_toArray, List.set_cons_zero, List.set_cons_succ]
  refine wpV_heavy (by simp only [lightOp]) (by rfl) (fun W hU hk hF K hK => ?_) ?_
  · go_wp2_with fail
    refine (bstore_ok _ ((hk rfl).1 rfl) r n i x HX.out HM.out hi).mono ?_; rintro e w3 ⟨rfl, hb3, hu3⟩
    go_wp2_with fail
    refine hK.out _ _ ⟨rfl, (by intro b hb; cases hb), ?_, fun _ => ⟨fun e => absurd e (by decide), fun _ => hb3⟩⟩
    exact hu3.mono (fun y hy => .inl (by simp at hy; rcases hy with rfl | rfl <;> simp [BFp.l, mkI]))
  rintro _ rfl
  simp only [Act.put, List.setIfInBounds_toArray, List.set_cons_zero, List.set_cons_succ]
  refine wpV_heavy (by simp only [lightOp]) (by rfl) (fun W hU hk hF K hK => ?_) ?_
  · go_wp2_with fail
    refine (number_ok _).mono ?_; rintro e w3 ⟨rfl, hu3⟩
    go_wp2_with fail
    refine hK.out _ _ (outV_new rfl rfl (by intro b hb; cases hb) hu3)
  rintro _ rfl
  simp only [Act.put, List.setIfInBounds_toArray, List.set_cons_zero, List.set_cons_succ]
  refine wpV_heavy (by simp only [lightOp]) (by rfl) (fun W hU hk hF K hK => ?_) ?_
  · go_wp2_with fail
    refine hK.out _ _ (outV_new rfl rfl (by intro b hb; cases hb) (.refl _ _))
  rintro _ rfl
  simp only [Act.put, List.setIfInBounds_toArray, List.set_cons_zero, List.set_cons_succ]
  refine wpV_end (fun V hU hk hF => ?_)
  have U2 : Hid (Upd F.l W V) := Lib.hid ((U1.out.mono (by simp)).trans ((Upd.refl _ _).drew.trans hU))
  have HB2 : Hid (BSt V F (ex B (.store r i x)).2) := Lib.hid (hk.2 rfl)
  have U3 : Hid (Upd [] V V) := Lib.hid (.refl _ _)
  have X3 : Hid (Blk V W.heap.size 94 #[.int .i64 0, .int .u64 0, .int .i64 0, .int .u64 0, .bool false, .int .i64 0]) := Lib.hid (X1.out.upd ((Upd.refl _ _).drew.trans hU) (fun hm => by have := HS.out.lt _ hm; omega))
  clear hU hF hk
  have x3 := X3.out.facts
  refine wpT_op (by rfl) (fun K hK => ?_)
  go_wp2_with fail
  refine hK.out _ _ ?_
  clear hK K
  try simp only [Act.put, List.setIfInBounds_toArray, List.set_cons_zero, List.set_cons_succ]
  refine wpT_end ?_
  go_wp2_with fail
  have HRf := ((((((X3.out.set_ 0 (.int .i64 2)).set_ 1 (.int .u64 r)).set_ 2 (.int .i64 i)).set_ 3 (.int .u64 x)).set_ 4 (.bool false)).set_ 5 (.int .i64 0))
  have UFf : Upd [W.heap.size] V ((((((V.setCell ⟨W.heap.size, 0, none⟩ (.int .i64 2)).setCell ⟨W.heap.size, 1, none⟩ (.int .u64 r)).setCell ⟨W.heap.size, 2, none⟩ (.int .i64 i)).setCell ⟨W.heap.size, 3, none⟩ (.int .u64 x)).setCell ⟨W.heap.size, 4, none⟩ (.bool false)).setCell ⟨W.heap.size, 5, none⟩ (.int .i64 0)) := ((((((Upd.refl _ _).setCell (by simp) _).setCell (by simp) _).setCell (by simp) _).setCell (by simp) _).setCell (by simp) _).setCell (by simp) _
  generalize (((((V.setCell ⟨W.heap.size, 0, none⟩ (.int .i64 2)).setCell ⟨W.heap.size, 1, none⟩ (.int .u64 r)).setCell ⟨W.heap.size, 2, none⟩ (.int .i64 i)).setCell ⟨W.heap.size, 3, none⟩ (.int .u64 x)).setCell ⟨W.heap.size, 4, none⟩ (.bool false)).setCell ⟨W.heap.size, 5, none⟩ (.int .i64 0) = W7 at HRf UFf ⊢
  have d0 : W7.cell? ⟨W.heap.size, 0, none⟩ = some (.int .i64 2) := HRf.cell 0
  have d1 : W7.cell? ⟨W.heap.size, 1, none⟩ = some (.int .u64 r) := HRf.cell 1
  have d2 : W7.cell? ⟨W.heap.size, 2, none⟩ = some (.int .i64 i) := HRf.cell 2
  have d3 : W7.cell? ⟨W.heap.size, 3, none⟩ = some (.int .u64 x) := HRf.cell 3
  have d4 : W7.cell? ⟨W.heap.size, 4, none⟩ = some (.bool false) := HRf.cell 4
  have d5 : W7.cell? ⟨W.heap.size, 5, none⟩ = some (.int .i64 0) := HRf.cell 5
  have hlt := HS.out.lt
  refine bodyPost_ret (v := .agg (encE (ex B (.store r i x)).1).toArray) (by simp [results, Tryz.results58, go_sem, Act.put, encE, ex, d0, d1, d2, d3, d4, d5]) rfl ⟨F, rfl, ?_, ?_, fun x hx => .inl hx, rfl, rfl⟩
  · exact (HB2.out.upd U3.out (by simp)).upd UFf (fun y hy hm => by simp at hy; subst hy; have := hlt _ hm; omega)
  · exact (U2.out.trans' U3.out (by simp)).trans' UFf (fun y hy => .inr (by simp at hy; omega))
/-- Done, or not. -/
def NoV (v : Value) : Option En → Prop
  | some _ => v = .nilIface
  | none => v = .iface 65 (.int .i64 11)
set_option maxRecDepth 20000 in
set_option maxHeartbeats 2000000 in
theorem cstore_ok {F : BFp} {cb : Nat} {lv : Value} {c : CS} (w : World) (h : CSt w F cb lv c) (r n i : Nat) (x : Int) (hx : 0 ≤ x ∧ x < 18446744073709551616) (hm : (r, n) ∈ c.B.sz) (hi : i < n) :
    Calls Tryz.prog 43 #[.pointer (some ⟨cb, 0, none⟩), .int .u64 r, .int .i64 i, .int .u64 x] w fun e w' => ∃ lv' v,
      e = .returned v ∧ CSt w' F cb lv' (access c (.store r i x)).2 ∧ CNx w w' F F cb lv lv' ∧ NoV v (access c (.store r i x)).1 := by
  have HS := Lib.hid h
  have HX := Lib.hid hx
  have HM := Lib.hid hm
  clear h hm hx
  go_enter Tryz.func43, Tryz.ntmps43
  go_wp2_with fail
  obtain ⟨w1, hw1⟩ : ∃ w1, w1 = (((w.alloc (Obj.cells #[.pointer (some ⟨cb, 0, none⟩)] 45)).alloc (Obj.cells #[.int .u64 r] 26)).alloc (Obj.cells #[.int .i64 i] 3)).alloc (Obj.cells #[.int .u64 x] 26) := ⟨_, rfl⟩
  have U1 : Hid (Upd [] w w1) := Lib.hid (by rw [hw1]; exact ((((Upd.refl _ _).alloc _).alloc _).alloc _).alloc _)
  have P1 : Hid (Blk w1 w.heap.size 45 #[.pointer (some ⟨cb, 0, none⟩)]) := Lib.hid (by rw [hw1]; exact (((Blk.new _ _ _).alloc _).alloc _).alloc _)
  have P2 : Hid (Blk w1 (w.heap.size + 1) 26 #[.int .u64 r]) := Lib.hid (by rw [hw1]; exact ((Blk.newAt _ _ (by simp)).alloc _).alloc _)
  have P3 : Hid (Blk w1 (w.heap.size + 1 + 1) 3 #[.int .i64 i]) := Lib.hid (by rw [hw1]; exact (Blk.newAt _ _ (by simp)).alloc _)
  have P4 : Hid (Blk w1 (w.heap.size + 1 + 1 + 1) 26 #[.int .u64 x]) := Lib.hid (by rw [hw1]; exact Blk.newAt _ _ (by simp))
  rw [← hw1]
  clear hw1
  refine (access_ok w1 (HS.out.upd0 U1.out) 58 _ (.store r i x) (· = F) HX.out (fun _ _ => rfl) (fun W hW => ?_)).mono ?_
  · have hlt := HS.out.st.lt
    exact store1_ok W (w.heap.size + 1) (w.heap.size + 1 + 1) (w.heap.size + 1 + 1 + 1) w.heap.size cb r i n x _ _ _ ((HS.out.st.upd U1.out (by simp)).upd hW (by simp)) HX.out HM.out hi (P2.out.upd hW (by simp)) (P3.out.upd hW (by simp)) (P4.out.upd hW (by simp)) (P1.out.upd hW (by simp)) ((HS.out.hdr.upd U1.out (by simp)).upd hW (by simp))
      ⟨fun hm => by have := hlt _ hm; omega, fun hm => by have := hlt _ hm; omega, fun hm => by have := hlt _ hm; omega, fun hm => by have := hlt _ hm; omega, HS.out.ncb⟩
  rintro e w2 ⟨F', lv', r', v, rfl, h1, h2, h3, h4⟩
  have hF : F' = F := h3.elim id id
  subst hF
  have H1 := Lib.hid h1
  have H2 := Lib.hid (h2.upd0 U1.out)
  have hcase : ∃ a1 a2 a3 a4 a5 a6, r' = #[.int .i64 a1, .int .u64 a2, .int .i64 a3, .int .u64 a4, .bool a5, .int .i64 a6] ∧ NoV v (access c (.store r i x)).1 := by
    cases ha : (access c (.store r i x)).1 with
    | some en => rw [ha] at h4; exact ⟨_, _, _, _, _, _, h4.1, h4.2⟩
    | none => rw [ha] at h4; exact ⟨_, _, _, _, _, _, h4.1, h4.2⟩
  obtain ⟨a1, a2, a3, a4, a5, a6, rfl, hv⟩ := hcase
  have HV := Lib.hid hv
  clear h1 h2 h3 h4 hv
  go_wp2_with fail
  go_ret
  refine ⟨lv', v, rfl, H1.out.upd0 ?_, H2.out.upd ?_, HV.out⟩
  all_goals exact (Upd.refl _ _).alloc _
end Go.Proofs.YtkldpdldjalpeaaGreatDoor

namespace Go.Proofs.YtkldpdldjalpeaaGreatDoor
open Go.RowKit

theorem Blk.new_at (w : World) (t : TypeId) (cs : Array Value) (g : Nat) (h : g = w.heap.size) : Blk (w.alloc (.cells cs t)) g t cs := h ▸ Blk.new w t cs

set_option maxHeartbeats 400000 in
theorem new_ok (n : Int) (w : World) (h1 : 1 ≤ n) (h2 : n ≤ 16384) :
    Calls Tryz.prog 61 #[.int .i64 n] w fun e w' => ∃ a b, e = .returned (.tuple #[.pointer (some ⟨a, 0, none⟩), .nilIface]) ∧ Arena w' a b (List.replicate n.toNat 0) 0 ∧ w.heap.size ≤ a ∧ w.heap.size ≤ b ∧ Upd [] w w' := by
  obtain ⟨i0, hi0, hz0, hz1, hz2⟩ := info_parts u64_info
  have hmk := fun W : World => run_make (P := Tryz.prog) W 27 26 i0 _ Tryz.underlying27 hi0 hz0 .i64 .i64 n n (by omega) (by omega) (by rw [hz2]; omega) (by omega)
  clear hi0 hz0 hz2
  go_enter Tryz.func61, Tryz.ntmps61
  go_wp2
  go_ret2
  refine ⟨_, w.heap.size, rfl, ⟨⟨n.toNat, 0, 0, 0, 0, false, ?_⟩, ?_⟩, by simp, by simp, ((Upd.refl _ _).alloc _).alloc _⟩
  · rw [List.length_replicate]
    exact Blk.new_at _ _ _ _ (by simp)
  · refine ⟨_, (Blk.new w _ _).alloc _, ?_⟩
    rw [toList_madeCells_one]
    simp

theorem len_ok (a b : Nat) (ws : List Int) (cnt : Int) (w : World) (h : Arena w a b ws cnt) (hl : 1 ≤ ws.length) : Calls Tryz.prog 73 #[.pointer (some ⟨a, 0, none⟩)] w fun e w' => e = .returned (.int .i64 ws.length) ∧ w = w' := by
  obtain ⟨c, f0⟩ := h.facts
  go_enter Tryz.func73, Tryz.ntmps73
  go_wp2_with fail
  refine (word_ok a b ws.length c 0 _ f0 (by omega) (by omega)).mono ?_; rintro e w' ⟨rfl, rfl⟩
  go_wp2_with fail
  refine (is_nil _ _).mono ?_; rintro e w' ⟨rfl, rfl⟩
  go_wp2_with fail
  go_ret
  exact ⟨rfl, rfl⟩
end Go.Proofs.YtkldpdldjalpeaaGreatDoor

namespace Go.Proofs.YtkldpdldjalpeaaGreatDoor
open Go.RowKit Th

theorem BSt.ds {w : World} {F : BFp} {B : BS} (h : BSt w F B) : (F.b0 ≠ F.a ∧ F.b0 ≠ F.r ∧ F.b0 ≠ F.m ∧ F.b0 ≠ F.f ∧ F.b0 ∉ F.xs) ∧ (F.a ≠ F.r ∧ F.a ≠ F.m ∧ F.a ≠ F.f ∧ F.a ∉ F.xs) ∧ (F.r ≠ F.m ∧ F.r ≠ F.f ∧ F.r ∉ F.xs) ∧ (F.m ≠ F.f ∧ F.m ∉ F.xs) ∧ F.f ∉ F.xs ∧ F.xs.Nodup := by
  have hd := h.nd
  simp only [BFp.l, List.nodup_cons, List.mem_cons, not_or] at hd
  exact hd
theorem len_x (a b : Nat) (ws : List Int) (w : World) (h : Ar w a b ws) (hl : 1 ≤ ws.length) : Calls Tryz.prog 73 #[.pointer (some ⟨a, 0, none⟩)] w fun e w' => e = .returned (.int .i64 ws.length) ∧ w = w' := by
  obtain ⟨c, h⟩ := h
  exact len_ok a b ws c w h hl
set_option maxRecDepth 20000 in
set_option maxHeartbeats 2000000 in
theorem take_ok {F : BFp} {B : BS} (w : World) (h : BSt w F B) (n : Nat) (h1 : 1 ≤ n) (h2 : n ≤ 64) (h3 : B.top + n + 1 ≤ B.ws.length) :
    Calls Tryz.prog 86 #[.pointer (some ⟨F.b0, 0, none⟩), .int .i64 n] w fun e w' => e = .returned (.tuple #[.int .i64 B.top, .nilIface]) ∧ ∃ g, w.heap.size ≤ g ∧ Blk w' g 151 #[.int .i64 n, .int .u64 0, .bool false] ∧
      Blk w' F.b0 129 #[.pointer (some ⟨F.a, 0, none⟩), .int .i64 ((B.top : Int) + (n + 1)), .map (some F.m), .map (some F.f)] ∧ IMap w' .i64 F.m (putI (findB B.sz F.xs) B.top (.pointer (some ⟨g, 0, none⟩))) (B.sz.length + 1) ∧ Upd [F.b0, F.m] w w' := by
  have htop := h.top
  have hn : findB B.sz F.xs B.top = none := findB_none (fun p hp e => by have := h.rng p hp; omega)
  have f := h.hdr.facts
  have HB := Lib.hid h.hdr
  have HA := Lib.hid h.ar
  have HD := Lib.hid h.ds
  have hlk := run_lookup_int' (P := Tryz.prog) (z := .slice none 0 0) Tryz.underlying127 Tryz.underlying3 (w := w) (by kernel_rfl) h.fr n
  simp only [Option.getD_none] at hlk
  have HM := Lib.hid h.mp
  have HL := Lib.hid (show 1 ≤ B.ws.length by omega)
  have hb1 : ¬ ((B.ws.length : Int) < (B.top : Int) + n + 1) := by omega
  have hb2 : decide ((B.ws.length : Int) < (B.top : Int) + n + 1) = false := by simpa using hb1
  have hr : (B.top : Int) ≤ 16384 ∧ (n : Int) ≤ 64 := by omega
  have HH := Lib.hid h
  have HN := Lib.hid hn
  clear h hn h1 h2 h3 htop hb1
  go_enter Tryz.func86, Tryz.ntmps86
  go_wp2_with fail
  go_quiet ((go_at_call 73; exact Calls.quiet_of_same ((len_x F.a F.r B.ws _ (HA.out.upd (S := []) (by repeat (first | exact Upd.refl _ _ | apply Upd.drewN | apply Upd.drew)) (by simp) (by simp)) HL.out).mono fun _ _ hh => ⟨hh.1, hh.2.symm⟩)))
  have W2 : Hid (∀ W, W = (((w.drewN nq).setCell ⟨F.b0, 1, none⟩ (.int .i64 ((B.top : Int) + (n + 1)))).alloc (Obj.cells #[.int .i64 n, .int .u64 0, .bool false] 151)) → Upd [F.b0] w W ∧ Blk W F.b0 129 #[.pointer (some ⟨F.a, 0, none⟩), .int .i64 ((B.top : Int) + (n + 1)), .map (some F.m), .map (some F.f)] ∧ Blk W w.heap.size 151 #[.int .i64 n, .int .u64 0, .bool false]) := Lib.hid (by
    rintro W rfl
    exact ⟨(((Upd.refl _ _).drewN _).setCell (by simp) _).alloc _, ((HB.out.drewN nq).set_ 1 _).alloc _, Blk.newAt _ _ (by simp)⟩)
  obtain ⟨W3, r3, m3, u3⟩ := run_mapUpdate_int (P := Tryz.prog) (mt := 126) Tryz.underlying126 Tryz.underlying3 (HM.out.upd (W2.out _ rfl).1 (by simp; exact fun e => HD.out.1.2.2.1 e.symm)) B.top (.pointer (some ⟨w.heap.size, 0, none⟩))
  rw [HN.out] at m3
  have M3 := Lib.hid m3
  have U3 := Lib.hid u3
  clear m3 u3
  go_wp2_with fail
  go_ret2
  obtain ⟨a1, a2, a3⟩ := W2.out _ rfl
  have hm1 : w.heap.size ≠ F.m := by have := HM.out.lt; omega
  refine ⟨rfl, w.heap.size, Nat.le_refl _, a3.upd U3.out (by simpa using hm1), a2.upd U3.out (by simpa using HD.out.1.2.2.1), M3.out, ?_⟩
  exact (a1.mono (by simp)).trans (U3.out.mono (by simp))
set_option maxRecDepth 20000 in
set_option maxHeartbeats 2000000 in
theorem head_ok {F : BFp} {ws : List Int} {f : Int → Option Value} {k at_ n g : Nat} {tp : Value} (w : World) (hb : Blk w F.b0 129 #[.pointer (some ⟨F.a, 0, none⟩), tp, .map (some F.m), .map (some F.f)]) (hm : IMap w .i64 F.m f k) (hf : f at_ = some (.pointer (some ⟨g, 0, none⟩)))
    (hg : Blk w g 151 #[.int .i64 n, .int .u64 0, .bool true]) (ha : Ar w F.a F.r ws) (hn : n ≤ 64) (hl : at_ < ws.length) :
    Calls Tryz.prog 87 #[.pointer (some ⟨F.b0, 0, none⟩), .int .i64 at_] w fun e w' => e = .returned .nilIface ∧ Ar w' F.a F.r (ws.set at_ (2 * n + 1)) ∧ Upd [F.a, F.r] w w' := by
  have f0 := hb.facts
  have fg := hg.facts
  have HA := Lib.hid ha
  have hlk := run_lookup_int' (P := Tryz.prog) (z := .pointer none) Tryz.underlying126 Tryz.underlying3 (w := w) (by kernel_rfl) hm at_
  rw [hf] at hlk
  simp only [Option.getD_some] at hlk
  obtain ⟨y, hy⟩ : ∃ y, ws[at_]? = some y := ⟨_, List.getElem?_eq_getElem hl⟩
  have HS := Lib.hid (fun x (w : World) h => store_x F.a F.r ws (at_ : Int) x y w h (by omega) (by rw [Int.toNat_natCast]; exact hy))
  have e1 : bits .or .u64 0 ((n : Int) * 2) = n * 2 := or_0 (by omega) (by omega)
  have e2 : bits .or .u64 ((n : Int) * 2) 1 = n * 2 + 1 := or_1 (by omega) (by omega) (by omega) (by omega) (by omega)
  have hr : (n : Int) ≤ 64 := by omega
  clear hb hm hf hg ha hn hl hy
  go_enter Tryz.func87, Tryz.ntmps87
  go_wp2_with fail
  go_quiet (fail)
  go_wp2_with fail
  refine (HS.out _ _ (HA.out.upd (S := []) ((Upd.refl _ _).drewN _) (by simp) (by simp))).mono ?_; rintro e w2 ⟨rfl, h1, h2⟩
  go_wp2_with fail
  go_ret
  rw [Int.toNat_natCast] at h1
  refine ⟨rfl, ?_, ((Upd.refl _ _).drewN _).trans h2⟩
  have e : (2 * (n : Int) + 1) = n * 2 + 1 := by omega
  rw [e]
  exact h1
theorem findB_app {r n g : Nat} (k : Int) : ∀ {l : List (Nat × Nat)} {xs : List Nat}, xs.length = l.length → (∀ (p : Nat × Nat), p ∈ l → p.1 ≠ r) → findB (l ++ [(r, n)]) (xs ++ [g]) k = putI (findB l xs) r (.pointer (some ⟨g, 0, none⟩)) k
  | [], [], _, _ => by
    simp only [List.nil_append, findB, putI]
  | [], x :: xs, h, _ => by simp at h
  | (a, b) :: l, [], h, _ => by simp at h
  | (a, b) :: l, x :: xs, h, hp => by
    have ih := findB_app (r := r) (n := n) (g := g) k (l := l) (xs := xs) (by simpa using h) (fun p hm => hp p (by simp [hm]))
    have h1 := hp (a, b) (by simp)
    simp only at h1
    simp only [List.cons_append, findB, ih, putI]
    by_cases e : k = (a : Int)
    · rw [if_pos e, if_pos e, if_neg (by omega)]
    · rw [if_neg e, if_neg e]
theorem zeroN_get {ws : List Int} {at_ : Nat} : ∀ n, at_ + n ≤ ws.length → ∀ x, x ∈ zeroN ws at_ n → x ∈ ws ∨ x = 0
  | 0, _, x, hx => .inl hx
  | n + 1, h, x, hx => by
    rcases List.mem_or_eq_of_mem_set hx with hx | rfl
    · exact zeroN_get n (by omega) x hx
    · exact .inr rfl
set_option maxRecDepth 20000 in
set_option maxHeartbeats 4000000 in
theorem balloc_ok {F : BFp} {B : BS} (w : World) (h : BSt w F B) (n : Nat) (h1 : 1 ≤ n) (h2 : n ≤ 64) (h3 : B.top + n + 1 ≤ B.ws.length) :
    Calls Tryz.prog 75 #[.pointer (some ⟨F.b0, 0, none⟩), .int .i64 n] w fun e w' => ∃ g, e = .returned (.tuple #[.int .u64 B.top, .nilIface]) ∧ w.heap.size ≤ g ∧ BSt w' { F with xs := F.xs ++ [g] } (ex B (.alloc n)).2 ∧ Upd F.l w w' := by
  have HH := Lib.hid h
  have HD := Lib.hid h.ds
  have htop := h.top
  have hN : (1 : Int) ≤ n ∧ (n : Int) ≤ 64 ∧ (B.top : Int) ≤ 16384 := by omega
  have HT := Lib.hid (take_ok w h n h1 h2 h3)
  have HE := Lib.hid (made_ok w h)
  have HN := Lib.hid (show 1 ≤ n ∧ n ≤ 64 ∧ B.top + n + 1 ≤ B.ws.length from ⟨h1, h2, h3⟩)
  have eor : bits .or .u64 0 (B.top : Int) = B.top := or_0 (by omega) (by omega)
  clear h h1 h2 h3 htop
  go_enter Tryz.func75, Tryz.ntmps75
  go_wp2_with fail
  refine HE.out.mono ?_; rintro e w' ⟨rfl, rfl⟩
  go_wp2_with fail
  refine HT.out.mono ?_; rintro e w1 ⟨rfl, g, hg0, hg, hb, hm, hu⟩
  have G0 := Lib.hid hg0
  have HG1 := Lib.hid hg
  have HB1 := Lib.hid hb
  have HM1 := Lib.hid hm
  have U1 := Lib.hid hu
  have hlk := run_lookup_int' (P := Tryz.prog) (z := .pointer none) Tryz.underlying126 Tryz.underlying3 (w := w1) (by kernel_rfl) hm B.top
  simp only [putI, if_true, Option.getD_some] at hlk
  have f0 := hb.facts
  have fg := hg.facts
  clear hg0 hg hb hm hu
  go_wp2_with fail
  have U2 : Hid (Upd [g] w1 (w1.setCell ⟨g, 2, none⟩ (.bool true))) := Lib.hid ((Upd.refl _ _).setCell (by simp) _)
  have HG2 : Hid (Blk (w1.setCell ⟨g, 2, none⟩ (.bool true)) g 151 #[.int .i64 n, .int .u64 0, .bool true]) := Lib.hid (HG1.out.set_ 2 _)
  generalize w1.setCell ⟨g, 2, none⟩ (.bool true) = w2 at U2 HG2 ⊢
  clear f0 fg hlk
  have hlt := HH.out.lt
  have hgF : Hid (∀ x ∈ F.l, x ≠ g) := Lib.hid (fun x hx e => by have := hlt x hx; have := G0.out; omega)
  clear hlt
  have HB2 := Lib.hid (HB1.out.upd U2.out (by simpa using hgF.out F.b0 (by simp [BFp.l])))
  have HM2 := Lib.hid (HM1.out.upd U2.out (by simpa using hgF.out F.m (by simp [BFp.l])))
  have HA2 : Hid (Ar w2 F.a F.r B.ws) := Lib.hid ((HH.out.ar.upd U1.out (by simp; exact ⟨fun e => HD.out.1.1 e.symm, HD.out.2.1.2.1⟩) (by simp; exact ⟨fun e => HD.out.1.2.1 e.symm, HD.out.2.2.1.1⟩)).upd U2.out (by simpa using hgF.out F.a (by simp [BFp.l])) (by simpa using hgF.out F.r (by simp [BFp.l])))
  refine (head_ok (n := n) w2 HB2.out HM2.out (f := putI (findB B.sz F.xs) B.top (.pointer (some ⟨g, 0, none⟩))) (by simp [putI]) HG2.out HA2.out HN.out.2.1 (by have := HN.out; omega)).mono ?_
  rintro e w3 ⟨rfl, ha3, hu3⟩
  have HA3 := Lib.hid ha3
  have U3 := Lib.hid hu3
  have hb3 : Blk w3 F.b0 129 #[.pointer (some ⟨F.a, 0, none⟩), .int .i64 ((B.top : Int) + (n + 1)), .map (some F.m), .map (some F.f)] := HB2.out.upd hu3 (by simp; exact ⟨HD.out.1.1, HD.out.1.2.1⟩)
  have HB3 := Lib.hid hb3
  clear ha3 hu3 hb3
  go_wp2_with fail
  go_loopw [50] (fun u wr => ∃ k : Nat, u = .int .i64 k ∧ k ≤ n ∧ Hid (Ar wr F.a F.r (zeroN (B.ws.set B.top (2 * n + 1)) (B.top + 1) k)) ∧ Hid (Upd [F.a, F.r] w3 wr)) (fun u _ => n - (intOf u).toNat)
  case atStart => exact ⟨0, rfl, by omega, HA3, Lib.hid (.refl _ _)⟩
  case round =>
    obtain ⟨k, rfl, hk, KA, KU⟩ := hrel
    have c0 : wr.cell? ⟨F.b0, 0, none⟩ = some (.pointer (some ⟨F.a, 0, none⟩)) := (HB3.out.upd KU.out (by simp; exact ⟨HD.out.1.1, HD.out.1.2.1⟩)).cell 0
    have c1 : wr.cell? ⟨g, 1, none⟩ = some (.int .u64 0) := ((HG2.out.upd U3.out (by simp; exact ⟨fun e => hgF.out F.a (by simp [BFp.l]) e.symm, fun e => hgF.out F.r (by simp [BFp.l]) e.symm⟩)).upd KU.out (by simp; exact ⟨fun e => hgF.out F.a (by simp [BFp.l]) e.symm, fun e => hgF.out F.r (by simp [BFp.l]) e.symm⟩)).cell 1
    by_cases hkn : k < n
    · have hki : (k : Int) < n := by omega
      have hki2 : (0 : Int) ≤ k := by omega
      obtain ⟨y, hy⟩ : ∃ y, (zeroN (B.ws.set B.top (2 * n + 1)) (B.top + 1) k)[B.top + 1 + k]? = some y := ⟨_, List.getElem?_eq_getElem (by rw [zeroN_len, List.length_set]; have := HN.out; omega)⟩
      have HST := Lib.hid (store_x F.a F.r _ ((B.top : Int) + 1 + k) 0 y wr KA.out (by omega) (by rw [show ((B.top : Int) + 1 + k).toNat = B.top + 1 + k by omega]; exact hy))
      clear hy hk
      go_wp2_with fail
      refine HST.out.mono ?_; rintro e w4 ⟨rfl, ha4, hu4⟩
      rw [show ((B.top : Int) + 1 + k).toNat = B.top + 1 + k by omega] at ha4
      have HA4 := Lib.hid ha4
      have U4 := Lib.hid hu4
      clear ha4 hu4
      go_wp2_with fail
      go_round
      case rel => exact ⟨k + 1, by simp, by omega, HA4, Lib.hid (KU.out.trans U4.out)⟩
      case measure => simp [intOf]; omega
    · have e : k = n := by omega
      subst e
      go_wp2_with fail
      go_ret2
      refine ⟨g, rfl, G0.out, ?_, ?_⟩
      · have hd := HD.out
        have hga : g ∉ [F.a, F.r] := by simp; exact ⟨fun e => hgF.out F.a (by simp [BFp.l]) e.symm, fun e => hgF.out F.r (by simp [BFp.l]) e.symm⟩
        have hgb : g ∉ [F.b0, F.m] := by simp; exact ⟨fun e => hgF.out F.b0 (by simp [BFp.l]) e.symm, fun e => hgF.out F.m (by simp [BFp.l]) e.symm⟩
        have hrng := HH.out.rng
        have htop := HH.out.top
        have hn := HN.out
        have hlen := HH.out.len
        have hk1 : ∀ p : Nat × Nat, p ∈ B.sz → p.1 ≠ B.top := fun p hp e => by have := hrng p hp; omega
        have old : ∀ x t cs, x ∈ F.l → x ≠ F.a → x ≠ F.r → x ≠ F.b0 → x ≠ F.m → Blk w x t cs → Blk wr x t cs := fun x t cs hx h1 h2 h3 h4 hb =>
          (((hb.upd U1.out (by simp [h3, h4])).upd U2.out (by simpa using hgF.out x hx)).upd U3.out (by simp [h1, h2])).upd KU.out (by simp [h1, h2])
        refine ⟨?_, KA.out, ?_, ?_, ?_, ?_, ?_, ?_, ?_, ?_, ?_⟩
        · have h := HB3.out.upd KU.out (by simp; exact ⟨hd.1.1, hd.1.2.1⟩)
          have e : ((B.top + k + 1 : Nat) : Int) = (B.top : Int) + (k + 1) := by omega
          show Blk wr F.b0 _ #[_, .int .i64 ((B.top + k + 1 : Nat) : Int), _, _]
          rw [e]
          exact h
        · have h := (HM2.out.upd U3.out (by simp; exact ⟨fun e => hd.2.1.2.1 e.symm, fun e => hd.2.2.1.1 e.symm⟩)).upd KU.out (by simp; exact ⟨fun e => hd.2.1.2.1 e.symm, fun e => hd.2.2.1.1 e.symm⟩)
          have h := h.congr (fun q => (findB_app (r := B.top) (n := k) (g := g) q hlen hk1).symm)
          show IMap wr _ F.m (findB (B.sz ++ [(B.top, k)]) (F.xs ++ [g])) (B.sz ++ [(B.top, k)]).length
          rw [List.length_append]
          exact h
        · exact (((HH.out.fr.upd U1.out (by simp; exact ⟨fun e => hd.1.2.2.2.1 e.symm, fun e => hd.2.2.2.1.1 e.symm⟩)).upd U2.out (by simpa using hgF.out F.f (by simp [BFp.l]))).upd U3.out (by simp; exact ⟨fun e => hd.2.1.2.2.1 e.symm, fun e => hd.2.2.1.2.1 e.symm⟩)).upd KU.out (by simp; exact ⟨fun e => hd.2.1.2.2.1 e.symm, fun e => hd.2.2.1.2.1 e.symm⟩)
        · show (F.xs ++ [g]).length = (B.sz ++ [(B.top, k)]).length
          simp [hlen]
        · intro j r m q hj hq
          replace hj : (B.sz ++ [(B.top, k)])[j]? = some (r, m) := hj
          replace hq : (F.xs ++ [g])[j]? = some q := hq
          by_cases hjl : j < B.sz.length
          · rw [List.getElem?_append_left hjl] at hj
            rw [List.getElem?_append_left (by omega)] at hq
            have hqm := List.mem_of_getElem? hq
            have hqF : q ∈ F.l := by simp [BFp.l, hqm]
            exact old q _ _ hqF (fun e => hd.2.1.2.2.2 (e ▸ hqm)) (fun e => hd.2.2.1.2.2 (e ▸ hqm)) (fun e => hd.1.2.2.2.2 (e ▸ hqm)) (fun e => hd.2.2.2.1.2 (e ▸ hqm)) (HH.out.blk j r m q hj hq)
          · have hje : j = B.sz.length := by
              have := (List.getElem?_eq_some_iff.1 hj).1
              simp at this
              omega
            subst hje
            simp at hj
            obtain ⟨rfl, rfl⟩ := hj
            rw [← hlen] at hq
            simp at hq
            subst hq
            exact (HG2.out.upd U3.out hga).upd KU.out hga
        · intro a b p q ha hb hpq
          replace ha : (B.sz ++ [(B.top, k)])[a]? = some p := ha
          replace hb : (B.sz ++ [(B.top, k)])[b]? = some q := hb
          have key : ∀ (j : Nat) (p : Nat × Nat), (B.sz ++ [(B.top, k)])[j]? = some p → (j < B.sz.length ∧ B.sz[j]? = some p) ∨ (j = B.sz.length ∧ p = (B.top, k)) := by
            intro j p hj
            by_cases hjl : j < B.sz.length
            · rw [List.getElem?_append_left hjl] at hj; exact .inl ⟨hjl, hj⟩
            · have := (List.getElem?_eq_some_iff.1 hj).1
              simp at this
              have e : j = B.sz.length := by omega
              subst e
              simp at hj
              exact .inr ⟨rfl, hj.symm⟩
          rcases key a p ha with ⟨h1, h2⟩ | ⟨h1, h2⟩ <;> rcases key b q hb with ⟨h3, h4⟩ | ⟨h3, h4⟩
          · exact HH.out.sz a b p q h2 h4 hpq
          · subst h4; exact absurd hpq (hk1 p (List.mem_of_getElem? h2))
          · subst h2; exact absurd hpq.symm (hk1 q (List.mem_of_getElem? h4))
          · omega
        · intro p hp
          replace hp : p ∈ B.sz ++ [(B.top, k)] := hp
          show _ ∧ _ ∧ _ ∧ _ ≤ B.top + k + 1
          rcases List.mem_append.1 hp with hp | hp
          · have := hrng p hp; omega
          · simp at hp; subst hp; simp only; omega
        · show 1 ≤ B.top + k + 1 ∧ B.top + k + 1 ≤ (zeroN (B.ws.set B.top (2 * k + 1)) (B.top + 1) k).length ∧ (zeroN (B.ws.set B.top (2 * k + 1)) (B.top + 1) k).length ≤ 16384
          rw [zeroN_len, List.length_set]
          omega
        · have h1 := HH.out.nd
          have h2 : ({ F with xs := F.xs ++ [g] } : BFp).l = F.l ++ [g] := by simp [BFp.l]
          rw [h2, List.nodup_append]
          exact ⟨h1, by simp, fun x hx y hy => by simp at hy; subst hy; exact hgF.out x hx⟩
        · intro x hx
          rcases zeroN_get k (by rw [List.length_set]; omega) x hx with hx | rfl
          · exact set_wd HH.out.wd (by omega) x hx
          · omega
      · refine (((U1.out.mono (T := F.l) (by simp [BFp.l])).trans' U2.out (by intro y hy; simp at hy; subst hy; exact .inr G0.out)).trans' U3.out (by intro y hy; simp at hy; rcases hy with rfl | rfl <;> simp [BFp.l])).trans' KU.out (by intro y hy; simp at hy; rcases hy with rfl | rfl <;> simp [BFp.l])
end Go.Proofs.YtkldpdldjalpeaaGreatDoor

namespace Go.Proofs.YtkldpdldjalpeaaGreatDoor
open Go.RowKit Th
attribute [local go_sem] litStep_value

set_option maxRecDepth 20000 in
set_option maxHeartbeats 2000000 in
theorem alloc1_ok {F : BFp} {B : BS} (W : World) (p1 p2 cb n : Nat) (l nx dd : Value) (h : BSt W F B) (hn : 1 ≤ n ∧ n ≤ 64 ∧ B.top + n + 1 ≤ B.ws.length) (b1 : Blk W p1 45 #[.pointer (some ⟨cb, 0, none⟩)]) (b2 : Blk W p2 3 #[.int .i64 n]) (bc : Blk W cb 67 #[.pointer (some ⟨F.b0, 0, none⟩), l, nx, dd]) (hp : p1 ∉ F.l ∧ p2 ∉ F.l ∧ cb ∉ F.l) :
    Calls Tryz.prog 74 #[.pointer (some ⟨p1, 0, none⟩), .pointer (some ⟨p2, 0, none⟩)] W fun e w' => ∃ F', e = .returned (.agg (encE (ex B (.alloc n)).1).toArray) ∧ BSt w' F' (ex B (.alloc n)).2 ∧ Upd F.l W w' ∧ (∀ x ∈ F'.l, x ∈ F.l ∨ W.heap.size ≤ x) ∧ F'.b0 = F.b0 ∧ ∃ g, F' = { F with xs := F.xs ++ [g] } := by
  have HS := Lib.hid h
  have HM := Lib.hid hn
  have HP := Lib.hid hp
  have H1 := Lib.hid b1
  have H2 := Lib.hid b2
  have HC := Lib.hid bc
  clear h hn hp b1 b2 bc
  go_enter Tryz.func74, Tryz.ntmps74
  go_wp2_with fail
  obtain ⟨w1, hw1⟩ : ∃ w1, w1 = W.alloc (Obj.cells #[.int .i64 0, .int .u64 0, .int .i64 0, .int .u64 0, .bool false, .int .i64 0] 94) := ⟨_, rfl⟩
  have U1 : Hid (Upd [] W w1) := Lib.hid (by rw [hw1]; exact (Upd.refl _ _).alloc _)
  have X1 : Hid (Blk w1 W.heap.size 94 #[.int .i64 0, .int .u64 0, .int .i64 0, .int .u64 0, .bool false, .int .i64 0]) := Lib.hid (by rw [hw1]; exact Blk.new _ _ _)
  rw [← hw1]
  clear hw1
  have HS1 : Hid (BSt w1 F B) := Lib.hid (HS.out.upd U1.out (by simp))
  have KP : Hid (∀ V, Upd F.l w1 V → V.cell? ⟨p1, 0, none⟩ = some (.pointer (some ⟨cb, 0, none⟩)) ∧ V.cell? ⟨p2, 0, none⟩ = some (.int .i64 n) ∧ V.cell? ⟨cb, 0, none⟩ = some (.pointer (some ⟨F.b0, 0, none⟩))) := Lib.hid (fun V hV => by
    have hu : Upd F.l W V := (U1.out.mono (by simp)).trans hV
    exact ⟨(H1.out.upd hu HP.out.1).cell 0, (H2.out.upd hu HP.out.2.1).cell 0, (HC.out.upd hu HP.out.2.2).cell 0⟩)
  go_region_held3 (fun V => V.cell? ⟨p1, 0, none⟩ = some (.pointer (some ⟨cb, 0, none⟩)) ∧ V.cell? ⟨p2, 0, none⟩ = some (.int .i64 n) ∧ V.cell? ⟨cb, 0, none⟩ = some (.pointer (some ⟨F.b0, 0, none⟩))) (first | exact KP.out _ ((Upd.refl _ _).drew.trans hu2) | exact KP.out _ (Upd.refl _ _).drew) (first
    | ((go_at_call 75); (refine (balloc_ok _ (HS1.out.upd (Upd.refl [] w1).drew (by simp)) n HM.out.1 HM.out.2.1 HM.out.2.2).mono ?_); (rintro e w2 ⟨g, rfl, hg2, hb2, hu2⟩)))
  have K2 : Hid (∀ V, Upd [] w2 V → V.cell? ⟨p1, 0, none⟩ = some (.pointer (some ⟨cb, 0, none⟩)) ∧ V.cell? ⟨p2, 0, none⟩ = some (.int .i64 n) ∧ V.cell? ⟨cb, 0, none⟩ = some (.pointer (some ⟨F.b0, 0, none⟩))) := Lib.hid (fun V hV => KP.out V (((Upd.refl _ _).drew.trans hu2).trans' hV (by simp)))
  have X2 : Hid (Blk w2 W.heap.size 94 #[.int .i64 0, .int .u64 0, .int .i64 0, .int .u64 0, .bool false, .int .i64 0]) := Lib.hid (X1.out.upd ((Upd.refl _ _).drew.trans hu2) (fun hm => by have := HS.out.lt _ hm; omega))
  have U2 : Hid (Upd F.l W w2) := Lib.hid ((U1.out.mono (by simp)).trans ((Upd.refl _ _).drew.trans hu2))
  have HB2 := Lib.hid hb2
  have G1 : Hid (W.heap.size + 1 ≤ g) := Lib.hid (Nat.le_trans X1.out.lt hg2)
  clear hu2 hb2 hg2
  go_wp2_with fail
  have CT : Hid (∀ V, Upd [] w2.drew V → V.cell? ⟨p2, 0, none⟩ = some (.int .i64 n)) := Lib.hid (fun V hV => by
    have := K2.out V ((Upd.refl _ _).drew.trans hV)
    exact this.2.1)
  refine wp_invNT 5 [(3, .det (.int .i64 0)), (4, .det (.agg #[.int .i64 4, .int .u64 B.top, .int .i64 n, .int .u64 0, .bool false, .int .i64 0]))] [] (by kernel_rfl) (by simp) (by kernel_rfl) (by kernel_rfl) ⟨lasts_det _, lasts_det _, trivial⟩ ?_
  simp only [List.take_succ_cons, List.take_zero, List.drop_succ_cons, List.drop_zero]
  with_reducible apply wpV_light
  · simp only [lightOp]
  · intro W hU hF
    have f0 := CT.out W hU
    clear hU hF
    go_simp
    exact rfl
  simp only [Act.put, List.setIfInBounds_toArray, List.set_cons_zero, List.set_cons_succ]
  with_reducible apply wpV_light
  · simp only [lightOp]
  · intro W hU hF
    have f0 := CT.out W hU
    clear hU hF
    go_simp
    exact rfl
  simp only [Act.put, List.setIfInBounds_toArray, List.set_cons_zero, List.set_cons_succ]
  with_reducible apply wpV_light
  · simp only [lightOp]
  · intro W hU hF
    have f0 := CT.out W hU
    clear hU hF
    go_simp
    exact rfl
  simp only [Act.put, List.setIfInBounds_toArray, List.set_cons_zero, List.set_cons_succ]
  refine wpV_heavy (by simp only [lightOp]) (by rfl) (fun W hU hk hF K hK => ?_) ?_
  · go_wp2_with fail
    refine (number_ok _).mono ?_; rintro e w3 ⟨rfl, hu3⟩
    go_wp2_with fail
    refine hK.out _ _ (outV_new rfl rfl (by intro b hb; cases hb) hu3)
  rintro _ rfl
  simp only [Act.put, List.setIfInBounds_toArray, List.set_cons_zero, List.set_cons_succ]
  refine wpV_heavy (by simp only [lightOp]) (by rfl) (fun W hU hk hF K hK => ?_) ?_
  · go_wp2_with fail
    refine hK.out _ _ (outV_new rfl rfl (by intro b hb; cases hb) (.refl _ _))
  rintro _ rfl
  simp only [Act.put, List.setIfInBounds_toArray, List.set_cons_zero, List.set_cons_succ]
  refine wpV_end (fun V hU _ hF => ?_)
  have U3 : Hid (Upd [] w2 V) := Lib.hid ((Upd.refl _ _).drew.trans hU)
  clear hU hF
  have X3 : Hid (Blk V W.heap.size 94 #[.int .i64 0, .int .u64 0, .int .i64 0, .int .u64 0, .bool false, .int .i64 0]) := Lib.hid (X2.out.upd U3.out (by simp))
  have x3 := X3.out.facts
  refine wpT_op (by rfl) (fun K hK => ?_)
  go_wp2_with fail
  refine hK.out _ _ ?_
  clear hK K
  try simp only [Act.put, List.setIfInBounds_toArray, List.set_cons_zero, List.set_cons_succ]
  refine wpT_end ?_
  go_wp2_with fail
  have HRf := (((((X3.out.set_ 0 (.int .i64 4)).set_ 1 (.int .u64 B.top)).set_ 2 (.int .i64 n)).set_ 3 (.int .u64 0)).set_ 4 (.bool false)).set_ 5 (.int .i64 0)
  have UFf : Upd [W.heap.size] V ((((((V.setCell ⟨W.heap.size, 0, none⟩ (.int .i64 4)).setCell ⟨W.heap.size, 1, none⟩ (.int .u64 B.top)).setCell ⟨W.heap.size, 2, none⟩ (.int .i64 n)).setCell ⟨W.heap.size, 3, none⟩ (.int .u64 0)).setCell ⟨W.heap.size, 4, none⟩ (.bool false)).setCell ⟨W.heap.size, 5, none⟩ (.int .i64 0)) := ((((((Upd.refl _ _).setCell (by simp) _).setCell (by simp) _).setCell (by simp) _).setCell (by simp) _).setCell (by simp) _).setCell (by simp) _
  generalize (((((V.setCell ⟨W.heap.size, 0, none⟩ (.int .i64 4)).setCell ⟨W.heap.size, 1, none⟩ (.int .u64 B.top)).setCell ⟨W.heap.size, 2, none⟩ (.int .i64 n)).setCell ⟨W.heap.size, 3, none⟩ (.int .u64 0)).setCell ⟨W.heap.size, 4, none⟩ (.bool false)).setCell ⟨W.heap.size, 5, none⟩ (.int .i64 0) = W7 at HRf UFf ⊢
  have d0 : W7.cell? ⟨W.heap.size, 0, none⟩ = some (.int .i64 4) := HRf.cell 0
  have d1 : W7.cell? ⟨W.heap.size, 1, none⟩ = some (.int .u64 B.top) := HRf.cell 1
  have d2 : W7.cell? ⟨W.heap.size, 2, none⟩ = some (.int .i64 n) := HRf.cell 2
  have d3 : W7.cell? ⟨W.heap.size, 3, none⟩ = some (.int .u64 0) := HRf.cell 3
  have d4 : W7.cell? ⟨W.heap.size, 4, none⟩ = some (.bool false) := HRf.cell 4
  have d5 : W7.cell? ⟨W.heap.size, 5, none⟩ = some (.int .i64 0) := HRf.cell 5
  have hlt := HS.out.lt
  have hg1 := G1.out
  refine bodyPost_ret (v := .agg (encE (ex B (.alloc n)).1).toArray) (by simp [results, Tryz.results74, go_sem, Act.put, encE, ex, d0, d1, d2, d3, d4, d5]) rfl ⟨{ F with xs := F.xs ++ [g] }, rfl, ?_, ?_, ?_, rfl, g, rfl⟩
  · exact (HB2.out.upd U3.out (by simp)).upd UFf (fun y hy hm => by
      simp at hy; subst hy
      have h2 : ({ F with xs := F.xs ++ [g] } : BFp).l = F.l ++ [g] := by simp [BFp.l]
      rw [h2] at hm
      rcases List.mem_append.1 hm with hm | hm
      · have := hlt _ hm; omega
      · simp at hm; omega)
  · exact (U2.out.trans' U3.out (by simp)).trans' UFf (fun y hy => .inr (by simp at hy; omega))
  · intro x hx
    have h2 : ({ F with xs := F.xs ++ [g] } : BFp).l = F.l ++ [g] := by simp [BFp.l]
    rw [h2] at hx
    rcases List.mem_append.1 hx with hx | hx
    · exact .inl hx
    · simp at hx; exact .inr (by omega)
/-- The ref that was given out. -/
def AlV (x : Int) (v : Value) : Option En → Prop
  | some en => x = en.ref ∧ v = .nilIface
  | none => x = 0 ∧ v = .iface 65 (.int .i64 11)
set_option maxRecDepth 20000 in
set_option maxHeartbeats 2000000 in
theorem calloc_ok {F : BFp} {cb : Nat} {lv : Value} {c : CS} (w : World) (h : CSt w F cb lv c) (n : Nat) (hn : 1 ≤ n ∧ n ≤ 64 ∧ c.B.top + n + 1 ≤ c.B.ws.length) :
    Calls Tryz.prog 63 #[.pointer (some ⟨cb, 0, none⟩), .int .i64 n] w fun e w' => ∃ F' lv' x v,
      e = .returned (.tuple #[.int .u64 x, v]) ∧ CSt w' F' cb lv' (access c (.alloc n)).2 ∧ CNx w w' F F' cb lv lv' ∧ AlV x v (access c (.alloc n)).1 ∧ F'.b0 = F.b0 := by
  have HS := Lib.hid h
  have HM := Lib.hid hn
  clear h hn
  go_enter Tryz.func63, Tryz.ntmps63
  go_wp2_with fail
  obtain ⟨w1, hw1⟩ : ∃ w1, w1 = (w.alloc (Obj.cells #[.pointer (some ⟨cb, 0, none⟩)] 45)).alloc (Obj.cells #[.int .i64 n] 3) := ⟨_, rfl⟩
  have U1 : Hid (Upd [] w w1) := Lib.hid (by rw [hw1]; exact ((Upd.refl _ _).alloc _).alloc _)
  have P1 : Hid (Blk w1 w.heap.size 45 #[.pointer (some ⟨cb, 0, none⟩)]) := Lib.hid (by rw [hw1]; exact (Blk.new _ _ _).alloc _)
  have P2 : Hid (Blk w1 (w.heap.size + 1) 3 #[.int .i64 n]) := Lib.hid (by rw [hw1]; exact Blk.newAt _ _ (by simp))
  rw [← hw1]
  clear hw1
  refine (access_ok w1 (HS.out.upd0 U1.out) 74 _ (.alloc n) (fun F' => ∃ g, F' = { F with xs := F.xs ++ [g] }) ⟨by simp [ex], by simp [ex]⟩ (fun _ _ => rfl) (fun W hW => ?_)).mono ?_
  · have hlt := HS.out.st.lt
    exact alloc1_ok W w.heap.size (w.heap.size + 1) cb n _ _ _ ((HS.out.st.upd U1.out (by simp)).upd hW (by simp)) HM.out (P1.out.upd hW (by simp)) (P2.out.upd hW (by simp)) ((HS.out.hdr.upd U1.out (by simp)).upd hW (by simp))
      ⟨fun hm => by have := hlt _ hm; omega, fun hm => by have := hlt _ hm; omega, HS.out.ncb⟩
  rintro e w2 ⟨F', lv', r', v, rfl, h1, h2, h3, h4⟩
  have HF0 : Hid (F'.b0 = F.b0) := Lib.hid (by rcases h3 with rfl | ⟨g, rfl⟩ <;> rfl)
  have H1 := Lib.hid h1
  have H2 := Lib.hid (h2.upd0 U1.out)
  have hcase : ∃ a1 a2 a3 a4 a5 a6, r' = #[.int .i64 a1, .int .u64 a2, .int .i64 a3, .int .u64 a4, .bool a5, .int .i64 a6] ∧ AlV a2 v (access c (.alloc n)).1 := by
    cases ha : (access c (.alloc n)).1 with
    | some en => rw [ha] at h4; exact ⟨_, _, _, _, _, _, h4.1, rfl, h4.2⟩
    | none => rw [ha] at h4; exact ⟨_, _, _, _, _, _, h4.1, rfl, h4.2⟩
  obtain ⟨a1, a2, a3, a4, a5, a6, rfl, hv⟩ := hcase
  have HV := Lib.hid hv
  clear h1 h2 h3 h4 hv
  go_wp2_with fail
  go_ret2
  refine ⟨F', lv', a2, v, rfl, H1.out.upd0 ?_, H2.out.upd ?_, HV.out, HF0.out⟩
  all_goals exact (Upd.refl _ _).alloc _
end Go.Proofs.YtkldpdldjalpeaaGreatDoor

namespace Go.Proofs.YtkldpdldjalpeaaGreatDoor.Th

/-- A cell's Meta. -/
structure Mt where
  ver : Int
  own : Int
  ch : Bool
  wt : Bool
deriving DecidableEq
def unp (w : Int) : Mt := ⟨w / 65536, w / 256 % 256, w % 2 == 1, w / 2 % 2 == 1⟩
def pk (m : Mt) : Int := m.ver * 65536 + m.own * 256 + (if m.wt then 2 else 0) + (if m.ch then 1 else 0)
/-- Can it be packed? -/
def Fit (m : Mt) : Prop := 0 ≤ m.ver ∧ m.ver < 281474976710656 ∧ 0 ≤ m.own ∧ m.own < 256
theorem unp_fit {w : Int} (h : 0 ≤ w ∧ w < 18446744073709551616) : Fit (unp w) := by
  unfold Fit unp
  simp only
  omega
theorem pk_range {m : Mt} (h : Fit m) : 0 ≤ pk m ∧ pk m < 18446744073709551616 := by
  unfold Fit at h
  unfold pk
  split <;> split <;> omega
theorem unp_pk {m : Mt} (h : Fit m) : unp (pk m) = m := by
  obtain ⟨v, o, c, t⟩ := m
  unfold Fit at h
  simp only at h
  unfold unp pk
  cases c <;> cases t <;> simp only [Bool.false_eq_true, if_true, if_false, Mt.mk.injEq, beq_iff_eq, beq_eq_false_iff_ne] <;> omega
/-- An answer. -/
structure An where
  err : Int
  val : Int
  n : Int
deriving DecidableEq
/-- A call. -/
structure Cl where
  kind : Int
  a : Int
  n : Int
  own : Int
  val : Int
def s64 (x : Int) : Int := (x + 9223372036854775808) % 18446744073709551616 - 9223372036854775808
def u64 (x : Int) : Int := x % 18446744073709551616
def nowT (ck : Nat) : Pg An := .acc (.load ck 0) fun e => .ret ⟨0, 0, s64 e.word⟩
def tickT (ck : Nat) : Nat → Pg An
  | 0 => .ret ⟨12, 0, 0⟩
  | n + 1 => .acc (.load ck 0) fun e => .acc (.cas ck 0 e.word (u64 (e.word + 1))) fun d => if d.done = true then .ret ⟨0, 0, s64 (u64 (e.word + 1))⟩ else tickT ck n
/-- 98: the last try, of which nobody may ever come (its second load, if it is not done yet, would be told as a conflict). -/
def readL (cl : Nat) : Nat → Int → Pg An
  | 0, _ => .ret ⟨98, 0, 0⟩
  | n + 1, w => if (unp w).ch = true then .ret ⟨12, 0, 0⟩ else .acc (.load cl 1) fun f => .acc (.load cl 0) fun g => if g.word = w then .ret ⟨0, f.word, (unp w).ver⟩ else readL cl n g.word
def readT (cl : Nat) : Pg An := .acc (.load cl 0) fun e => readL cl 7 e.word
def turnT (cl : Nat) (ver : Int) (tw : Mt → Mt) : Nat → Pg An
  | 0 => .ret ⟨12, 0, 0⟩
  | n + 1 => .acc (.load cl 0) fun e =>
    if (unp e.word).ch = true ∨ (unp e.word).ver ≠ ver then .ret ⟨12, 0, 0⟩
    else if tw (unp e.word) = unp e.word then .ret ⟨0, 0, 0⟩
    else .acc (.cas cl 0 (pk (unp e.word)) (pk (tw (unp e.word)))) fun d => if d.done = true then .ret ⟨0, 0, 0⟩ else turnT cl ver tw n
def lockTo (own : Int) (m : Mt) : Mt := ⟨m.ver, own, true, m.wt⟩
def waitTo (m : Mt) : Mt := ⟨m.ver, m.own, m.ch, true⟩
def commitT (cl : Nat) (val ver : Int) : Pg An := .acc (.load cl 0) fun e =>
  if (unp e.word).ch = false then .ret ⟨2, 0, 0⟩
  else .acc (.store cl 1 val) fun _ => .acc (.store cl 0 (pk ⟨ver, 0, false, false⟩)) fun _ => .ret ⟨0, 0, if (unp e.word).wt = true then 1 else 0⟩
def relT (cl : Nat) : Pg An := .acc (.load cl 0) fun e =>
  if (unp e.word).ch = false then .ret ⟨2, 0, 0⟩
  else .acc (.store cl 0 (pk ⟨(unp e.word).ver, 0, false, (unp e.word).wt⟩)) fun _ => .ret ⟨0, 0, 0⟩
/-- A call's answer. -/
def ansT (ck cl : Nat) (x : Cl) : Pg An :=
  if x.kind = 1 then nowT ck
  else if x.kind = 2 then tickT ck 8
  else if x.kind = 3 then readT cl
  else if x.kind = 5 then turnT cl x.n (lockTo x.own) 8
  else if x.kind = 6 then commitT cl x.val x.n
  else if x.kind = 7 then relT cl
  else if x.kind = 8 then turnT cl x.n waitTo 8
  else .ret ⟨0, 0, 0⟩
/-- May a call be done? -/
def OkC (x : Cl) : Prop := x.kind ≠ 4 ∧ (x.kind = 5 → 0 ≤ x.own ∧ x.own < 256) ∧ (x.kind = 6 → (0 ≤ x.n ∧ x.n < 281474976710656) ∧ 0 ≤ x.val ∧ x.val < 18446744073709551616)
/-- A list of calls of one cell. -/
def bodyT (ck cl : Nat) : List Cl → List An → Pg (List An)
  | [], l => .ret l
  | x :: r, l => if x.kind = 9 ∧ (∃ a, l.getLast? = some a ∧ a.err ≠ 0) then .ret l else (ansT ck cl x).bind fun a => if a.err = 98 then .ret (l ++ [a]) else bodyT ck cl r (l ++ [a])

/-- No try was the last one. -/
def Fine (l : List An) : Prop := ∀ a ∈ l, a.err ≠ 98
/-- How many accesses at most. -/
inductive Dep {α : Type} : Pg α → Nat → Prop where
  | ret (a : α) (n : Nat) : Dep (.ret a) n
  | acc (a : Ac) (k : En → Pg α) (n : Nat) (h : ∀ e, Dep (k e) n) : Dep (.acc a k) (n + 1)
theorem Dep.mono {α : Type} {p : Pg α} {n m : Nat} (h : Dep p n) (hm : n ≤ m) : Dep p m := by
  induction h generalizing m with
  | ret a n => exact .ret a m
  | acc a k n h ih =>
    obtain ⟨m, rfl⟩ : ∃ k, m = k + 1 := ⟨m - 1, by omega⟩
    exact .acc a k m fun e => ih e (by omega)
theorem Dep.bind {α β : Type} {p : Pg α} {f : α → Pg β} {n m : Nat} (h : Dep p n) (hf : ∀ a, Dep (f a) m) : Dep (p.bind f) (n + m) := by
  induction h with
  | ret a n => exact (hf a).mono (by omega)
  | acc a k n h ih =>
    rw [show n + 1 + m = (n + m) + 1 by omega]
    exact .acc a _ _ ih
theorem dep_tick (ck : Nat) : ∀ n, Dep (tickT ck n) (2 * n)
  | 0 => .ret _ _
  | n + 1 => .acc _ _ (2 * n + 1) fun e => .acc _ _ (2 * n) fun d => by
    by_cases h : d.done = true
    · simp only [h, if_true]; exact .ret _ _
    · simp only [h]; exact dep_tick ck n
theorem dep_readL (cl : Nat) : ∀ n w, Dep (readL cl n w) (2 * n)
  | 0, _ => .ret _ _
  | n + 1, w => by
    unfold readL
    split
    · exact .ret _ _
    · refine .acc _ _ (2 * n + 1) fun f => .acc _ _ (2 * n) fun g => ?_
      split
      · exact .ret _ _
      · exact dep_readL cl n _
theorem dep_turn (cl : Nat) (ver : Int) (tw : Mt → Mt) : ∀ n, Dep (turnT cl ver tw n) (2 * n)
  | 0 => .ret _ _
  | n + 1 => .acc _ _ (2 * n + 1) fun e => by
    split
    · exact .ret _ _
    · split
      · exact .ret _ _
      · refine .acc _ _ (2 * n) fun d => ?_
        split
        · exact .ret _ _
        · exact dep_turn cl ver tw n
theorem dep_ans (ck cl : Nat) (x : Cl) : Dep (ansT ck cl x) 17 := by
  unfold ansT
  split
  · exact .acc _ _ 16 fun _ => .ret _ _
  split
  · exact (dep_tick ck 8).mono (by omega)
  split
  · exact .acc _ _ 16 fun e => (dep_readL cl 7 _).mono (by omega)
  split
  · exact (dep_turn cl _ _ 8).mono (by omega)
  split
  · refine .acc _ _ 16 fun e => ?_
    split
    · exact .ret _ _
    · exact .acc _ _ 15 fun _ => .acc _ _ 14 fun _ => .ret _ _
  split
  · refine .acc _ _ 16 fun e => ?_
    split
    · exact .ret _ _
    · exact .acc _ _ 15 fun _ => .ret _ _
  split
  · exact (dep_turn cl _ _ 8).mono (by omega)
  · exact .ret _ _
theorem dep_body (ck cl : Nat) : ∀ r l, Dep (bodyT ck cl r l) (17 * r.length)
  | [], l => .ret _ _
  | x :: r, l => by
    unfold bodyT
    split
    · exact .ret _ _
    · rw [List.length_cons, show 17 * (r.length + 1) = 17 + 17 * r.length by omega]
      refine (dep_ans ck cl x).bind fun a => ?_
      split
      · exact .ret _ _
      · exact dep_body ck cl r _
end Go.Proofs.YtkldpdldjalpeaaGreatDoor.Th

/-
  QueueFull, the walk.
-/
import Derived.Test.YtainiojlhdbhgaaDoorQAlive
set_option linter.unusedVariables false
namespace Go.Proofs.YtainiojlhdbhgaaDoor
open Go.RowKit HeapPlain

/-- The first ones. -/
def upTo (wn b : Int) (n : Nat) : List Tm := (List.range n).map (fun k => ⟨wn, b + (k : Nat)⟩)
theorem upTo_len (wn b : Int) (n : Nat) : (upTo wn b n).length = n := by simp [upTo]
theorem upTo_succ (wn b : Int) (n : Nat) : upTo wn b (n + 1) = upTo wn b n ++ [⟨wn, b + (n : Nat)⟩] := by simp [upTo, List.range_succ]
theorem upTo_has (wn b : Int) (n : Nat) (id : Int) : hasT (upTo wn b n) id = decide (b ≤ id ∧ id < b + n) := by
  unfold hasT upTo
  rw [Bool.eq_iff_iff, List.any_eq_true, decide_eq_true_iff]
  constructor
  · rintro ⟨x, hx, h⟩
    obtain ⟨k, hk, rfl⟩ := List.mem_map.1 hx
    rw [List.mem_range] at hk
    simp at h
    omega
  · rintro ⟨h1, h2⟩
    refine ⟨⟨wn, id⟩, List.mem_map.2 ⟨(id - b).toNat, List.mem_range.2 (by omega), ?_⟩, by simp⟩
    congr 1
    omega
theorem pushE_free {ts : List Tm} {x : Tm} (h : hasT ts x.id = false) (hl : ts.length < 200) : pushE ts x = 0 := by
  unfold pushE; rw [h, if_neg (by simp), if_neg (by omega)]

/-- One is gone. -/
theorem full_cancel {ts us : List Tm} {wn b : Int} (h : ts.Perm (upTo wn b 200)) (hb : hasT ts b = true) (hp : (ts.getD (atT ts b) default :: us).Perm ts) : us.length = 199 ∧ hasT us (b - 1) = false ∧ ∀ x ∈ us, x.wn = wn ∧ b ≤ x.id := by
  have hm : ∀ x ∈ us, x ∈ upTo wn b 200 := fun x hx => h.mem_iff.1 (hp.mem_iff.1 (by simp [hx]))
  have hz : ∀ x ∈ us, x.wn = wn ∧ b ≤ x.id := fun x hx => by
    obtain ⟨k, hk, rfl⟩ := List.mem_map.1 (hm x hx)
    exact ⟨rfl, by show b ≤ b + (k : Int); omega⟩
  refine ⟨?_, ?_, hz⟩
  · have := hp.length_eq
    rw [List.length_cons, h.length_eq, upTo_len] at this
    omega
  · unfold hasT
    rw [List.any_eq_false]
    intro x hx
    have := (hz x hx).2
    simp
    omega
theorem full_first {us zs : List Tm} {wn b : Int} (hh : Hp ltT zs.length zs) (hp : zs.Perm (⟨wn, b - 1⟩ :: us)) (hu : ∀ x ∈ us, x.wn = wn ∧ b ≤ x.id) : (zs.getD 0 default).id = b - 1 := by
  have hn : ⟨wn, b - 1⟩ ∈ zs := hp.mem_iff.2 (by simp)
  obtain ⟨k, hk, he⟩ := List.getElem_of_mem hn
  have h0 := hh.least ltT_ord ltT_irr k hk
  rw [List.getD_eq_getElem?_getD, List.getElem?_eq_getElem hk, he] at h0
  have h1 : zs.getD 0 default ∈ zs := by
    rw [List.getD_eq_getElem?_getD, List.getElem?_eq_getElem (by omega)]
    exact List.getElem_mem _
  have h2 := hp.mem_iff.1 h1
  rcases List.mem_cons.1 h2 with h2 | h2
  · rw [h2]
  · obtain ⟨h3, h4⟩ := hu _ h2
    exfalso
    obtain ⟨z, hz⟩ : ∃ z, zs.getD 0 default = z := ⟨_, rfl⟩
    rw [hz] at h0 h3 h4
    change ltT ⟨wn, b - 1⟩ z = false at h0
    have h5 : ltT ⟨wn, b - 1⟩ z = true := by
      unfold ltT
      rw [h3]
      simp
      omega
    rw [h5] at h0
    cases h0

set_option maxRecDepth 100000 in
set_option maxHeartbeats 4000000 in
theorem law_qfull (id wn : Int) (w : World) (hg : Typed w) : Calls Tryd.prog 3 #[.int .i64 id, .int .i64 wn] w fun e w' => e = .returned (.bool true) ∧ Upd [] w w' := by
  have HG := Lib.hid hg
  clear hg
  go_enter Tryd.func3, Tryd.ntmps3
  go_wp2_with fail
  refine (q_new w w.heap.size (Nat.le_refl _)).mono ?_; rintro e w1 ⟨qb, p, mb, rfl, q1, u1, _, _, _⟩
  have Q1 := Lib.hid q1
  have U1 := Lib.hid u1
  clear q1 u1
  go_wp2_with fail
  have hb0 : -1000000 < id.tmod 1000000 ∧ id.tmod 1000000 < 1000000 := by
    have := Int.natAbs_tmod id 1000000
    have h2 : (id.tmod 1000000).natAbs < 1000000 := by rw [this]; exact Nat.mod_lt _ (by decide)
    omega
  obtain ⟨b1, b2⟩ := hb0
  generalize id.tmod 1000000 = b at *
  go_loopw [6] (fun v wr => ∃ k : Nat, v = .int .i64 k ∧ k ≤ 200 ∧ Hid (∃ ts, QSt w.heap.size qb p mb wr ts ∧ ts.Perm (upTo wn b k) ∧ Upd [] w wr)) (fun v _ => 200 - (intOf v).toNat)
  case atStart => exact ⟨0, rfl, by omega, Lib.hid ⟨[], Q1.out, .refl _, U1.out⟩⟩
  case round =>
    obtain ⟨k, rfl, hk, HK⟩ := hrel
    obtain ⟨ts, q, pm, u⟩ := HK.out
    have Q := Lib.hid q
    have PM := Lib.hid pm
    have U := Lib.hid u
    clear HK q pm u
    have TL : Hid (ts.length = k) := Lib.hid (by rw [PM.out.length_eq, upTo_len])
    by_cases hk2 : k < 200
    · have hk2' : decide ((k : Int) < 200) = true := by simp; omega
      go_wp2_with fail
      have NH : Hid (hasT ts (b + (k : Nat)) = false) := Lib.hid (by rw [hasT_perm PM.out, upTo_has, decide_eq_false (by omega)])
      have PE : Hid (pushE ts ⟨wn, b + (k : Nat)⟩ = 0) := Lib.hid (pushE_free NH.out (by rw [TL.out]; exact hk2))
      refine (q_push w.heap.size qb p mb ts ⟨wn, b + (k : Nat)⟩ wr Q.out (by rw [TL.out]; omega) U.out.size).mono ?_
      rintro e w2 ⟨va, us, rfl, ea, q2, p2, f2⟩
      rw [PE.out] at ea p2
      obtain rfl := ea.nils
      rw [if_pos rfl] at p2
      have U2 := Lib.hid (Q.out.rest (Nat.le_refl _) U.out f2)
      have Q2 := Lib.hid q2
      have P2 : Hid (us.Perm (upTo wn b (k + 1))) := Lib.hid (by
        rw [upTo_succ]
        exact (p2.trans (PM.out.cons _)).trans (List.perm_append_comm (l₁ := [_])))
      clear ea q2 p2 f2
      go_wp2_with fail
      refine (no_nil _).mono ?_; rintro e w' ⟨rfl, rfl⟩
      go_wp2_with fail
      go_roundw
      case rel => exact ⟨k + 1, by go_num, by omega, Lib.hid ⟨us, Q2.out, P2.out, U2.out⟩⟩
      case measure => simp [intOf]; omega
    · obtain rfl : k = 200 := by omega
      clear hk hk2
      have H1 : Hid (hasT ts (b - 1) = false) := Lib.hid (by rw [hasT_perm PM.out, upTo_has, decide_eq_false (by omega)])
      have H2 : Hid (hasT ts b = true) := Lib.hid (by rw [hasT_perm PM.out, upTo_has, decide_eq_true (by omega)])
      have E1 : Hid (pushE ts ⟨wn, b - 1⟩ = 8) := Lib.hid (by unfold pushE; rw [H1.out, TL.out]; rfl)
      have E2 : Hid (pushE ts ⟨wn, b⟩ = 7) := Lib.hid (by unfold pushE; rw [H2.out]; rfl)
      go_wp2_with fail
      refine (q_push w.heap.size qb p mb ts ⟨wn, b - 1⟩ wr Q.out (by rw [TL.out]; omega) U.out.size).mono ?_
      rintro e w2 ⟨ve, us, rfl, ee, q2, p2, f2⟩
      rw [E1.out] at ee p2
      rw [H1.out] at ee
      rw [if_neg (by omega)] at p2
      subst p2
      have U2 := Lib.hid (Q.out.rest (Nat.le_refl _) U.out f2)
      have Q2 := Lib.hid q2
      have EE := Lib.hid ee
      clear ee q2 f2
      go_wp2_with fail
      refine (q_push w.heap.size qb p mb us ⟨wn, b⟩ w2 Q2.out (by rw [TL.out]; omega) U2.out.size).mono ?_
      rintro e w3 ⟨vf, us3, rfl, ef, q3, p3, f3⟩
      rw [E2.out] at ef p3
      rw [if_neg (by omega)] at p3
      subst p3
      have EE3 := Lib.hid (EE.out.fr Q2.out f3)
      have U3 := Lib.hid (Q2.out.rest (Nat.le_refl _) U2.out f3)
      have Q3 := Lib.hid q3
      have EF := Lib.hid ef
      clear ef q3 f3
      go_wp2_with fail
      refine (q_cancel w.heap.size qb p mb us3 b w3 Q3.out).mono ?_
      rintro e w4 ⟨vg, us4, rfl, eg, q4, p4, f4⟩
      rw [H2.out, if_pos rfl] at eg p4
      obtain rfl := eg.nils
      have FR := Lib.hid (full_cancel PM.out H2.out p4)
      have EE4 := Lib.hid (EE3.out.fr Q3.out f4)
      have EF4 := Lib.hid (EF.out.fr Q3.out f4)
      have U4 := Lib.hid (Q3.out.rest (Nat.le_refl _) U3.out f4)
      have Q4 := Lib.hid q4
      clear eg q4 p4 f4
      go_wp2_with fail
      refine (q_push w.heap.size qb p mb us4 ⟨wn, b - 1⟩ w4 Q4.out (by rw [FR.out.1]; omega) U4.out.size).mono ?_
      rintro e w5 ⟨vh, us5, rfl, eh, q5, p5, f5⟩
      have E5 : pushE us4 ⟨wn, b - 1⟩ = 0 := pushE_free FR.out.2.1 (by rw [FR.out.1]; omega)
      rw [E5] at eh p5
      obtain rfl := eh.nils
      rw [if_pos rfl] at p5
      have EE5 := Lib.hid (EE4.out.fr Q4.out f5)
      have EF5 := Lib.hid (EF4.out.fr Q4.out f5)
      have U5 := Lib.hid (Q4.out.rest (Nat.le_refl _) U4.out f5)
      have Q5 := Lib.hid q5
      have L5 : Hid (us5.length = 200) := Lib.hid (by rw [p5.length_eq, List.length_cons, FR.out.1])
      have X5 : Hid ((us5.getD 0 default).id = b - 1) := Lib.hid (full_first q5.hp p5 FR.out.2.2)
      clear eh q5 p5 f5 E5
      go_wp2_with fail
      refine (q_next w.heap.size qb p mb us5 w5 Q5.out).mono ?_
      rintro e w6 ⟨rfl, q6, f6⟩
      rw [L5.out, if_neg (by omega), decide_eq_true (by omega)]
      obtain ⟨xx, hxx⟩ : ∃ x, us5.getD 0 default = x := ⟨_, rfl⟩
      have XX : Hid (xx.id = b - 1) := Lib.hid (by rw [← hxx, X5.out])
      rw [hxx]
      clear hxx
      unfold vT
      rw [XX.out]
      have EE6 := Lib.hid (EE5.out.fr Q5.out f6)
      have EF6 := Lib.hid (EF5.out.fr Q5.out f6)
      have U6 := Lib.hid (Q5.out.rest (Nat.le_refl _) U5.out f6)
      have Q6 := Lib.hid q6
      clear q6 f6
      go_wp2_with fail
      have A6 : Hid (Upd [] w6 (w6.alloc (.cells #[.int .i64 xx.wn, .int .i64 (b - 1)] 29))) := Lib.hid ((Upd.refl [] w6).alloc _)
      have Y6 : Hid (Blk (w6.alloc (.cells #[.int .i64 xx.wn, .int .i64 (b - 1)] 29)) w6.heap.size 29 #[.int .i64 xx.wn, .int .i64 (b - 1)]) := Lib.hid (Blk.new w6 _ _)
      generalize (w6.alloc (.cells #[.int .i64 xx.wn, .int .i64 (b - 1)] 29)) = w7 at *
      have EE7 := Lib.hid (EE6.out.upd A6.out)
      have EF7 := Lib.hid (EF6.out.upd A6.out)
      have U7 := Lib.hid (U6.out.trans A6.out)
      obtain ⟨q7, f7⟩ := Q6.out.upd0 A6.out
      have Q7 := Lib.hid q7
      have NY : Hid (¬ ownT p mb w7 w6.heap.size) := Lib.hid (fun ho => by
        have h2 := ((Q6.out.tim.keep (O := fun _ => False) (.of_upd A6.out (by simp)) (fun _ _ h => h)).2 _).1 ho
        have := (Q6.out.tim.own_lt h2).2
        omega)
      clear q7 f7
      refine (no_err EE7.out).mono ?_; rintro e w7' ⟨rfl, rfl⟩
      go_wp2_with fail
      refine (no_err EF7.out).mono ?_; rintro e w7' ⟨rfl, rfl⟩
      go_wp2_with fail
      refine (no_nil _).mono ?_; rintro e w7' ⟨rfl, rfl⟩
      go_wp2_with fail
      refine (no_nil _).mono ?_; rintro e w7' ⟨rfl, rfl⟩
      go_wp2_with fail
      refine (q_len w.heap.size qb p mb us5 w7 Q7.out).mono ?_
      rintro e w8 ⟨rfl, q8, f8⟩
      rw [L5.out]
      have U8 := Lib.hid (Q7.out.rest (Nat.le_refl _) U7.out f8)
      have Y8 : Hid (Blk w8 w6.heap.size 29 #[.int .i64 xx.wn, .int .i64 (b - 1)]) := Lib.hid (Y6.out.updP f8.1 NY.out)
      clear q8 f8
      have y1 : w8.cell? ⟨w6.heap.size, 1, none⟩ = some (.int .i64 (b - 1)) := Y8.out.cell 1
      go_wp2_with fail
      refine (alive_ok _ (HG.out.upd U8.out (by simp))).mono ?_; rintro e w9 ⟨rfl, u9⟩
      go_wp2_with fail
      go_ret
      exact ⟨rfl, U8.out.trans u9⟩
end Go.Proofs.YtainiojlhdbhgaaDoor

/-
  concordlaw04.alive; queue.Queue.All of none.
-/
import Derived.Test.YtainiojlhdbhgaaDoorQueue3
import Derived.Test.YtainiojlhdbhgaaDoorSame
import Derived.Test.YtainiojlhdbhgaaDoorPost
set_option linter.unusedVariables false
namespace Go.Proofs.YtainiojlhdbhgaaDoor
open Go.RowKit HeapPlain
attribute [local go_sem] litStep_value

theorem q_all_nil (w : World) : Calls Tryd.prog 18 #[.pointer none] w fun e w' => e = .returned (.slice none 0 0) ∧ w = w' := by
  go_enter Tryd.func18, Tryd.ntmps18
  go_wp2_with fail
  refine (q_made_nil w).mono ?_
  rintro e w1 ⟨rfl, rfl⟩
  go_wp2_with fail
  go_ret
  exact ⟨rfl, rfl⟩

/-- A queue made here: what its turns leave of the rest. -/
theorem QSt.rest {B qb p mb : Nat} {w0 w w' : World} {ts : List Tm} (h : QSt B qb p mb w ts) (hB : w0.heap.size ≤ B) (hu : Upd [] w0 w) (hf : FrT p mb w w') : Upd [] w0 w' :=
  hf.1.to_upd hu (fun x hx => Nat.le_trans hB (h.tim.own_lt hx).1)
theorem QSt.off {B qb p mb g : Nat} {w : World} {ts : List Tm} {t : TypeId} {cs : Array Value} (h : QSt B qb p mb w ts) (hb : Blk w g t cs) (h1 : t ≠ 58) (h2 : t ≠ 29) : ¬ ownT p mb w g := by
  obtain ⟨v, hp, ho⟩ := h.tim.obj
  rintro (rfl | rfl | ⟨v', e1, e2⟩)
  · exact (Blk.ne_ hb hp h1) rfl
  · exact (blk_map hb h.tim.mp) rfl
  · rw [hp.cell] at e1
    have hv : v = v' := Option.some.inj e1
    subst hv
    exact (own_type ho hb h2) e2
/-- No error. -/
theorem ErrV.nils {w : World} {v : Value} {a : Int} (h : ErrV w v 0 a) : v = .nilIface := by
  rcases h with h | h | ⟨g, _, _, h, _⟩
  · exact h.1
  · obtain ⟨_, ⟨h, _⟩, _⟩ := h; omega
  · omega
/-- An error at a place. -/
theorem ErrV.at_ {w : World} {v : Value} {n a : Int} (h : ErrV w v n a) (hn : n ≠ 0) (ha : a ≠ 0) : ∃ g, v = .iface 64 (.pointer (some ⟨g, 0, none⟩)) ∧ Blk w g 66 #[.int .i64 a, .int .i64 n] := by
  rcases h with h | h | ⟨g, h1, h2, h, _⟩
  · exact absurd h.2.1 hn
  · exact absurd h.2.2 ha
  · exact ⟨g, h1, h2⟩
theorem ErrV.fr {B qb p mb : Nat} {w w' : World} {ts : List Tm} {v : Value} {n a : Int} (h : ErrV w v n a) (q : QSt B qb p mb w ts) (hf : FrT p mb w w') : ErrV w' v n a := by
  rcases h with h | h | ⟨g, h1, h2, h3, h4⟩
  · exact .inl h
  · exact .inr (.inl h)
  · exact .inr (.inr ⟨g, h1, h2.updP hf.1 (q.off h2 (by decide) (by decide)), h3, h4⟩)

theorem own_lit {w : World} {g B n s : Nat} {e : TypeId} {cs : Array Value} {xs : List Value} (h : Blk w g e cs) (hc : cs.toList = xs) (hs : cs.size = n * s) (hn : n ≤ 1000000) (hB : B ≤ g) : w.ownsRow B e s (.slice (some ⟨g, 0, none⟩) n n) n xs := by
  subst hc
  exact ⟨by simpa using hs, .inr ⟨g, n, cs, rfl, hB, h, Nat.le_refl _, by simp only [maxLen]; omega, hs, List.take_of_length_le (by rw [Array.length_toList, hs]; exact Nat.le_refl _)⟩⟩
theorem ex_due {out us : List Tm} (h : (out ++ us).Perm [⟨3, 2⟩, ⟨5, 1⟩]) (hl : ∀ a ∈ out, a.wn ≤ 4) (hu : ∀ b ∈ us, 4 < b.wn) : out = [⟨3, 2⟩] ∧ us = [⟨5, 1⟩] := by
  have h1 := h.filter (fun t => decide (t.wn ≤ 4))
  have h2 := h.filter (fun t => decide (4 < t.wn))
  rw [List.filter_append] at h1 h2
  have e1 : out.filter (fun t => decide (t.wn ≤ 4)) = out := List.filter_eq_self.2 (fun a ha => by simpa using hl a ha)
  have e2 : us.filter (fun t => decide (t.wn ≤ 4)) = [] := List.filter_eq_nil_iff.2 (fun a ha => by have := hu a ha; simp; omega)
  have e3 : out.filter (fun t => decide (4 < t.wn)) = [] := List.filter_eq_nil_iff.2 (fun a ha => by have := hl a ha; simp; omega)
  have e4 : us.filter (fun t => decide (4 < t.wn)) = us := List.filter_eq_self.2 (fun a ha => by simpa using hu a ha)
  rw [e1, e2] at h1
  rw [e3, e4] at h2
  simp at h1 h2
  exact ⟨h1, h2⟩
theorem hasT_perm {a b : List Tm} (h : a.Perm b) (id : Int) : hasT a id = hasT b id := by
  unfold hasT
  rw [Bool.eq_iff_iff, List.any_eq_true, List.any_eq_true]
  exact ⟨fun ⟨x, h1, h2⟩ => ⟨x, h.mem_iff.1 h1, h2⟩, fun ⟨x, h1, h2⟩ => ⟨x, h.mem_iff.2 h1, h2⟩⟩
theorem pushE_perm {a b : List Tm} (h : a.Perm b) (x : Tm) : pushE a x = pushE b x := by
  unfold pushE; rw [hasT_perm h, h.length_eq]

set_option maxRecDepth 100000 in
set_option maxHeartbeats 2000000 in
theorem alive_ok (w : World) (hg : Typed w) : Calls Tryd.prog 15 #[] w fun e w' => e = .returned (.bool true) ∧ Upd [] w w' := by
  have HG := Lib.hid hg
  clear hg
  go_enter Tryd.func15, Tryd.ntmps15
  go_wp2_with fail
  refine (q_new w w.heap.size (Nat.le_refl _)).mono ?_; rintro e w1 ⟨qb, p, mb, rfl, q1, u1, _, _, _⟩
  have Q1 := Lib.hid q1
  have U1 := Lib.hid u1
  clear q1 u1
  go_wp2_with fail
  refine (q_push w.heap.size qb p mb [] ⟨5, 1⟩ w1 Q1.out (by simp) U1.out.size).mono ?_
  rintro e w2 ⟨va, us2, rfl, ea, q2, p2, f2⟩
  rw [show pushE [] ⟨5, 1⟩ = 0 by decide] at ea p2
  obtain rfl := ea.nils
  rw [if_pos rfl, List.perm_singleton] at p2
  subst p2
  have U2 := Lib.hid (Q1.out.rest (Nat.le_refl _) U1.out f2)
  have Q2 := Lib.hid q2
  clear ea q2 f2
  go_wp2_with fail
  refine (q_push w.heap.size qb p mb [⟨5, 1⟩] ⟨3, 2⟩ w2 Q2.out (by simp) U2.out.size).mono ?_
  rintro e w3 ⟨vb, us3, rfl, eb, q3, p3, f3⟩
  rw [show pushE [⟨5, 1⟩] ⟨3, 2⟩ = 0 by decide] at eb p3
  obtain rfl := eb.nils
  rw [if_pos rfl] at p3
  have U3 := Lib.hid (Q2.out.rest (Nat.le_refl _) U2.out f3)
  have Q3 := Lib.hid q3
  have P3 := Lib.hid p3
  have L3 : Hid (us3.length ≤ 200) := Lib.hid (by rw [p3.length_eq]; simp)
  clear eb q3 f3 p3
  go_wp2_with fail
  refine (q_push w.heap.size qb p mb us3 ⟨3, 1⟩ w3 Q3.out L3.out U3.out.size).mono ?_
  rintro e w4 ⟨vc, us4, rfl, ec, q4, p4, f4⟩
  rw [pushE_perm P3.out, show pushE [⟨3, 2⟩, ⟨5, 1⟩] ⟨3, 1⟩ = 7 by decide, hasT_perm P3.out, show hasT [⟨3, 2⟩, ⟨5, 1⟩] 1 = true by decide, if_pos rfl] at ec
  rw [pushE_perm P3.out, show pushE [⟨3, 2⟩, ⟨5, 1⟩] ⟨3, 1⟩ = 7 by decide, if_neg (by omega)] at p4
  subst p4
  have U4 := Lib.hid (Q3.out.rest (Nat.le_refl _) U3.out f4)
  have Q4 := Lib.hid q4
  have EC := Lib.hid ec
  clear ec q4 f4
  go_wp2_with fail
  refine (q_due w.heap.size qb p mb us4 4 w4 Q4.out).mono ?_
  rintro e w5 ⟨vl, out, us5, rfl, d5, l5⟩
  obtain ⟨rfl, rfl⟩ := ex_due (d5.perm.trans P3.out) d5.low l5
  have EC5 := Lib.hid (EC.out.fr Q4.out d5.fr)
  have U5 := Lib.hid (Q4.out.rest (Nat.le_refl _) U4.out d5.fr)
  have Q5 := Lib.hid d5.q
  have O5 := Lib.hid d5.own
  have OF5 := Lib.hid d5.off
  clear d5 l5
  go_wp2_with fail
  refine (q_next w.heap.size qb p mb [⟨5, 1⟩] w5 Q5.out).mono ?_
  rintro e w6 ⟨rfl, q6, f6⟩
  have EC6 := Lib.hid (EC5.out.fr Q5.out f6)
  have U6 := Lib.hid (Q5.out.rest (Nat.le_refl _) U5.out f6)
  have O6 := Lib.hid (own_updP O5.out f6.1 OF5.out)
  clear q6 f6
  unfold vT
  simp only [List.length_cons, List.length_nil, Nat.zero_add, List.getD_cons_zero, Nat.reduceEqDiff, if_false, ne_eq, not_false_eq_true, decide_true]
  go_wp2_with fail
  have A6 : Hid (Upd [] w6 (w6.alloc (.cells #[.int .i64 5, .int .i64 1] 29))) := Lib.hid ((Upd.refl [] w6).alloc _)
  have Y6 : Hid (Blk (w6.alloc (.cells #[.int .i64 5, .int .i64 1] 29)) w6.heap.size 29 #[.int .i64 5, .int .i64 1]) := Lib.hid (Blk.new w6 _ _)
  generalize (w6.alloc (.cells #[.int .i64 5, .int .i64 1] 29)) = w7 at *
  have EC7 := Lib.hid (EC6.out.upd A6.out)
  have U7 := Lib.hid (U6.out.trans A6.out)
  have O7 := Lib.hid (own_upd0 O6.out A6.out)
  refine (no_nil _).mono ?_; rintro e w7' ⟨rfl, rfl⟩
  go_wp2_with fail
  refine (no_nil _).mono ?_; rintro e w7' ⟨rfl, rfl⟩
  go_wp2_with fail
  refine (no_err EC7.out).mono ?_; rintro e w7' ⟨rfl, rfl⟩
  go_wp2_with fail
  refine (place_err EC7.out (HG.out.upd U7.out (by simp))).mono ?_; rintro e w8 ⟨rfl, u8⟩
  have U8 := Lib.hid (U7.out.trans u8)
  have O8 := Lib.hid (own_upd0 O7.out u8)
  have Y8 := Lib.hid (Y6.out.upd u8 (by simp))
  clear u8
  go_wp2_with fail
  have A8 : Hid (Upd [] w8 (w8.alloc (.cells #[.int .i64 3, .int .i64 2] 29))) := Lib.hid ((Upd.refl [] w8).alloc _)
  have Z8 : Hid (Blk (w8.alloc (.cells #[.int .i64 3, .int .i64 2] 29)) w8.heap.size 29 #[.int .i64 3, .int .i64 2]) := Lib.hid (Blk.new w8 _ _)
  generalize (w8.alloc (.cells #[.int .i64 3, .int .i64 2] 29)) = w9 at *
  refine (same_ok w4.heap.size 0 [⟨3, 2⟩] [⟨3, 2⟩] vl (.slice (some ⟨w8.heap.size, 0, none⟩) 1 1) w9 (own_upd0 O8.out A8.out) (own_lit Z8.out rfl rfl (by simp) (by omega)) (by simp) (by simp)).mono ?_
  rintro e w10 ⟨rfl, u10⟩
  rw [decide_eq_true rfl]
  have U10 := Lib.hid (U8.out.trans (A8.out.trans u10))
  have Y10 := Lib.hid (Y8.out.upd (A8.out.trans u10) (by simp))
  clear u10
  have y0 : w10.cell? ⟨w6.heap.size, 0, none⟩ = some (.int .i64 5) := Y10.out.cell 0
  have y1 : w10.cell? ⟨w6.heap.size, 1, none⟩ = some (.int .i64 1) := Y10.out.cell 1
  go_wp2_with fail
  go_ret
  exact ⟨rfl, U10.out⟩
end Go.Proofs.YtainiojlhdbhgaaDoor

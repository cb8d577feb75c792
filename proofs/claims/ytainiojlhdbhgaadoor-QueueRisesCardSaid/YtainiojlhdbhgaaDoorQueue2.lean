/-
  queue.Queue: find, Next.
-/
import Derived.Test.YtainiojlhdbhgaaDoorQueue
import Derived.Test.YtainiojlhdbhgaaDoorHeapBTimers
import Derived.Test.YtainiojlhdbhgaaDoorHeapCTimers
set_option linter.unusedVariables false
namespace Go.Proofs.YtainiojlhdbhgaaDoor
open Go.RowKit HeapPlain
attribute [local go_sem] litStep_value

/-- Where an ID stands; 0: nowhere. -/
def atT (ts : List Tm) (id : Int) : Nat := (ts.findIdx? (fun t => t.id == id)).getD 0
theorem posT_getD (ts : List Tm) (id : Int) : (posT ts id).getD (.int .i64 0) = .int .i64 (atT ts id) := by
  unfold posT atT
  cases ts.findIdx? (fun t => t.id == id) <;> rfl
theorem atT_at {ts : List Tm} {id : Int} (h : hasT ts id = true) : atT ts id < ts.length ∧ (ts.getD (atT ts id) default).id = id := by
  rw [← posT_has] at h
  obtain ⟨v, hv⟩ := Option.isSome_iff_exists.1 h
  obtain ⟨k, t, h1, h2, h3⟩ := posT_some hv
  have h4 := posT_getD ts id
  rw [hv, h3] at h4
  simp only [Option.getD_some, Value.int.injEq, true_and] at h4
  have h5 : atT ts id = k := by omega
  rw [h5]
  exact ⟨(List.getElem?_eq_some_iff.1 h1).1, by rw [List.getD_eq_getElem?_getD, h1]; exact h2⟩

/-- What find leaves. -/
def FindPost (ts : List Tm) (id : Int) (w : World) (e : Ending) (w' : World) : Prop := ∃ v, e = .returned (.tuple #[.int .i64 (atT ts id), v]) ∧ ErrV w' v (if hasT ts id then 0 else 6) (if hasT ts id then 0 else id) ∧ Upd [] w w' ∧ (hasT ts id = true → v = .nilIface) ∧ (hasT ts id = false → ∃ b, v = .iface 64 (.pointer (some ⟨b, 0, none⟩)))
theorem atT_none {ts : List Tm} {id : Int} (h : hasT ts id = false) : atT ts id = 0 := by
  rw [← posT_has] at h
  unfold posT at h
  unfold atT
  cases hh : ts.findIdx? (fun t => t.id == id) with
  | none => rfl
  | some j => rw [hh] at h; simp at h

set_option maxRecDepth 100000 in
set_option maxHeartbeats 1000000 in
theorem q_find (B qb p mb : Nat) (ts : List Tm) (id : Int) (w : World) (h : QSt B qb p mb w ts) :
    Calls Tryd.prog 26 #[.pointer (some ⟨qb, 0, none⟩), .int .i64 id] w fun e w' => FindPost ts id w e w' := by
  have H := Lib.hid h
  obtain ⟨hv, hb⟩ : ∃ b, hasT ts id = b := ⟨_, rfl⟩
  have HH := Lib.hid hb
  obtain ⟨v, hbo, hown⟩ := h.tim.obj
  have HT := Lib.hid hbo
  have HM := Lib.hid h.tim.mp
  have PH : Hid ((posT ts id).isSome = hv) := Lib.hid (by rw [posT_has, hb])
  have HQ := Lib.hid h.box
  clear h hb hbo hown
  go_enter Tryd.func26, Tryd.ntmps26
  go_wp2_with fail
  refine (q_made B qb p mb ts w H.out).mono ?_; rintro e w2 ⟨rfl, rfl⟩
  obtain ⟨g, hg⟩ : ∃ g, atT ts id = g := ⟨_, rfl⟩
  have HGG := Lib.hid hg
  have c0 : w.cell? ⟨qb, 0, none⟩ = some (.pointer (some ⟨p, 0, none⟩)) := HQ.out.cell 0
  have c1 : w.cell? ⟨p, 1, none⟩ = some (.map (some mb)) := HT.out.cell 1
  have l0 : (Instr.lookup 56 (.map (some mb)) (.int .i64 id) true).run Tryd.prog w = .ok (.tuple #[.int .i64 g, .bool hv]) w := by
    have hr := run_lookup_int (P := Tryd.prog) (z := .int .i64 0) Tryd.underlying56 Tryd.underlying3 (w := w) (by kernel_rfl) HM.out id
    rw [posT_getD, HGG.out, PH.out] at hr
    exact hr
  clear hg
  cases hv with
  | true =>
    go_wp2_with fail
    go_ret2
    unfold FindPost; rw [HH.out, HGG.out]
    exact ⟨_, rfl, ErrV.nil _, (Upd.refl [] w), fun _ => rfl, fun h => (by cases h)⟩
  | false =>
    have HZ : Hid (g = 0) := Lib.hid (by rw [← HGG.out, atT_none HH.out])
    go_wp2_with fail
    go_ret2
    unfold FindPost; rw [HH.out, HGG.out, HZ.out]
    have hu : Upd [] w (w.alloc (.cells #[.int .i64 id, .int .i64 6] 66)) := (Upd.refl [] w).alloc _
    exact ⟨.iface 64 (.pointer (some ⟨w.heap.size, 0, none⟩)), rfl, ErrV.fault (no := 6) (at_ := id) (Blk.new w _ _) (by omega) (by omega), hu, fun h => (by cases h), fun _ => ⟨_, rfl⟩⟩
theorem q_find_nil (id : Int) (w : World) : Calls Tryd.prog 26 #[.pointer none, .int .i64 id] w fun e w' => e = .returned (.tuple #[.int .i64 0, .iface 62 (.int .i64 1)]) ∧ w = w' := by
  go_enter Tryd.func26, Tryd.ntmps26
  go_wp2_with fail
  refine (q_made_nil _).mono ?_; rintro e w2 ⟨rfl, rfl⟩
  go_wp2_with fail
  go_ret2
  exact ⟨rfl, rfl⟩

def vT (t : Tm) : Value := .agg #[.int .i64 t.wn, .int .i64 t.id]
/-- What Next leaves. -/
def NextPost (B qb p mb : Nat) (ts : List Tm) (w : World) (e : Ending) (w' : World) : Prop := e = .returned (.tuple #[vT (if ts.length = 0 then ⟨0, 0⟩ else ts.getD 0 default), .bool (decide (ts.length ≠ 0))]) ∧ QSt B qb p mb w' ts ∧ FrT p mb w w'
/-- A new block of the call's own may be written. -/
theorem QSt.new {B qb p mb g : Nat} {w1 w2 W : World} {ts : List Tm} (h : QSt B qb p mb w2 ts) (hg : ∀ k, ownT p mb w2 k → k ≠ g) (hq : qb ≠ g) (hu : Upd [g] w2 W) : QSt B qb p mb W ts ∧ UpdP (fun k => k = g) w2 W ∧ ∀ k, ownT p mb W k ↔ ownT p mb w2 k := by
  have u : UpdP (fun k => k = g) w2 W := .of_upd hu (fun y hy => by simp only [List.mem_cons, List.not_mem_nil, or_false] at hy; exact .inl hy)
  have hk := h.tim.keep u (fun k hk e => hg k hk e)
  exact ⟨⟨h.box.updP u hq, hk.1, h.hp, h.bq⟩, u, hk.2⟩
theorem own_new {B p mb : Nat} {w w1 w2 : World} {ts : List Tm} (h : TimSt B p mb w ts) (hu : Upd [] w w1) (hl : w.heap.size < w1.heap.size) (hf : FrT p mb w1 w2) (k : Nat) (hk : ownT p mb w2 k) : k ≠ w.heap.size := by
  rcases hf.2 k hk with h1 | h1
  · have h2 := ((h.keep (O := fun _ => False) (.of_upd hu (by simp)) (fun _ _ h => h)).2 k).1 h1
    have := (h.own_lt h2).2
    omega
  · omega
theorem fr_new {p mb : Nat} {w w2 W : World} (hf : FrT p mb w w2) (hu : UpdP (fun k => k = w.heap.size) w2 W) (ho : ∀ k, ownT p mb W k ↔ ownT p mb w2 k) : FrT p mb w W :=
  ⟨hf.1.trans hu (fun k hk => .inr (by omega)), fun k hk => hf.2 k ((ho k).1 hk)⟩
set_option maxRecDepth 100000 in
set_option maxHeartbeats 1000000 in
theorem q_next (B qb p mb : Nat) (ts : List Tm) (w : World) (h : QSt B qb p mb w ts) :
    Calls Tryd.prog 13 #[.pointer (some ⟨qb, 0, none⟩)] w fun e w' => NextPost B qb p mb ts w e w' := by
  have H := Lib.hid h
  obtain ⟨n, hn⟩ : ∃ n, ts.length = n := ⟨_, rfl⟩
  have HN := Lib.hid hn
  have U1 : Hid (Upd [] w (w.alloc (.cells #[.int .i64 0, .int .i64 0] 29))) := Lib.hid ((Upd.refl [] w).alloc _)
  have QN : Hid (qb ≠ w.heap.size) := Lib.hid (by have := h.box.lt; omega)
  clear h hn
  go_enter Tryd.func13, Tryd.ntmps13
  go_wp2_with fail
  have Y1 : Hid (Blk (w.alloc (.cells #[.int .i64 0, .int .i64 0] 29)) w.heap.size 29 #[.int .i64 0, .int .i64 0]) := Lib.hid (Blk.new w _ _)
  generalize (w.alloc (.cells #[.int .i64 0, .int .i64 0] 29)) = w1 at *
  obtain ⟨q1, f1⟩ := H.out.upd0 U1.out
  refine (q_len B qb p mb ts w1 q1).mono ?_; rintro e w2 ⟨rfl, q2, f2⟩
  rw [HN.out]
  have Q2 := Lib.hid q2
  have F2 := Lib.hid (f1.trans f2)
  have NO : Hid (∀ k, ownT p mb w2 k → k ≠ w.heap.size) := Lib.hid (own_new H.out.tim U1.out Y1.out.lt f2)
  have NO1 : ∀ k, ownT p mb w1 k → k ≠ w.heap.size := own_new H.out.tim U1.out Y1.out.lt (.refl _ _ _)
  have Y2 : Hid (Blk w2 w.heap.size 29 #[.int .i64 0, .int .i64 0]) := Lib.hid (Y1.out.updP f2.1 (fun ho => NO1 _ ho rfl))
  have FN : Hid (∀ W, Upd [w.heap.size] w2 W → QSt B qb p mb W ts ∧ FrT p mb w W) := Lib.hid (fun W hu => by
    obtain ⟨h1, h2, h3⟩ := Q2.out.new (w1 := w1) NO.out QN.out hu
    exact ⟨h1, fr_new F2.out h2 h3⟩)
  clear q1 f1 q2 f2 NO1
  have y0 : w2.cell? ⟨w.heap.size, 0, none⟩ = some (.int .i64 0) := Y2.out.cell 0
  have y1 : w2.cell? ⟨w.heap.size, 1, none⟩ = some (.int .i64 0) := Y2.out.cell 1
  have z0 : w2.frozen? ⟨w.heap.size, 0, none⟩ = false := Y2.out.frozen 0
  have z1 : w2.frozen? ⟨w.heap.size, 1, none⟩ = false := Y2.out.frozen 1
  have yl : w.heap.size < w2.heap.size := Y2.out.lt
  cases n with
  | zero =>
    go_wp2_with fail
    have YW : Hid (Blk ((w2.setCell ⟨w.heap.size, 0, none⟩ (.int .i64 0)).setCell ⟨w.heap.size, 1, none⟩ (.int .i64 0)) w.heap.size 29 #[.int .i64 0, .int .i64 0]) := Lib.hid ((Y2.out.set_eq (i := 0) rfl).set_eq (i := 1) rfl)
    have UW : Hid (Upd [w.heap.size] w2 ((w2.setCell ⟨w.heap.size, 0, none⟩ (.int .i64 0)).setCell ⟨w.heap.size, 1, none⟩ (.int .i64 0))) := Lib.hid (((Upd.refl _ w2).setCell (.inl (by simp)) _).setCell (.inl (by simp)) _)
    generalize ((w2.setCell ⟨w.heap.size, 0, none⟩ (.int .i64 0)).setCell ⟨w.heap.size, 1, none⟩ (.int .i64 0)) = W at *
    have d0 : W.cell? ⟨w.heap.size, 0, none⟩ = some (.int .i64 0) := YW.out.cell 0
    have d1 : W.cell? ⟨w.heap.size, 1, none⟩ = some (.int .i64 0) := YW.out.cell 1
    refine bodyPost_ret (v := .tuple #[.agg #[.int .i64 0, .int .i64 0], .bool false]) (by simp [results, Tryd.results13, go_sem, d0, d1]) rfl ?_
    unfold NextPost
    rw [HN.out]
    exact ⟨rfl, FN.out W UW.out⟩
  | succ n =>
    obtain ⟨x, hx⟩ : ∃ x, ts[0]? = some x := ⟨_, List.getElem?_eq_getElem (by rw [HN.out]; omega)⟩
    have HX : Hid (ts.getD 0 default = x) := Lib.hid (by rw [List.getD_eq_getElem?_getD, hx]; rfl)
    obtain ⟨v, hb, ho⟩ := Q2.out.tim.obj
    obtain ⟨g, c, cur, rfl, hBg, hbg, hnc, hcm, _, _⟩ := own_form ho (by rw [HN.out]; omega)
    have e0 := own_cell ho _ _ (flatT_get ts 0 x hx).1
    have e1 := own_cell ho _ _ (flatT_get ts 0 x hx).2
    have c0 : w2.cell? ⟨qb, 0, none⟩ = some (.pointer (some ⟨p, 0, none⟩)) := Q2.out.box.cell 0
    have c1 : w2.cell? ⟨p, 0, none⟩ = some (.slice (some ⟨g, 0, none⟩) (n + 1) c) := by have := hb.cell 0; rw [HN.out] at this; exact this
    simp only [Nat.zero_mul, Nat.zero_add] at e0 e1
    clear hx hb ho hbg
    go_wp2_with fail
    have YW : Hid (Blk ((w2.setCell ⟨w.heap.size, 0, none⟩ (.int .i64 x.wn)).setCell ⟨w.heap.size, 1, none⟩ (.int .i64 x.id)) w.heap.size 29 #[.int .i64 x.wn, .int .i64 x.id]) := Lib.hid ((Y2.out.set_eq (i := 0) rfl).set_eq (i := 1) rfl)
    have UW : Hid (Upd [w.heap.size] w2 ((w2.setCell ⟨w.heap.size, 0, none⟩ (.int .i64 x.wn)).setCell ⟨w.heap.size, 1, none⟩ (.int .i64 x.id))) := Lib.hid (((Upd.refl _ w2).setCell (.inl (by simp)) _).setCell (.inl (by simp)) _)
    generalize ((w2.setCell ⟨w.heap.size, 0, none⟩ (.int .i64 x.wn)).setCell ⟨w.heap.size, 1, none⟩ (.int .i64 x.id)) = W at *
    have d0 : W.cell? ⟨w.heap.size, 0, none⟩ = some (.int .i64 x.wn) := YW.out.cell 0
    have d1 : W.cell? ⟨w.heap.size, 1, none⟩ = some (.int .i64 x.id) := YW.out.cell 1
    refine bodyPost_ret (v := .tuple #[.agg #[.int .i64 x.wn, .int .i64 x.id], .bool true]) (by simp [results, Tryd.results13, go_sem, d0, d1]) rfl ?_
    unfold NextPost
    rw [HN.out, HX.out, if_neg (by omega), decide_eq_true (by omega)]
    exact ⟨rfl, FN.out W UW.out⟩
theorem q_next_nil (w : World) : Calls Tryd.prog 13 #[.pointer none] w fun e w' => e = .returned (.tuple #[vT ⟨0, 0⟩, .bool false]) ∧ Upd [] w w' := by
  have U1 : Hid (Upd [] w (w.alloc (.cells #[.int .i64 0, .int .i64 0] 29))) := Lib.hid ((Upd.refl [] w).alloc _)
  go_enter Tryd.func13, Tryd.ntmps13
  go_wp2_with fail
  have Y1 : Hid (Blk (w.alloc (.cells #[.int .i64 0, .int .i64 0] 29)) w.heap.size 29 #[.int .i64 0, .int .i64 0]) := Lib.hid (Blk.new w _ _)
  generalize (w.alloc (.cells #[.int .i64 0, .int .i64 0] 29)) = w1 at *
  refine (q_len_nil w1).mono ?_; rintro e w2 ⟨rfl, rfl⟩
  have y0 : w1.cell? ⟨w.heap.size, 0, none⟩ = some (.int .i64 0) := Y1.out.cell 0
  have y1 : w1.cell? ⟨w.heap.size, 1, none⟩ = some (.int .i64 0) := Y1.out.cell 1
  have z0 : w1.frozen? ⟨w.heap.size, 0, none⟩ = false := Y1.out.frozen 0
  have z1 : w1.frozen? ⟨w.heap.size, 1, none⟩ = false := Y1.out.frozen 1
  have yl : w.heap.size < w1.heap.size := Y1.out.lt
  go_wp2_with fail
  have YW : Hid (Blk ((w1.setCell ⟨w.heap.size, 0, none⟩ (.int .i64 0)).setCell ⟨w.heap.size, 1, none⟩ (.int .i64 0)) w.heap.size 29 #[.int .i64 0, .int .i64 0]) := Lib.hid ((Y1.out.set_eq (i := 0) rfl).set_eq (i := 1) rfl)
  have UW : Hid (Upd [] w ((w1.setCell ⟨w.heap.size, 0, none⟩ (.int .i64 0)).setCell ⟨w.heap.size, 1, none⟩ (.int .i64 0))) := Lib.hid ((U1.out.setCell (.inr (by simp)) _).setCell (.inr (by simp)) _)
  generalize ((w1.setCell ⟨w.heap.size, 0, none⟩ (.int .i64 0)).setCell ⟨w.heap.size, 1, none⟩ (.int .i64 0)) = W at *
  have d0 : W.cell? ⟨w.heap.size, 0, none⟩ = some (.int .i64 0) := YW.out.cell 0
  have d1 : W.cell? ⟨w.heap.size, 1, none⟩ = some (.int .i64 0) := YW.out.cell 1
  refine bodyPost_ret (v := .tuple #[.agg #[.int .i64 0, .int .i64 0], .bool false]) (by simp [results, Tryd.results13, go_sem, d0, d1]) rfl ?_
  exact ⟨rfl, UW.out⟩

/-- What Cancel leaves. -/
def CancelPost (B qb p mb : Nat) (ts : List Tm) (id : Int) (w : World) (e : Ending) (w' : World) : Prop := ∃ v us, e = .returned v ∧ ErrV w' v (if hasT ts id then 0 else 6) (if hasT ts id then 0 else id) ∧ QSt B qb p mb w' us ∧ (if hasT ts id then (ts.getD (atT ts id) default :: us).Perm ts else us = ts) ∧ FrT p mb w w'
set_option maxRecDepth 100000 in
set_option maxHeartbeats 1000000 in
theorem q_cancel (B qb p mb : Nat) (ts : List Tm) (id : Int) (w : World) (h : QSt B qb p mb w ts) :
    Calls Tryd.prog 12 #[.pointer (some ⟨qb, 0, none⟩), .int .i64 id] w fun e w' => CancelPost B qb p mb ts id w e w' := by
  have H := Lib.hid h
  obtain ⟨k, hk⟩ : ∃ k, atT ts id = k := ⟨_, rfl⟩
  have HK := Lib.hid hk
  clear h hk
  go_enter Tryd.func12, Tryd.ntmps12
  go_wp2_with fail
  refine (q_find B qb p mb ts id w H.out).mono ?_
  rintro e w1 ⟨v, rfl, ev, u1, ht, hf⟩
  rw [HK.out]
  obtain ⟨q1, f1⟩ := H.out.upd0 u1
  have Q1 := Lib.hid q1
  have F1 := Lib.hid f1
  have EV := Lib.hid ev
  clear ev q1 f1 u1
  cases hb : hasT ts id with
  | false =>
    obtain ⟨b, rfl⟩ := hf hb
    have HB := Lib.hid hb
    clear hb ht hf
    go_wp2_with fail
    go_ret
    unfold CancelPost
    rw [HB.out]
    have ev := EV.out
    rw [HB.out] at ev
    exact ⟨_, ts, rfl, ev, Q1.out, rfl, F1.out⟩
  | true =>
    obtain rfl := ht hb
    have HB := Lib.hid hb
    clear hb ht hf
    have c0 : w1.cell? ⟨qb, 0, none⟩ = some (.pointer (some ⟨p, 0, none⟩)) := Q1.out.box.cell 0
    go_wp2_with fail
    have HA := Lib.hid (atT_at HB.out)
    obtain ⟨n, hn⟩ : ∃ n, ts.length = n + 1 := ⟨ts.length - 1, by have := HA.out.1; omega⟩
    have HN := Lib.hid hn
    refine (heap_remove (tim_heaped B p mb) ltT_ord n k ts (fun t => .iface 29 (vT t)) w1 Q1.out.tim HN.out (by have := HA.out.1; rw [HK.out] at this; omega) (by have := Q1.out.hp; rw [HN.out] at this; exact this) (fun w ys hs hl => tim_pop B p mb ys n w hs hl)).mono ?_
    rintro e w2 ⟨rfl, us, s2, p2, h2, f2⟩
    have PL : us.length = n := by have := p2.length_eq; rw [List.length_cons, HN.out] at this; omega
    have Q2 := Lib.hid (Q1.out.step f2 s2 (PL.symm ▸ h2))
    have F2 := Lib.hid (F1.out.trans f2)
    have P2 := Lib.hid p2
    clear s2 p2 h2 f2 PL hn
    go_wp2_with fail
    go_ret
    unfold CancelPost
    rw [HB.out, HK.out]
    exact ⟨_, us, rfl, ErrV.nil _, Q2.out, P2.out, F2.out⟩
theorem q_cancel_nil (id : Int) (w : World) : Calls Tryd.prog 12 #[.pointer none, .int .i64 id] w fun e w' => e = .returned (.iface 62 (.int .i64 1)) ∧ w = w' := by
  go_enter Tryd.func12, Tryd.ntmps12
  go_wp2_with fail
  refine (q_find_nil id w).mono ?_
  rintro e w1 ⟨rfl, rfl⟩
  go_wp2_with fail
  go_ret
  exact ⟨rfl, rfl⟩
theorem q_move_nil (id wn : Int) (w : World) : Calls Tryd.prog 21 #[.pointer none, .int .i64 id, .int .i64 wn] w fun e w' => e = .returned (.iface 62 (.int .i64 1)) ∧ w = w' := by
  go_enter Tryd.func21, Tryd.ntmps21
  go_wp2_with fail
  refine (q_find_nil id w).mono ?_
  rintro e w1 ⟨rfl, rfl⟩
  go_wp2_with fail
  go_ret
  exact ⟨rfl, rfl⟩
end Go.Proofs.YtainiojlhdbhgaaDoor

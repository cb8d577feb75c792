/-
  queue.Queue: Due.
-/
import Derived.Test.YtainiojlhdbhgaaDoorQueue2
set_option linter.unusedVariables false
namespace Go.Proofs.YtainiojlhdbhgaaDoor
open Go.RowKit HeapPlain
attribute [local go_sem] litStep_value

def slLen : Value → Nat | .slice _ n _ => n | _ => 0
theorem own_slLen {w : World} {B : Nat} {e : TypeId} {s : Nat} {v : Value} {n : Nat} {xs : List Value} (h : w.ownsRow B e s v n xs) : slLen v = n := by
  obtain ⟨A, c, rfl, _⟩ := own_slice h
  rfl
theorem own_updP {w w' : World} {B : Nat} {e : TypeId} {s : Nat} {v : Value} {n : Nat} {xs : List Value} {O : Nat → Prop} (h : w.ownsRow B e s v n xs) (hu : UpdP O w w') (ho : ∀ b, v.ownBlock = some b → ¬ O b) : w'.ownsRow B e s v n xs := by
  obtain ⟨o1, o2⟩ := h
  refine ⟨o1, ?_⟩
  rcases o2 with o2 | ⟨g, cap, cur, rfl, o2, o3, o4⟩
  · exact .inl o2
  · exact .inr ⟨g, cap, cur, rfl, o2, Blk.updP o3 hu (ho g rfl), o4⟩

theorem stopped {p : Prop} (h : Hid p) : p := h.out
theorem fr_high {p mb : Nat} {w w2 W : World} (hf : FrT p mb w w2) (hu : UpdP (fun k => w.heap.size ≤ k) w2 W) (ho : ∀ k, ownT p mb W k ↔ ownT p mb w2 k) : FrT p mb w W :=
  ⟨hf.1.trans hu (fun k hk => .inr hk), fun k hk => hf.2 k ((ho k).1 hk)⟩
/-- What has been taken out so far. -/
structure DueSt (B qb p mb : Nat) (ts : List Tm) (now : Int) (w wr : World) (v : Value) (out us : List Tm) : Prop where
  own : wr.ownsRow w.heap.size 29 2 v out.length (flatT out)
  q : QSt B qb p mb wr us
  perm : (out ++ us).Perm ts
  low : ∀ a ∈ out, a.wn ≤ now
  srt : out.Pairwise (fun a b => ltT b a = false)
  bef : ∀ a ∈ out, ∀ b ∈ us, ltT b a = false
  fr : FrT p mb w wr
  off : ∀ b, v.ownBlock = some b → ¬ ownT p mb wr b
def DuePost (B qb p mb : Nat) (ts : List Tm) (now : Int) (w : World) (e : Ending) (w' : World) : Prop := ∃ v out us, e = .returned v ∧ DueSt B qb p mb ts now w w' v out us ∧ ∀ b ∈ us, now < b.wn

theorem DueSt.step {B qb p mb : Nat} {ts : List Tm} {now : Int} {w wr w2 : World} {v : Value} {out us : List Tm} (h : DueSt B qb p mb ts now w wr v out us) (hq : QSt B qb p mb w2 us) (hf : FrT p mb wr w2) : DueSt B qb p mb ts now w w2 v out us :=
  ⟨own_updP h.own hf.1 h.off, hq, h.perm, h.low, h.srt, h.bef, h.fr.trans hf, fun b hb ho => (hf.2 b ho).elim (h.off b hb) (fun h' => by have := (own_lt h.own hb).2; omega)⟩
theorem DueSt.first {B qb p mb : Nat} {ts : List Tm} {now : Int} {w wr : World} {v : Value} {out us : List Tm} (h : DueSt B qb p mb ts now w wr v out us) (b : Tm) (hb : b ∈ us) : ltT b (us.getD 0 default) = false := by
  obtain ⟨k, hk, rfl⟩ := List.getElem_of_mem hb
  have := h.q.hp.least ltT_ord ltT_irr k hk
  rwa [List.getD_eq_getElem?_getD, List.getElem?_eq_getElem hk] at this
/-- One more is taken out. -/
theorem DueSt.take {B qb p mb : Nat} {ts : List Tm} {now : Int} {w wr W : World} {v v' : Value} {out us zs : List Tm} (h : DueSt B qb p mb ts now w wr v out us) (hu : us ≠ []) (hx : (us.getD 0 default).wn ≤ now)
    (hq : QSt B qb p mb W zs) (hp : (us.getD 0 default :: zs).Perm us) (hf : FrT p mb w W) (ho : W.ownsRow w.heap.size 29 2 v' (out ++ [us.getD 0 default]).length (flatT (out ++ [us.getD 0 default]))) (hoff : ∀ b, v'.ownBlock = some b → ¬ ownT p mb W b) :
    DueSt B qb p mb ts now w W v' (out ++ [us.getD 0 default]) zs := by
  have hx0 : us.getD 0 default ∈ us := hp.mem_iff.1 (by simp)
  refine ⟨ho, hq, ?_, ?_, ?_, ?_, hf, hoff⟩
  · rw [List.append_assoc, List.singleton_append]
    exact (hp.append_left out).trans h.perm
  · intro a ha
    rcases List.mem_append.1 ha with ha | ha
    · exact h.low a ha
    · simp at ha; subst ha; simpa using hx
  · rw [List.pairwise_append]
    refine ⟨h.srt, by simp, fun a ha b hb => ?_⟩
    simp only [List.mem_singleton] at hb
    subst hb
    exact h.bef a ha _ hx0
  · intro a ha b hb
    have hb' : b ∈ us := hp.mem_iff.1 (by simp [hb])
    rcases List.mem_append.1 ha with ha | ha
    · exact h.bef a ha b hb'
    · simp only [List.mem_singleton] at ha
      subst ha
      exact h.first b hb'

theorem q_due_nil (now : Int) (w : World) : Calls Tryd.prog 16 #[.pointer none, .int .i64 now] w fun e w' => e = .returned (.slice none 0 0) ∧ Upd [] w w' := by
  go_enter Tryd.func16, Tryd.ntmps16
  go_wp2_with fail
  go_loopw [5] (fun v wr => v = .slice none 0 0 ∧ wr = w) (fun _ _ => 0)
  case atStart => exact ⟨rfl, rfl⟩
  case round =>
    obtain ⟨rfl, rfl⟩ := hrel
    go_wp2_with fail
    refine (q_next_nil wr).mono ?_; rintro e w1 ⟨rfl, u1⟩
    have U1 := Lib.hid u1
    clear u1
    unfold vT
    go_wp2_with fail
    go_ret
    exact ⟨rfl, U1.out.alloc _⟩

set_option maxRecDepth 100000 in
set_option maxHeartbeats 2000000 in
theorem q_due (B qb p mb : Nat) (ts : List Tm) (now : Int) (w : World) (h : QSt B qb p mb w ts) :
    Calls Tryd.prog 16 #[.pointer (some ⟨qb, 0, none⟩), .int .i64 now] w fun e w' => DuePost B qb p mb ts now w e w' := by
  have H := Lib.hid h
  have hsm := h.tim.small
  obtain ⟨l, hl⟩ : ∃ l, ts.length = l := ⟨_, rfl⟩
  have HL := Lib.hid hl
  rw [hl] at hsm
  clear h hl
  go_enter Tryd.func16, Tryd.ntmps16
  go_wp2_with fail
  go_loopw [5] (fun v wr => Hid (∃ out us, DueSt B qb p mb ts now w wr v out us)) (fun v _ => l - slLen v)
  case atStart => exact Lib.hid ⟨[], ts, own_nil _ _ _ _, H.out, .refl _, by simp, by simp, by simp, .refl _ _ _, by intro b hb; simp [Value.ownBlock] at hb⟩
  case round =>
    obtain ⟨out, us, hD⟩ := hrel.out
    have hql : out.length + us.length = l := by have := hD.perm.length_eq; rw [List.length_append, HL.out] at this; exact this
    clear hrel
    obtain ⟨A, c, hvv, hnc, hcm⟩ := own_slice hD.own
    subst hvv
    obtain ⟨k, hk⟩ : ∃ k, out.length = k := ⟨_, rfl⟩
    obtain ⟨m, hm⟩ : ∃ m, us.length = m := ⟨_, rfl⟩
    rw [hk, hm] at hql
    rw [hk] at hnc
    have hD' : DueSt B qb p mb ts now w wr (.slice A k c) out us := hk ▸ hD
    have DD := Lib.hid hD'
    have HK := Lib.hid hk
    have HM := Lib.hid hm
    rw [hk]
    clear hD hD' hk hm
    go_wp2_with fail
    refine (q_next B qb p mb us wr DD.out.q).mono ?_; rintro e w1 ⟨rfl, q1, f1⟩
    rw [HM.out]
    have D1 : Hid (DueSt B qb p mb ts now w w1 (.slice A k c) out us) := Lib.hid (DD.out.step q1 f1)
    clear q1 f1
    cases m with
    | zero =>
      unfold vT
      go_wp2_with fail
      go_ret
      obtain ⟨q2, f2⟩ := D1.out.q.upd0 ((Upd.refl [] w1).alloc (.cells #[.int .i64 0, .int .i64 0] 29))
      refine ⟨_, out, us, rfl, D1.out.step q2 f2, fun b hb => ?_⟩
      have := HM.out
      rw [List.length_eq_zero_iff] at this
      subst this
      cases hb
    | succ m =>
      obtain ⟨x, hx⟩ : ∃ x, us.getD 0 default = x := ⟨_, rfl⟩
      have HX := Lib.hid hx
      rw [hx]
      clear hx
      unfold vT
      by_cases hlt : now < x.wn
      · go_wp2_with fail
        go_ret
        obtain ⟨q2, f2⟩ := D1.out.q.upd0 ((Upd.refl [] w1).alloc (.cells #[.int .i64 x.wn, .int .i64 x.id] 29))
        refine ⟨_, out, us, rfl, D1.out.step q2 f2, fun b hb => ?_⟩
        have h1 := D1.out.first b hb
        rw [HX.out] at h1
        unfold ltT at h1
        simp only [Bool.or_eq_false_iff, decide_eq_false_iff_not] at h1
        have := h1.1
        omega
      · have c0 : w1.cell? ⟨qb, 0, none⟩ = some (.pointer (some ⟨p, 0, none⟩)) := D1.out.q.box.cell 0
        have cl : qb < w1.heap.size := D1.out.q.box.lt
        go_wp2_with fail
        have U2 : Hid (Upd [] w1 (w1.alloc (.cells #[.int .i64 x.wn, .int .i64 x.id] 29))) := Lib.hid ((Upd.refl [] w1).alloc _)
        have Y2 : Hid (Blk (w1.alloc (.cells #[.int .i64 x.wn, .int .i64 x.id] 29)) w1.heap.size 29 #[.int .i64 x.wn, .int .i64 x.id]) := Lib.hid (Blk.new w1 _ _)
        generalize (w1.alloc (.cells #[.int .i64 x.wn, .int .i64 x.id] 29)) = w2 at *
        have D2 : Hid (DueSt B qb p mb ts now w w2 (.slice A k c) out us) := Lib.hid (by
          obtain ⟨q2, f2⟩ := D1.out.q.upd0 U2.out
          exact D1.out.step q2 f2)
        have NY : Hid (¬ ownT p mb w2 w1.heap.size) := Lib.hid (fun ho => by
          have h2 := ((D1.out.q.tim.keep (O := fun _ => False) (.of_upd U2.out (by simp)) (fun _ _ h => h)).2 _).1 ho
          have := (D1.out.q.tim.own_lt h2).2
          omega)
        clear c0 cl
        refine (heap_pop (tim_heaped B p mb) ltT_ord m us (fun t => .iface 29 (vT t)) w2 D2.out.q.tim HM.out (by have := D2.out.q.hp; rw [HM.out] at this; exact this) (fun w ys hs hl => tim_pop B p mb ys m w hs hl)).mono ?_
        rintro e w3 ⟨rfl, zs, s3, p3, h3, f3⟩
        have ZL : zs.length = m := by have := p3.length_eq; rw [List.length_cons, HM.out] at this; omega
        have Q3 : Hid (QSt B qb p mb w3 zs) := Lib.hid (D2.out.q.step f3 s3 (ZL.symm ▸ h3))
        have P3 := Lib.hid p3
        have O3 : Hid (w3.ownsRow w.heap.size 29 2 (.slice A k c) k (flatT out)) := Lib.hid (by have := own_updP D2.out.own f3.1 D2.out.off; rw [HK.out] at this; exact this)
        have OF : Hid (∀ b, (Value.slice A k c).ownBlock = some b → ¬ ownT p mb w3 b) := Lib.hid (fun b hb ho => (f3.2 b ho).elim (D2.out.off b hb) (fun h' => by have := (own_lt D2.out.own hb).2; omega))
        have F3 : Hid (FrT p mb w w3) := Lib.hid (D2.out.fr.trans f3)
        have Y3 : Hid (Blk w3 w1.heap.size 29 #[.int .i64 x.wn, .int .i64 x.id]) := Lib.hid (Y2.out.updP f3.1 NY.out)
        have y0 : w3.cell? ⟨w1.heap.size, 0, none⟩ = some (.int .i64 x.wn) := Y3.out.cell 0
        have y1 : w3.cell? ⟨w1.heap.size, 1, none⟩ = some (.int .i64 x.id) := Y3.out.cell 1
        clear s3 p3 h3 f3 ZL
        go_wp2_with (at_builtin; refine stopped ?_)
        refine Lib.hid ?_
        refine wpList_app _ (by rfl) (.tmp 28) (.tmp 30) _ (by rfl) tim_elem (.slice A k c) _ (by rfl) (by rfl) (own_upd0 O3.out ((Upd.refl [] w3).alloc _)) (.of_blk (Blk.new _ _ _) (m := 1) 1 rfl) (by intro u hu; simp at hu; rcases hu with rfl | rfl <;> rfl) (by simp only [maxLen]; omega) (by omega) (Nat.le_trans F3.out.1.size (by simp)) ?_
        intro v4 w4 o4 u4 b4
        have U4 : Upd (Value.slice A k c).ownBlock.toList w3 w4 := ((Upd.refl _ w3).alloc _).trans u4
        have UP : UpdP (fun j => (Value.slice A k c).ownBlock = some j) w3 w4 := .of_upd U4 (fun y hy => .inl (by simpa using hy))
        have UH : UpdP (fun j => w.heap.size ≤ j) w3 w4 := .of_upd U4 (fun y hy => .inl (own_lt O3.out (by simpa using hy)).1)
        obtain ⟨t4, i4⟩ := Q3.out.tim.keep UP (fun j hj e => OF.out _ e hj)
        have fe : flatT out ++ #[Value.int .i64 x.wn, Value.int .i64 x.id].toList = flatT (out ++ [x]) := by rw [flatT_append]; rfl
        have le : k + 1 = (out ++ [x]).length := by rw [List.length_append, HK.out]; rfl
        have S4 : Hid (slLen v4 = k + 1) := Lib.hid (own_slLen o4)
        rw [fe, le] at o4
        have q4 : QSt B qb p mb w4 zs := ⟨Q3.out.box.updP UP (fun e => by have := (own_lt O3.out e).1; have := H.out.box.lt; omega), t4, Q3.out.hp, Q3.out.bq⟩
        have D4 : Hid (DueSt B qb p mb ts now w w4 v4 (out ++ [x]) zs) := Lib.hid (by
          rw [← HX.out]
          rw [← HX.out] at o4
          refine D2.out.take (by intro e; have := HM.out; rw [e] at this; cases this) (by rw [HX.out]; omega) q4 P3.out (fr_high F3.out UH i4) o4 (fun b hb ho => ?_)
          have h3 := (i4 b).1 ho
          rcases b4 with b4 | b4
          · exact OF.out b (b4 ▸ hb) h3
          · rw [b4] at hb
            injection hb with hb
            have := (Q3.out.tim.own_lt h3).2
            rw [← hb] at this
            simp at this
            omega)
        clear U4 UP UH t4 i4 fe le o4 u4 b4 q4
        go_wp2_with fail
        go_roundw
        case rel => exact Lib.hid ⟨_, _, D4.out⟩
        case measure => rw [S4.out]; simp only [slLen]; omega
end Go.Proofs.YtainiojlhdbhgaaDoor

/-
  Package snap: Diff, of any two, each of which may be none.
-/
import Derived.Test.YthdjbflbhgbckaaDoorIter
import Derived.Test.YthdjbflbhgbckaaDoorDiffP
set_option linter.unusedVariables false
namespace Go.Proofs.YthdjbflbhgbckaaDoor
open Go.RowKit Stab Snap
attribute [local go_sem] litStep_value

def encTn : Enc Tn := encI4 .i64 .i64 .i64 .i64
theorem elem_tn : Elem Tryd.prog 41 51 4 32 := .mk' (z := ((Tryd.prog.info? 51).bind (·.zero)).getD undef) Tryd.underlying41 (by kernel_rfl) (by kernel_rfl) (by omega)
/-- A snapshot's value, or none's. -/
def SnapV (w : World) (v : Value) (r : PL) : Prop := (v = .pointer none ∧ r = []) ∨ ∃ B sb, v = .pointer (some ⟨sb, 0, none⟩) ∧ SnapIs B sb w r
theorem SnapV.upd0 {w w' : World} {v : Value} {r : PL} (h : SnapV w v r) (hu : Upd [] w w') : SnapV w' v r := by
  rcases h with h | ⟨B, sb, h1, h2⟩
  · exact .inl h
  · exact .inr ⟨B, sb, h1, h2.upd0 hu⟩
theorem SnapV.srt {w : World} {v : Value} {r : PL} (h : SnapV w v r) : Assoc.Srt r ∧ r.length ≤ 1000 := by
  rcases h with ⟨_, rfl⟩ | ⟨B, sb, _, h⟩
  · exact ⟨Assoc.Srt.nil, by simp⟩
  · exact ⟨h.srt, h.small⟩
def itBlk : Value → List Nat
  | .pointer (some a) => [a.block]
  | _ => []
/-- An iterator that was made behind w0, over what was there. -/
def ItB (w0 w : World) (it : Value) (r : PL) (at_ : Nat) : Prop := (it = .pointer none ∧ r = []) ∨ ∃ B k sb, it = .pointer (some ⟨k, 0, none⟩) ∧ w0.heap.size ≤ k ∧ SnapIs B sb w0 r ∧ Blk w k 108 #[.pointer (some ⟨sb, 0, none⟩), .int .i64 (at_ : Nat)]
section
variable {w0 w w' : World} {it : Value} {r : PL} {at_ : Nat}
theorem ItB.new (h : ItB w0 w it r at_) : ∀ x ∈ itBlk it, w0.heap.size ≤ x := by
  rcases h with ⟨rfl, _⟩ | ⟨B, k, sb, rfl, h1, _, _⟩
  · intro x hx; cases hx
  · intro x hx; simp [itBlk] at hx; omega
theorem ItB.off {x : Nat} {t : TypeId} {cs : Array Value} (h : ItB w0 w it r at_) (hb : Blk w x t cs) (ht : t ≠ 108) (hu : Upd [x] w w') : ItB w0 w' it r at_ := by
  rcases h with h | ⟨B, k, sb, h1, h2, h3, h4⟩
  · exact .inl h
  · exact .inr ⟨B, k, sb, h1, h2, h3, h4.upd hu (by simpa using Blk.ne_ h4 hb (Ne.symm ht))⟩
theorem ItB.upd0 (h : ItB w0 w it r at_) (hu : Upd [] w w') : ItB w0 w' it r at_ := by
  rcases h with h | ⟨B, k, sb, h1, h2, h3, h4⟩
  · exact .inl h
  · exact .inr ⟨B, k, sb, h1, h2, h3, h4.upd hu (by simp)⟩
theorem ItB.off' {S : List Nat} (h : ItB w0 w it r at_) (hS : ∀ x ∈ itBlk it, x ∉ S) (hu : Upd S w w') : ItB w0 w' it r at_ := by
  rcases h with h | ⟨B, k, sb, rfl, h2, h3, h4⟩
  · exact .inl h
  · exact .inr ⟨B, k, sb, rfl, h2, h3, h4.upd hu (hS k (by simp [itBlk]))⟩
theorem ItB.blk (h : ItB w0 w it r at_) : ∀ x ∈ itBlk it, ∃ cs, Blk w x 108 cs := by
  rcases h with ⟨rfl, _⟩ | ⟨B, k, sb, rfl, h1, _, h4⟩
  · intro x hx; cases hx
  · intro x hx; simp [itBlk] at hx; subst hx; exact ⟨_, h4⟩
end
def nx (r : PL) (i : Nat) : Nat := if i < r.length then i + 1 else i
theorem iter_any (w0 : World) (v : Value) (r : PL) (w : World) (h : SnapV w0 v r) (hu : Upd [] w0 w) : Calls Tryd.prog 34 #[v] w fun e w' => ∃ it, e = .returned it ∧ ItB w0 w' it r 0 ∧ (∀ x ∈ itBlk it, w.heap.size ≤ x ∧ x < w'.heap.size) ∧ Upd [] w w' := by
  rcases h with ⟨rfl, rfl⟩ | ⟨B, sb, rfl, h⟩
  · refine (s_iter_nil w).mono ?_
    rintro e w1 ⟨rfl, rfl⟩
    exact ⟨_, rfl, .inl ⟨rfl, rfl⟩, fun x hx => (by cases hx), .refl _ _⟩
  · refine (s_iter B sb r w (h.upd0 hu)).mono ?_
    rintro e w1 ⟨rfl, h1, u1⟩
    exact ⟨_, rfl, .inr ⟨B, _, sb, rfl, hu.size, h, h1.it⟩, fun x hx => by simp [itBlk] at hx; subst hx; exact ⟨Nat.le_refl _, h1.it.lt⟩, u1⟩
theorem next_any (w0 : World) (it : Value) (r : PL) (at_ : Nat) (w : World) (h : ItB w0 w it r at_) (hu : Upd [] w0 w) (hle : at_ ≤ r.length) : Calls Tryd.prog 35 #[it] w fun e w' => e = .returned (toldP r[at_]?) ∧ ItB w0 w' it r (nx r at_) ∧ Upd (itBlk it) w w' := by
  rcases h with ⟨rfl, rfl⟩ | ⟨B, k, sb, rfl, h2, h3, h4⟩
  · refine (i_next_nil w).mono ?_
    rintro e w1 ⟨rfl, u1⟩
    exact ⟨rfl, .inl ⟨rfl, rfl⟩, u1.mono (by simp)⟩
  · refine (i_next B k sb r at_ w ⟨h4, h3.upd0 hu, hle⟩).mono ?_
    rintro e w1 ⟨rfl, h1, u1⟩
    exact ⟨rfl, .inr ⟨B, k, sb, rfl, h2, h3, h1.it⟩, u1⟩
def cellsO (o : Option (Int × Int)) : Array Value := #[.int .i64 ((o.map (·.1)).getD 0), .int .i64 ((o.map (·.2)).getD 0)]
/-- In the midst of Diff. -/
structure DS (w wr : World) (a b : PL) (ia ib : Value) (pb qb i j : Nat) (vo : Value) (acc : List Tn) : Prop where
  u : Upd [] w wr
  ita : ItB w wr ia a (nx a i)
  itb : ItB w wr ib b (nx b j)
  ne : ∀ x ∈ itBlk ia, x ∉ itBlk ib
  p : Blk wr pb 39 (cellsO a[i]?)
  q : Blk wr qb 39 (cellsO b[j]?)
  pq : pb ≠ qb
  pB : w.heap.size ≤ pb
  qB : w.heap.size ≤ qb
  out : Ow encTn 51 wr w.heap.size vo acc
  hi : i ≤ a.length
  hj : j ≤ b.length
section
variable {w wr w1 : World} {a b : PL} {ia ib : Value} {pb qb i j : Nat} {vo : Value} {acc : List Tn}
theorem DS.upd0 (h : DS w wr a b ia ib pb qb i j vo acc) (hu : Upd [] wr w1) : DS w w1 a b ia ib pb qb i j vo acc :=
  ⟨h.u.trans hu, h.ita.upd0 hu, h.itb.upd0 hu, h.ne, h.p.upd hu (by simp), h.q.upd hu (by simp), h.pq, h.pB, h.qB, h.out.upd0 hu, h.hi, h.hj⟩
/-- The first one's next is put into its box. -/
theorem DS.advA (h : DS w wr a b ia ib pb qb i j vo acc) (hi : i < a.length) (h1 : ItB w w1 ia a (nx a (i + 1))) (hu : Upd (itBlk ia) wr w1) (x y : Int) (hx : ((a[i + 1]?).map (·.1)).getD 0 = x) (hy : ((a[i + 1]?).map (·.2)).getD 0 = y) :
    DS w ((w1.setCell ⟨pb, 0, none⟩ (.int .i64 x)).setCell ⟨pb, 1, none⟩ (.int .i64 y)) a b ia ib pb qb (i + 1) j vo acc := by
  subst hx hy
  have ap : ∀ {z : Nat} {t : TypeId} {cs : Array Value}, Blk wr z t cs → t ≠ 108 → Blk w1 z t cs := fun hb ht => hb.upd hu (fun hm => by obtain ⟨cs, hc⟩ := h.ita.blk _ hm; exact Blk.ne_ hb hc ht rfl)
  have hp := ap h.p (by decide)
  have hq := ap h.q (by decide)
  have hb := h.itb.off' (fun x hx hm => h.ne x hm hx) hu
  have ho := h.out.upd hu (fun z hz hm => by obtain ⟨cs, hc⟩ := h.ita.blk _ hm; exact own_type h.out hc (by decide) hz)
  have hw : Upd [pb] w1 ((w1.setCell ⟨pb, 0, none⟩ (.int .i64 (((a[i + 1]?).map (·.1)).getD 0))).setCell ⟨pb, 1, none⟩ (.int .i64 (((a[i + 1]?).map (·.2)).getD 0))) := ((Upd.refl [pb] w1).setCell (.inl (by simp)) _).setCell (.inl (by simp)) _
  exact ⟨(h.u.trans' hu (fun x hx => .inr (h.ita.new x hx))).trans' hw (fun x hx => .inr (by simp at hx; subst hx; exact h.pB)), h1.off hp (by decide) hw, hb.off hp (by decide) hw, h.ne, (hp.set_eq rfl).set_eq rfl, hq.upd hw (by simpa using h.pq.symm), h.pq, h.pB, h.qB, ho.upd hw (fun z hz hm => own_type ho hp (by decide) (by rw [hz]; simpa using hm)), hi, h.hj⟩
theorem DS.advB (h : DS w wr a b ia ib pb qb i j vo acc) (hj : j < b.length) (h1 : ItB w w1 ib b (nx b (j + 1))) (hu : Upd (itBlk ib) wr w1) (x y : Int) (hx : ((b[j + 1]?).map (·.1)).getD 0 = x) (hy : ((b[j + 1]?).map (·.2)).getD 0 = y) :
    DS w ((w1.setCell ⟨qb, 0, none⟩ (.int .i64 x)).setCell ⟨qb, 1, none⟩ (.int .i64 y)) a b ia ib pb qb i (j + 1) vo acc := by
  subst hx hy
  have ap : ∀ {z : Nat} {t : TypeId} {cs : Array Value}, Blk wr z t cs → t ≠ 108 → Blk w1 z t cs := fun hb ht => hb.upd hu (fun hm => by obtain ⟨cs, hc⟩ := h.itb.blk _ hm; exact Blk.ne_ hb hc ht rfl)
  have hp := ap h.p (by decide)
  have hq := ap h.q (by decide)
  have ha := h.ita.off' (fun x hx hm => h.ne x hx hm) hu
  have ho := h.out.upd hu (fun z hz hm => by obtain ⟨cs, hc⟩ := h.itb.blk _ hm; exact own_type h.out hc (by decide) hz)
  have hw : Upd [qb] w1 ((w1.setCell ⟨qb, 0, none⟩ (.int .i64 (((b[j + 1]?).map (·.1)).getD 0))).setCell ⟨qb, 1, none⟩ (.int .i64 (((b[j + 1]?).map (·.2)).getD 0))) := ((Upd.refl [qb] w1).setCell (.inl (by simp)) _).setCell (.inl (by simp)) _
  exact ⟨(h.u.trans' hu (fun x hx => .inr (h.itb.new x hx))).trans' hw (fun x hx => .inr (by simp at hx; subst hx; exact h.qB)), ha.off hq (by decide) hw, h1.off hq (by decide) hw, h.ne, hp.upd hw (by simpa using h.pq), (hq.set_eq rfl).set_eq rfl, h.pq, h.pB, h.qB, ho.upd hw (fun z hz hm => own_type ho hq (by decide) (by rw [hz]; simpa using hm)), h.hi, hj⟩
/-- One more is told. -/
theorem DS.push {vo' : Value} {t : Tn} (h : DS w wr a b ia ib pb qb i j vo acc) (ho : Ow encTn 51 w1 w.heap.size vo' (acc ++ [t])) (hu : Upd vo.ownBlock.toList wr w1) : DS w w1 a b ia ib pb qb i j vo' (acc ++ [t]) := by
  have ap : ∀ {z : Nat} {t : TypeId} {cs : Array Value}, Blk wr z t cs → t ≠ 51 → z ∉ vo.ownBlock.toList := fun hb ht hm => own_type h.out hb ht (by simpa using hm)
  exact ⟨h.u.trans' hu (fun x hx => .inr (own_lt h.out (by simpa using hx)).1), h.ita.off' (fun x hx => by obtain ⟨cs, hc⟩ := h.ita.blk x hx; exact ap hc (by decide)) hu, h.itb.off' (fun x hx => by obtain ⟨cs, hc⟩ := h.itb.blk x hx; exact ap hc (by decide)) hu, h.ne, h.p.upd hu (ap h.p (by decide)), h.q.upd hu (ap h.q (by decide)), h.pq, h.pB, h.qB, ho, h.hi, h.hj⟩
end
def itAt (w : World) (it : Value) : Nat := match it with
  | .pointer (some a) => match w.cell? ⟨a.block, 1, none⟩ with
    | some (.int _ n) => n.toNat
    | _ => 0
  | _ => 0
theorem ItB.at_ {w0 w : World} {it : Value} {r : PL} {i : Nat} (h : ItB w0 w it r (nx r i)) (hi : i ≤ r.length) : r.length - itAt w it + (if (r[i]?).isSome then 1 else 0) = r.length - i := by
  rcases h with ⟨rfl, rfl⟩ | ⟨B, k, sb, rfl, h2, h3, h4⟩
  · simp
  · have e : itAt w (.pointer (some ⟨k, 0, none⟩)) = nx r i := by
      show (match w.cell? ⟨k, 1, none⟩ with | some (.int _ n) => n.toNat | _ => 0) = nx r i
      rw [show w.cell? ⟨k, 1, none⟩ = some (.int .i64 (nx r i : Nat)) from h4.cell 1]
      simp
    rw [e]
    unfold nx
    by_cases hl : i < r.length
    · rw [if_pos hl, if_pos (by rw [List.getElem?_eq_getElem hl]; rfl)]
      omega
    · rw [if_neg hl, if_neg (by rw [List.getElem?_eq_none (by omega)]; simp)]
      omega
theorem less4 (A B A' B' x y x' y' : Nat) (h1 : A = x) (h2 : B = y) (h3 : A' = x') (h4 : B' = y') (h : x + y < x' + y') : A + B < A' + B' := by omega
def boolOf : Value → Bool
  | .bool b => b
  | _ => false
def DiffPost (a b : PL) (w : World) (e : Ending) (w' : World) : Prop := ∃ v, e = .returned v ∧ Ow encTn 51 w' w.heap.size v (diffL a b) ∧ Upd [] w w'
set_option maxRecDepth 100000 in
set_option maxHeartbeats 8000000 in
theorem s_diff (v u : Value) (a b : PL) (w : World) (hv : SnapV w v a) (hu : SnapV w u b) :
    Calls Tryd.prog 18 #[v, u] w fun e w' => DiffPost a b w e w' := by
  have HV := Lib.hid hv
  have HU := Lib.hid hu
  obtain ⟨av, hav⟩ : ∃ x, v = .pointer x := by rcases hv with ⟨h, _⟩ | ⟨_, _, h, _⟩ <;> exact ⟨_, h⟩
  obtain ⟨au, hau⟩ : ∃ x, u = .pointer x := by rcases hu with ⟨h, _⟩ | ⟨_, _, h, _⟩ <;> exact ⟨_, h⟩
  subst hav hau
  clear hv hu
  have HA := Lib.hid HV.out.srt
  have HB := Lib.hid HU.out.srt
  go_enter Tryd.func18, Tryd.ntmps18
  go_wp2_with fail
  refine (iter_any w _ a w HV.out (.refl _ _)).mono ?_
  rintro e w1 ⟨ia, rfl, i1, n1, u1⟩
  obtain ⟨pa, hpa⟩ : ∃ x, ia = .pointer x := by rcases i1 with ⟨h, _⟩ | ⟨_, _, _, h, _⟩ <;> exact ⟨_, h⟩
  have I1 := Lib.hid i1
  have N1 := Lib.hid n1
  have U1 := Lib.hid u1
  subst hpa
  clear i1 n1 u1
  go_wp2_with fail
  refine (iter_any w _ b w1 HU.out U1.out).mono ?_
  rintro e w2 ⟨ib, rfl, i2, n2, u2⟩
  obtain ⟨pb', hpb⟩ : ∃ x, ib = .pointer x := by rcases i2 with ⟨h, _⟩ | ⟨_, _, _, h, _⟩ <;> exact ⟨_, h⟩
  have I2 := Lib.hid i2
  have U2 := Lib.hid (U1.out.trans u2)
  have J1 := Lib.hid (I1.out.upd0 u2)
  have NE := Lib.hid (fun x hx hx' => by have := (N1.out x hx).2; have := (n2 x hx').1; omega : ∀ x ∈ itBlk (.pointer pa), x ∉ itBlk ib)
  subst hpb
  clear i2 n2 u2 I1 N1
  go_wp2_with fail
  refine (next_any w (.pointer pa) a 0 w2 J1.out U2.out (Nat.zero_le _)).mono ?_
  rintro e w3 ⟨rfl, j1, u3⟩
  have K1 := Lib.hid j1
  have K2 : Hid (ItB w w3 (.pointer pb') b 0) := Lib.hid (I2.out.off' (fun x hx hm => NE.out x hm hx) u3)
  have U3 : Hid (Upd [] w w3) := Lib.hid (U2.out.trans' u3 (fun x hx => .inr (J1.out.new x hx)))
  clear j1 u3 J1 I2 U2
  unfold toldP
  obtain ⟨x1, hx1⟩ : ∃ x, ((a[0]?).map (·.1)).getD 0 = x := ⟨_, rfl⟩
  obtain ⟨y1, hy1⟩ : ∃ x, ((a[0]?).map (·.2)).getD 0 = x := ⟨_, rfl⟩
  obtain ⟨b1, hb1⟩ : ∃ x, (a[0]?).isSome = x := ⟨_, rfl⟩
  rw [hx1, hy1, hb1]
  have P1 : Hid (Blk (w3.alloc (.cells #[.int .i64 x1, .int .i64 y1] 39)) w3.heap.size 39 (cellsO a[0]?)) := Lib.hid (by unfold cellsO; rw [hx1, hy1]; exact Blk.new w3 _ _)
  have L1 := Lib.hid (K1.out.upd0 ((Upd.refl [] w3).alloc (.cells #[.int .i64 x1, .int .i64 y1] 39)))
  have L2 := Lib.hid (K2.out.upd0 ((Upd.refl [] w3).alloc (.cells #[.int .i64 x1, .int .i64 y1] 39)))
  have U4 := Lib.hid (U3.out.alloc (.cells #[.int .i64 x1, .int .i64 y1] 39))
  obtain ⟨pb, hpb⟩ : ∃ x, w3.heap.size = x := ⟨_, rfl⟩
  have PB : Hid (w.heap.size ≤ pb) := Lib.hid (by rw [← hpb]; exact U3.out.size)
  have HB1 := Lib.hid hb1
  clear hx1 hy1 K1 K2 hb1
  go_wp2_with fail
  generalize (w3.alloc (.cells #[.int .i64 x1, .int .i64 y1] 39)) = w4 at *
  try rw [hpb] at P1
  clear hpb U3
  refine (next_any w (.pointer pb') b 0 w4 L2.out U4.out (Nat.zero_le _)).mono ?_
  rintro e w5 ⟨rfl, j2, u5⟩
  have M2 := Lib.hid j2
  have M1 : Hid (ItB w w5 (.pointer pa) a (nx a 0)) := Lib.hid (L1.out.off' (fun x hx hm => NE.out x hx hm) u5)
  have P2 : Hid (Blk w5 pb 39 (cellsO a[0]?)) := Lib.hid (P1.out.upd u5 (fun hm => by obtain ⟨cs, hc⟩ := L2.out.blk _ hm; exact Blk.ne_ P1.out hc (by decide) rfl))
  have U5 : Hid (Upd [] w w5) := Lib.hid (U4.out.trans' u5 (fun x hx => .inr (L2.out.new x hx)))
  have PL' : Hid (pb < w5.heap.size) := Lib.hid P2.out.lt
  clear j2 u5 L1 L2 U4 P1
  unfold toldP
  obtain ⟨x2, hx2⟩ : ∃ x, ((b[0]?).map (·.1)).getD 0 = x := ⟨_, rfl⟩
  obtain ⟨y2, hy2⟩ : ∃ x, ((b[0]?).map (·.2)).getD 0 = x := ⟨_, rfl⟩
  obtain ⟨b2, hb2⟩ : ∃ x, (b[0]?).isSome = x := ⟨_, rfl⟩
  rw [hx2, hy2, hb2]
  obtain ⟨qb, hqb⟩ : ∃ x, w5.heap.size = x := ⟨_, rfl⟩
  have D0 : Hid (DS w (w5.alloc (.cells #[.int .i64 x2, .int .i64 y2] 39)) a b (.pointer pa) (.pointer pb') pb qb 0 0 (.slice none 0 0) []) := Lib.hid
    ⟨U5.out.alloc _, M1.out.upd0 ((Upd.refl [] w5).alloc _), M2.out.upd0 ((Upd.refl [] w5).alloc _), NE.out, P2.out.alloc _, by rw [← hqb]; unfold cellsO; rw [hx2, hy2]; exact Blk.new w5 _ _, by have := PL'.out; omega, PB.out, by rw [← hqb]; exact U5.out.size, Ow.nil _ _ _ _, Nat.zero_le _, Nat.zero_le _⟩
  have HB2 := Lib.hid hb2
  have HQ := Lib.hid hqb
  clear hx2 hy2 hb2 M1 M2 P2 U5 PL' PB
  go_wp2_with fail
  try rw [hqb]
  generalize (w5.alloc (.cells #[.int .i64 x2, .int .i64 y2] 39)) = w6 at *
  clear hqb HQ
  go_loopw [5, 9, 11, 55, 81] (fun v v9 v11 s t wr => ∃ (i j : Nat) (acc : List Tn) (A : Option Addr) (N c : Nat) (f1 f2 : Bool), v = .slice A N c ∧ v9 = .bool f1 ∧ v11 = .bool f2 ∧ Hid ((a[i]?).isSome = f1 ∧ (b[j]?).isSome = f2) ∧ Hid (DS w wr a b (.pointer pa) (.pointer pb') pb qb i j (.slice A N c) acc) ∧ Hid (acc.length = N ∧ acc ++ diffL (a.drop i) (b.drop j) = diffL a b)) (fun _ v9 v11 _ _ wr => (a.length - itAt wr (.pointer pa) + (if boolOf v9 then 1 else 0)) + (b.length - itAt wr (.pointer pb') + (if boolOf v11 then 1 else 0)))
  case atStart => exact ⟨0, 0, [], none, 0, 0, b1, b2, rfl, rfl, rfl, Lib.hid ⟨HB1.out, HB2.out⟩, D0, Lib.hid ⟨rfl, rfl⟩⟩
  case round =>
    obtain ⟨i, j, acc, A, N, c, f1, f2, rfl, rfl, rfl, HF, D, HAC⟩ := hrel
    rename World => wr
    clear D0 HB1 HB2
    have hN2 : N ≤ 2000 := by
      have h1 := HAC.out.1
      have h2 := congrArg List.length HAC.out.2
      rw [List.length_append] at h2
      have h3 := diff_len a b
      have h4 := HA.out.2
      have h5 := HB.out.2
      omega
    obtain ⟨o1, ho1⟩ : ∃ o, a[i]? = o := ⟨_, rfl⟩
    obtain ⟨o2, ho2⟩ : ∃ o, b[j]? = o := ⟨_, rfl⟩
    have g1 := HF.out.1
    have g2 := HF.out.2
    rw [ho1] at g1
    rw [ho2] at g2
    subst g1 g2
    cases o1 with
    | none =>
      cases o2 with
      | none =>
        have E : Hid (acc = diffL a b) := Lib.hid (by have := HAC.out.2; rwa [drop_none ho1, drop_none ho2, diff_nil, List.append_nil] at this)
        go_wp2_with fail
        go_ret
        exact ⟨_, rfl, by rw [← E.out]; exact D.out.out, D.out.u⟩
      | some q =>
        have bq0 : wr.cell? ⟨qb, 0, none⟩ = some (.int .i64 q.1) := by have := D.out.q; rw [ho2] at this; exact this.cell 0
        have bq1 : wr.cell? ⟨qb, 1, none⟩ = some (.int .i64 q.2) := by have := D.out.q; rw [ho2] at this; exact this.cell 1
        have HD : Hid (diffL (a.drop i) (b.drop j) = added q :: diffL (a.drop i) (b.drop (j + 1))) := Lib.hid (by rw [drop_none ho1, drop_at ho2, diff_right])
        have O1 := Lib.hid ho1
        have O2 := Lib.hid ho2
        clear ho1 ho2
        have bz0 : (wr.alloc (.cells #[.int .i64 1, .int .i64 q.1, .int .i64 (-1), .int .i64 q.2] 51)).heap.size = wr.heap.size + 1 := by simp
        have DA := Lib.hid (D.out.upd0 ((Upd.refl [] wr).alloc (.cells #[.int .i64 1, .int .i64 q.1, .int .i64 (-1), .int .i64 q.2] 51)))
        have OA : Hid ((wr.alloc (.cells #[.int .i64 1, .int .i64 q.1, .int .i64 (-1), .int .i64 q.2] 51)).ownsRow w.heap.size 51 4 (.slice A N c) N (flat encTn acc)) := Lib.hid (by have := DA.out.out; unfold Ow at this; rw [HAC.out.1] at this; exact this)
        have hsz : w.heap.size ≤ (wr.alloc (.cells #[.int .i64 1, .int .i64 q.1, .int .i64 (-1), .int .i64 q.2] 51)).heap.size := DA.out.u.size
        clear bz0
        go_wp2_with (at_builtin; refine stopped ?_)
        refine Lib.hid ?_
        refine wpList_app _ (by rfl) (.tmp 91) (.tmp 97) _ (by rfl) elem_tn (.slice A N c) _ (by rfl) (by rfl) OA.out (.of_blk (Blk.new _ _ _) (m := 1) 1 rfl) (by intro u hu; simp at hu; rcases hu with rfl | rfl | rfl | rfl <;> rfl) (by simp only [maxLen]; omega) (by omega) hsz ?_
        intro v7 w7 o7 u7 b7
        have O7 : Hid (Ow encTn 51 w7 w.heap.size v7 (acc ++ [added q])) := Lib.hid (by unfold Ow; rw [List.length_append, HAC.out.1, flat_append, flat_one_]; exact o7)
        have D7 := Lib.hid (DA.out.push O7.out u7)
        obtain ⟨A7, c7, rfl, _, _⟩ := own_slice o7
        have HJ : Hid (j < b.length) := Lib.hid (List.getElem?_eq_some_iff.1 O2.out).1
        have HNX : Hid (nx b j = j + 1) := Lib.hid (by unfold nx; rw [if_pos HJ.out])
        clear o7 u7 b7 bq0 bq1 OA hsz DA
        go_wp2_with fail
        refine (next_any w (.pointer pb') b (j + 1) w7 (by have := D7.out.itb; rwa [HNX.out] at this) D7.out.u HJ.out).mono ?_
        rintro e w8 ⟨rfl, j8, u8⟩
        unfold toldP
        obtain ⟨x2, hx2⟩ : ∃ x, ((b[j + 1]?).map (·.1)).getD 0 = x := ⟨_, rfl⟩
        obtain ⟨y2, hy2⟩ : ∃ x, ((b[j + 1]?).map (·.2)).getD 0 = x := ⟨_, rfl⟩
        obtain ⟨b2, hb2⟩ : ∃ x, (b[j + 1]?).isSome = x := ⟨_, rfl⟩
        rw [hx2, hy2, hb2]
        have D9 := Lib.hid (D7.out.advB HJ.out j8 u8 x2 y2 hx2 hy2)
        have Q8 : Hid (Blk w8 qb 39 (cellsO b[j]?)) := Lib.hid (D7.out.q.upd u8 (fun hm => by obtain ⟨cs, hc⟩ := D7.out.itb.blk _ hm; exact Blk.ne_ D7.out.q hc (by decide) rfl))
        have f0 : w8.cell? ⟨qb, 0, none⟩ = some (.int .i64 q.1) := by have := Q8.out; rw [O2.out] at this; exact this.cell 0
        have f1 : w8.cell? ⟨qb, 1, none⟩ = some (.int .i64 q.2) := by have := Q8.out; rw [O2.out] at this; exact this.cell 1
        have fz : ∀ k, w8.frozen? ⟨qb, k, none⟩ = false := fun k => Q8.out.frozen k
        have fl : qb < w8.heap.size := Q8.out.lt
        have HB2' := Lib.hid hb2
        have MEA : Hid (a.length - itAt wr (.pointer pa) + (if (a[i]?).isSome then 1 else 0) = a.length - i ∧ b.length - itAt wr (.pointer pb') + (if (b[j]?).isSome then 1 else 0) = b.length - j) := Lib.hid ⟨D.out.ita.at_ D.out.hi, D.out.itb.at_ D.out.hj⟩
        have MEB := Lib.hid (And.intro (D9.out.ita.at_ D9.out.hi) (D9.out.itb.at_ D9.out.hj))
        have HAC2 : Hid ((acc ++ [added q]).length = N + 1 ∧ (acc ++ [added q]) ++ diffL (a.drop i) (b.drop (j + 1)) = diffL a b) := Lib.hid ⟨by rw [List.length_append, HAC.out.1]; rfl, by rw [← HAC.out.2, HD.out]; simp⟩
        clear j8 u8 hx2 hy2 hb2 Q8 D7 O7
        go_wp2_with fail
        clear f0 f1 fz fl
        generalize ((w8.setCell ⟨qb, 0, none⟩ (.int .i64 x2)).setCell ⟨qb, 1, none⟩ (.int .i64 y2)) = w9 at *
        go_roundw
        case rel => exact ⟨i, j + 1, acc ++ [added q], A7, N + 1, c7, false, b2, rfl, rfl, rfl, Lib.hid ⟨by rw [O1.out]; rfl, HB2'.out⟩, D9, HAC2⟩
        case measure =>
          have m1 := MEA.out
          have m2 := MEB.out
          rw [O1.out, O2.out] at m1
          rw [O1.out, HB2'.out] at m2
          have hj := HJ.out
          exact less4 _ _ _ _ _ _ _ _ m2.1 m2.2 m1.1 m1.2 (by omega)
    | some p =>
      have bp0 : wr.cell? ⟨pb, 0, none⟩ = some (.int .i64 p.1) := by have := D.out.p; rw [ho1] at this; exact this.cell 0
      have bp1 : wr.cell? ⟨pb, 1, none⟩ = some (.int .i64 p.2) := by have := D.out.p; rw [ho1] at this; exact this.cell 1
      cases o2 with
      | none =>
        have HD : Hid (diffL (a.drop i) (b.drop j) = gone p :: diffL (a.drop (i + 1)) (b.drop j)) := Lib.hid (by rw [drop_at ho1, drop_none ho2, diff_left])
        have O1 := Lib.hid ho1
        have O2 := Lib.hid ho2
        clear ho1 ho2
        have bz0 : (wr.alloc (.cells #[.int .i64 2, .int .i64 p.1, .int .i64 p.2, .int .i64 (-1)] 51)).heap.size = wr.heap.size + 1 := by simp
        have DA := Lib.hid (D.out.upd0 ((Upd.refl [] wr).alloc (.cells #[.int .i64 2, .int .i64 p.1, .int .i64 p.2, .int .i64 (-1)] 51)))
        have OA : Hid ((wr.alloc (.cells #[.int .i64 2, .int .i64 p.1, .int .i64 p.2, .int .i64 (-1)] 51)).ownsRow w.heap.size 51 4 (.slice A N c) N (flat encTn acc)) := Lib.hid (by have := DA.out.out; unfold Ow at this; rw [HAC.out.1] at this; exact this)
        have hsz : w.heap.size ≤ (wr.alloc (.cells #[.int .i64 2, .int .i64 p.1, .int .i64 p.2, .int .i64 (-1)] 51)).heap.size := DA.out.u.size
        clear bz0
        go_wp2_with (at_builtin; refine stopped ?_)
        refine Lib.hid ?_
        refine wpList_app _ (by rfl) (.tmp 68) (.tmp 74) _ (by rfl) elem_tn (.slice A N c) _ (by rfl) (by rfl) OA.out (.of_blk (Blk.new _ _ _) (m := 1) 1 rfl) (by intro u hu; simp at hu; rcases hu with rfl | rfl | rfl | rfl <;> rfl) (by simp only [maxLen]; omega) (by omega) hsz ?_
        intro v7 w7 o7 u7 b7
        have O7 : Hid (Ow encTn 51 w7 w.heap.size v7 (acc ++ [gone p])) := Lib.hid (by unfold Ow; rw [List.length_append, HAC.out.1, flat_append, flat_one_]; exact o7)
        have D7 := Lib.hid (DA.out.push O7.out u7)
        obtain ⟨A7, c7, rfl, _, _⟩ := own_slice o7
        have HJ : Hid (i < a.length) := Lib.hid (List.getElem?_eq_some_iff.1 O1.out).1
        have HNX : Hid (nx a i = i + 1) := Lib.hid (by unfold nx; rw [if_pos HJ.out])
        clear o7 u7 b7 bp0 bp1 OA hsz DA
        go_wp2_with fail
        refine (next_any w (.pointer pa) a (i + 1) w7 (by have := D7.out.ita; rwa [HNX.out] at this) D7.out.u HJ.out).mono ?_
        rintro e w8 ⟨rfl, j8, u8⟩
        unfold toldP
        obtain ⟨x2, hx2⟩ : ∃ x, ((a[i + 1]?).map (·.1)).getD 0 = x := ⟨_, rfl⟩
        obtain ⟨y2, hy2⟩ : ∃ x, ((a[i + 1]?).map (·.2)).getD 0 = x := ⟨_, rfl⟩
        obtain ⟨b2, hb2⟩ : ∃ x, (a[i + 1]?).isSome = x := ⟨_, rfl⟩
        rw [hx2, hy2, hb2]
        have D9 := Lib.hid (D7.out.advA HJ.out j8 u8 x2 y2 hx2 hy2)
        have Q8 : Hid (Blk w8 pb 39 (cellsO a[i]?)) := Lib.hid (D7.out.p.upd u8 (fun hm => by obtain ⟨cs, hc⟩ := D7.out.ita.blk _ hm; exact Blk.ne_ D7.out.p hc (by decide) rfl))
        have f0 : w8.cell? ⟨pb, 0, none⟩ = some (.int .i64 p.1) := by have := Q8.out; rw [O1.out] at this; exact this.cell 0
        have f1 : w8.cell? ⟨pb, 1, none⟩ = some (.int .i64 p.2) := by have := Q8.out; rw [O1.out] at this; exact this.cell 1
        have fz : ∀ k, w8.frozen? ⟨pb, k, none⟩ = false := fun k => Q8.out.frozen k
        have fl : pb < w8.heap.size := Q8.out.lt
        have HB2' := Lib.hid hb2
        have MEA : Hid (a.length - itAt wr (.pointer pa) + (if (a[i]?).isSome then 1 else 0) = a.length - i ∧ b.length - itAt wr (.pointer pb') + (if (b[j]?).isSome then 1 else 0) = b.length - j) := Lib.hid ⟨D.out.ita.at_ D.out.hi, D.out.itb.at_ D.out.hj⟩
        have MEB := Lib.hid (And.intro (D9.out.ita.at_ D9.out.hi) (D9.out.itb.at_ D9.out.hj))
        have HAC2 : Hid ((acc ++ [gone p]).length = N + 1 ∧ (acc ++ [gone p]) ++ diffL (a.drop (i + 1)) (b.drop j) = diffL a b) := Lib.hid ⟨by rw [List.length_append, HAC.out.1]; rfl, by rw [← HAC.out.2, HD.out]; simp⟩
        clear j8 u8 hx2 hy2 hb2 Q8 D7 O7
        go_wp2_with fail
        clear f0 f1 fz fl
        generalize ((w8.setCell ⟨pb, 0, none⟩ (.int .i64 x2)).setCell ⟨pb, 1, none⟩ (.int .i64 y2)) = w9 at *
        go_roundw
        case rel => exact ⟨i + 1, j, acc ++ [gone p], A7, N + 1, c7, b2, false, rfl, rfl, rfl, Lib.hid ⟨HB2'.out, by rw [O2.out]; rfl⟩, D9, HAC2⟩
        case measure =>
          have m1 := MEA.out
          have m2 := MEB.out
          rw [O1.out, O2.out] at m1
          rw [HB2'.out, O2.out] at m2
          have hj := HJ.out
          exact less4 _ _ _ _ _ _ _ _ m2.1 m2.2 m1.1 m1.2 (by omega)
      | some q =>
        have bq0 : wr.cell? ⟨qb, 0, none⟩ = some (.int .i64 q.1) := by have := D.out.q; rw [ho2] at this; exact this.cell 0
        have bq1 : wr.cell? ⟨qb, 1, none⟩ = some (.int .i64 q.2) := by have := D.out.q; rw [ho2] at this; exact this.cell 1
        have O1 := Lib.hid ho1
        have O2 := Lib.hid ho2
        have DD := Lib.hid (show diffL (a.drop i) (b.drop j) = diffL (p :: a.drop (i + 1)) (q :: b.drop (j + 1)) by rw [drop_at ho1, drop_at ho2])
        have D1 := Lib.hid (drop_at ho1)
        have D2 := Lib.hid (drop_at ho2)
        clear ho1 ho2
        by_cases h1 : p.1 < q.1
        · have d1 : decide (p.1 < q.1) = true := by simpa using h1
          have HD : Hid (diffL (a.drop i) (b.drop j) = gone p :: diffL (a.drop (i + 1)) (b.drop j)) := Lib.hid (by rw [DD.out, D2.out, diff_lt h1])
          clear h1
          have bz0 : (wr.alloc (.cells #[.int .i64 2, .int .i64 p.1, .int .i64 p.2, .int .i64 (-1)] 51)).heap.size = wr.heap.size + 1 := by simp
          have DA := Lib.hid (D.out.upd0 ((Upd.refl [] wr).alloc (.cells #[.int .i64 2, .int .i64 p.1, .int .i64 p.2, .int .i64 (-1)] 51)))
          have OA : Hid ((wr.alloc (.cells #[.int .i64 2, .int .i64 p.1, .int .i64 p.2, .int .i64 (-1)] 51)).ownsRow w.heap.size 51 4 (.slice A N c) N (flat encTn acc)) := Lib.hid (by have := DA.out.out; unfold Ow at this; rw [HAC.out.1] at this; exact this)
          have hsz : w.heap.size ≤ (wr.alloc (.cells #[.int .i64 2, .int .i64 p.1, .int .i64 p.2, .int .i64 (-1)] 51)).heap.size := DA.out.u.size
          clear bz0
          go_wp2_with (at_builtin; refine stopped ?_)
          refine Lib.hid ?_
          refine wpList_app _ (by rfl) (.tmp 68) (.tmp 74) _ (by rfl) elem_tn (.slice A N c) _ (by rfl) (by rfl) OA.out (.of_blk (Blk.new _ _ _) (m := 1) 1 rfl) (by intro u hu; simp at hu; rcases hu with rfl | rfl | rfl | rfl <;> rfl) (by simp only [maxLen]; omega) (by omega) hsz ?_
          intro v7 w7 o7 u7 b7
          have O7 : Hid (Ow encTn 51 w7 w.heap.size v7 (acc ++ [gone p])) := Lib.hid (by unfold Ow; rw [List.length_append, HAC.out.1, flat_append, flat_one_]; exact o7)
          have D7 := Lib.hid (DA.out.push O7.out u7)
          obtain ⟨A7, c7, rfl, _, _⟩ := own_slice o7
          have HJ : Hid (i < a.length) := Lib.hid (List.getElem?_eq_some_iff.1 O1.out).1
          have HNX : Hid (nx a i = i + 1) := Lib.hid (by unfold nx; rw [if_pos HJ.out])
          clear o7 u7 b7 bp0 bp1 OA hsz DA
          go_wp2_with fail
          refine (next_any w (.pointer pa) a (i + 1) w7 (by have := D7.out.ita; rwa [HNX.out] at this) D7.out.u HJ.out).mono ?_
          rintro e w8 ⟨rfl, j8, u8⟩
          unfold toldP
          obtain ⟨x2, hx2⟩ : ∃ x, ((a[i + 1]?).map (·.1)).getD 0 = x := ⟨_, rfl⟩
          obtain ⟨y2, hy2⟩ : ∃ x, ((a[i + 1]?).map (·.2)).getD 0 = x := ⟨_, rfl⟩
          obtain ⟨b2, hb2⟩ : ∃ x, (a[i + 1]?).isSome = x := ⟨_, rfl⟩
          rw [hx2, hy2, hb2]
          have D9 := Lib.hid (D7.out.advA HJ.out j8 u8 x2 y2 hx2 hy2)
          have Q8 : Hid (Blk w8 pb 39 (cellsO a[i]?)) := Lib.hid (D7.out.p.upd u8 (fun hm => by obtain ⟨cs, hc⟩ := D7.out.ita.blk _ hm; exact Blk.ne_ D7.out.p hc (by decide) rfl))
          have f0 : w8.cell? ⟨pb, 0, none⟩ = some (.int .i64 p.1) := by have := Q8.out; rw [O1.out] at this; exact this.cell 0
          have f1 : w8.cell? ⟨pb, 1, none⟩ = some (.int .i64 p.2) := by have := Q8.out; rw [O1.out] at this; exact this.cell 1
          have fz : ∀ k, w8.frozen? ⟨pb, k, none⟩ = false := fun k => Q8.out.frozen k
          have fl : pb < w8.heap.size := Q8.out.lt
          have HB2' := Lib.hid hb2
          have MEA : Hid (a.length - itAt wr (.pointer pa) + (if (a[i]?).isSome then 1 else 0) = a.length - i ∧ b.length - itAt wr (.pointer pb') + (if (b[j]?).isSome then 1 else 0) = b.length - j) := Lib.hid ⟨D.out.ita.at_ D.out.hi, D.out.itb.at_ D.out.hj⟩
          have MEB := Lib.hid (And.intro (D9.out.ita.at_ D9.out.hi) (D9.out.itb.at_ D9.out.hj))
          have HAC2 : Hid ((acc ++ [gone p]).length = N + 1 ∧ (acc ++ [gone p]) ++ diffL (a.drop (i + 1)) (b.drop j) = diffL a b) := Lib.hid ⟨by rw [List.length_append, HAC.out.1]; rfl, by rw [← HAC.out.2, HD.out]; simp⟩
          clear j8 u8 hx2 hy2 hb2 Q8 D7 O7
          go_wp2_with fail
          clear f0 f1 fz fl
          generalize ((w8.setCell ⟨pb, 0, none⟩ (.int .i64 x2)).setCell ⟨pb, 1, none⟩ (.int .i64 y2)) = w9 at *
          go_roundw
          case rel => exact ⟨i + 1, j, acc ++ [gone p], A7, N + 1, c7, b2, true, rfl, rfl, rfl, Lib.hid ⟨HB2'.out, by rw [O2.out]; rfl⟩, D9, HAC2⟩
          case measure =>
            have m1 := MEA.out
            have m2 := MEB.out
            rw [O1.out, O2.out] at m1
            rw [HB2'.out, O2.out] at m2
            have hj := HJ.out
            exact less4 _ _ _ _ _ _ _ _ m2.1 m2.2 m1.1 m1.2 (by omega)
        · have d1 : decide (p.1 < q.1) = false := by simpa using h1
          by_cases h2 : q.1 < p.1
          · have d2 : decide (q.1 < p.1) = true := by simpa using h2
            have HD : Hid (diffL (a.drop i) (b.drop j) = added q :: diffL (a.drop i) (b.drop (j + 1))) := Lib.hid (by rw [DD.out, D1.out, diff_gt h2])
            clear h1 h2
            have bz0 : (wr.alloc (.cells #[.int .i64 1, .int .i64 q.1, .int .i64 (-1), .int .i64 q.2] 51)).heap.size = wr.heap.size + 1 := by simp
            have DA := Lib.hid (D.out.upd0 ((Upd.refl [] wr).alloc (.cells #[.int .i64 1, .int .i64 q.1, .int .i64 (-1), .int .i64 q.2] 51)))
            have OA : Hid ((wr.alloc (.cells #[.int .i64 1, .int .i64 q.1, .int .i64 (-1), .int .i64 q.2] 51)).ownsRow w.heap.size 51 4 (.slice A N c) N (flat encTn acc)) := Lib.hid (by have := DA.out.out; unfold Ow at this; rw [HAC.out.1] at this; exact this)
            have hsz : w.heap.size ≤ (wr.alloc (.cells #[.int .i64 1, .int .i64 q.1, .int .i64 (-1), .int .i64 q.2] 51)).heap.size := DA.out.u.size
            clear bz0
            go_wp2_with (at_builtin; refine stopped ?_)
            refine Lib.hid ?_
            refine wpList_app _ (by rfl) (.tmp 91) (.tmp 97) _ (by rfl) elem_tn (.slice A N c) _ (by rfl) (by rfl) OA.out (.of_blk (Blk.new _ _ _) (m := 1) 1 rfl) (by intro u hu; simp at hu; rcases hu with rfl | rfl | rfl | rfl <;> rfl) (by simp only [maxLen]; omega) (by omega) hsz ?_
            intro v7 w7 o7 u7 b7
            have O7 : Hid (Ow encTn 51 w7 w.heap.size v7 (acc ++ [added q])) := Lib.hid (by unfold Ow; rw [List.length_append, HAC.out.1, flat_append, flat_one_]; exact o7)
            have D7 := Lib.hid (DA.out.push O7.out u7)
            obtain ⟨A7, c7, rfl, _, _⟩ := own_slice o7
            have HJ : Hid (j < b.length) := Lib.hid (List.getElem?_eq_some_iff.1 O2.out).1
            have HNX : Hid (nx b j = j + 1) := Lib.hid (by unfold nx; rw [if_pos HJ.out])
            clear o7 u7 b7 bq0 bq1 OA hsz DA
            go_wp2_with fail
            refine (next_any w (.pointer pb') b (j + 1) w7 (by have := D7.out.itb; rwa [HNX.out] at this) D7.out.u HJ.out).mono ?_
            rintro e w8 ⟨rfl, j8, u8⟩
            unfold toldP
            obtain ⟨x2, hx2⟩ : ∃ x, ((b[j + 1]?).map (·.1)).getD 0 = x := ⟨_, rfl⟩
            obtain ⟨y2, hy2⟩ : ∃ x, ((b[j + 1]?).map (·.2)).getD 0 = x := ⟨_, rfl⟩
            obtain ⟨b2, hb2⟩ : ∃ x, (b[j + 1]?).isSome = x := ⟨_, rfl⟩
            rw [hx2, hy2, hb2]
            have D9 := Lib.hid (D7.out.advB HJ.out j8 u8 x2 y2 hx2 hy2)
            have Q8 : Hid (Blk w8 qb 39 (cellsO b[j]?)) := Lib.hid (D7.out.q.upd u8 (fun hm => by obtain ⟨cs, hc⟩ := D7.out.itb.blk _ hm; exact Blk.ne_ D7.out.q hc (by decide) rfl))
            have f0 : w8.cell? ⟨qb, 0, none⟩ = some (.int .i64 q.1) := by have := Q8.out; rw [O2.out] at this; exact this.cell 0
            have f1 : w8.cell? ⟨qb, 1, none⟩ = some (.int .i64 q.2) := by have := Q8.out; rw [O2.out] at this; exact this.cell 1
            have fz : ∀ k, w8.frozen? ⟨qb, k, none⟩ = false := fun k => Q8.out.frozen k
            have fl : qb < w8.heap.size := Q8.out.lt
            have HB2' := Lib.hid hb2
            have MEA : Hid (a.length - itAt wr (.pointer pa) + (if (a[i]?).isSome then 1 else 0) = a.length - i ∧ b.length - itAt wr (.pointer pb') + (if (b[j]?).isSome then 1 else 0) = b.length - j) := Lib.hid ⟨D.out.ita.at_ D.out.hi, D.out.itb.at_ D.out.hj⟩
            have MEB := Lib.hid (And.intro (D9.out.ita.at_ D9.out.hi) (D9.out.itb.at_ D9.out.hj))
            have HAC2 : Hid ((acc ++ [added q]).length = N + 1 ∧ (acc ++ [added q]) ++ diffL (a.drop i) (b.drop (j + 1)) = diffL a b) := Lib.hid ⟨by rw [List.length_append, HAC.out.1]; rfl, by rw [← HAC.out.2, HD.out]; simp⟩
            clear j8 u8 hx2 hy2 hb2 Q8 D7 O7
            go_wp2_with fail
            clear f0 f1 fz fl
            generalize ((w8.setCell ⟨qb, 0, none⟩ (.int .i64 x2)).setCell ⟨qb, 1, none⟩ (.int .i64 y2)) = w9 at *
            go_roundw
            case rel => exact ⟨i, j + 1, acc ++ [added q], A7, N + 1, c7, true, b2, rfl, rfl, rfl, Lib.hid ⟨by rw [O1.out]; rfl, HB2'.out⟩, D9, HAC2⟩
            case measure =>
              have m1 := MEA.out
              have m2 := MEB.out
              rw [O1.out, O2.out] at m1
              rw [O1.out, HB2'.out] at m2
              have hj := HJ.out
              exact less4 _ _ _ _ _ _ _ _ m2.1 m2.2 m1.1 m1.2 (by omega)
          · have d2 : decide (q.1 < p.1) = false := by simpa using h2
            have HD : Hid (diffL (a.drop i) (b.drop j) = changed p q ++ diffL (a.drop (i + 1)) (b.drop (j + 1))) := Lib.hid (by rw [DD.out, diff_eq (by omega)])
            clear h1 h2
            by_cases h3 : p.2 = q.2
            · have d3 : (p.2 != q.2) = false := by simpa using h3
              have HAC2 : Hid (acc.length = N ∧ acc ++ diffL (a.drop (i + 1)) (b.drop (j + 1)) = diffL a b) := Lib.hid ⟨HAC.out.1, by rw [← HAC.out.2, HD.out]; unfold changed; rw [if_pos h3]; rfl⟩
              have D7 := D
              go_wp2_with fail
              clear bp0 bp1 bq0 bq1 d3 d2 d1 h3
              -- D7 : the state in wr, c0..c3 as A7 N7 c7 acc7; both go on
              have HI : Hid (i < a.length) := Lib.hid (List.getElem?_eq_some_iff.1 O1.out).1
              have HJ : Hid (j < b.length) := Lib.hid (List.getElem?_eq_some_iff.1 O2.out).1
              have HNA : Hid (nx a i = i + 1) := Lib.hid (by unfold nx; rw [if_pos HI.out])
              have HNB : Hid (nx b j = j + 1) := Lib.hid (by unfold nx; rw [if_pos HJ.out])
              refine (next_any w (.pointer pa) a (i + 1) wr (by have := D7.out.ita; rwa [HNA.out] at this) D7.out.u HI.out).mono ?_
              rintro e w8 ⟨rfl, j8, u8⟩
              unfold toldP
              obtain ⟨x1, hx1⟩ : ∃ x, ((a[i + 1]?).map (·.1)).getD 0 = x := ⟨_, rfl⟩
              obtain ⟨y1, hy1⟩ : ∃ x, ((a[i + 1]?).map (·.2)).getD 0 = x := ⟨_, rfl⟩
              obtain ⟨b1, hb1⟩ : ∃ x, (a[i + 1]?).isSome = x := ⟨_, rfl⟩
              rw [hx1, hy1, hb1]
              have D9 := Lib.hid (D7.out.advA HI.out j8 u8 x1 y1 hx1 hy1)
              have P8 : Hid (Blk w8 pb 39 (cellsO a[i]?)) := Lib.hid (D7.out.p.upd u8 (fun hm => by obtain ⟨cs, hc⟩ := D7.out.ita.blk _ hm; exact Blk.ne_ D7.out.p hc (by decide) rfl))
              have f0 : w8.cell? ⟨pb, 0, none⟩ = some (.int .i64 p.1) := by have := P8.out; rw [O1.out] at this; exact this.cell 0
              have f1 : w8.cell? ⟨pb, 1, none⟩ = some (.int .i64 p.2) := by have := P8.out; rw [O1.out] at this; exact this.cell 1
              have fz : ∀ k, w8.frozen? ⟨pb, k, none⟩ = false := fun k => P8.out.frozen k
              have fl : pb < w8.heap.size := P8.out.lt
              have HB1' := Lib.hid hb1
              clear j8 u8 hx1 hy1 hb1 P8
              go_wp2_with fail
              clear f0 f1 fz fl
              generalize ((w8.setCell ⟨pb, 0, none⟩ (.int .i64 x1)).setCell ⟨pb, 1, none⟩ (.int .i64 y1)) = w9 at *
              refine (next_any w (.pointer pb') b (j + 1) w9 (by have := D9.out.itb; rwa [HNB.out] at this) D9.out.u HJ.out).mono ?_
              rintro e w10 ⟨rfl, j8, u8⟩
              unfold toldP
              obtain ⟨x2, hx2⟩ : ∃ x, ((b[j + 1]?).map (·.1)).getD 0 = x := ⟨_, rfl⟩
              obtain ⟨y2, hy2⟩ : ∃ x, ((b[j + 1]?).map (·.2)).getD 0 = x := ⟨_, rfl⟩
              obtain ⟨b2, hb2⟩ : ∃ x, (b[j + 1]?).isSome = x := ⟨_, rfl⟩
              rw [hx2, hy2, hb2]
              have D11 := Lib.hid (D9.out.advB HJ.out j8 u8 x2 y2 hx2 hy2)
              have Q8 : Hid (Blk w10 qb 39 (cellsO b[j]?)) := Lib.hid (D9.out.q.upd u8 (fun hm => by obtain ⟨cs, hc⟩ := D9.out.itb.blk _ hm; exact Blk.ne_ D9.out.q hc (by decide) rfl))
              have f0 : w10.cell? ⟨qb, 0, none⟩ = some (.int .i64 q.1) := by have := Q8.out; rw [O2.out] at this; exact this.cell 0
              have f1 : w10.cell? ⟨qb, 1, none⟩ = some (.int .i64 q.2) := by have := Q8.out; rw [O2.out] at this; exact this.cell 1
              have fz : ∀ k, w10.frozen? ⟨qb, k, none⟩ = false := fun k => Q8.out.frozen k
              have fl : qb < w10.heap.size := Q8.out.lt
              have HB2' := Lib.hid hb2
              have MEA : Hid (a.length - itAt wr (.pointer pa) + (if (a[i]?).isSome then 1 else 0) = a.length - i ∧ b.length - itAt wr (.pointer pb') + (if (b[j]?).isSome then 1 else 0) = b.length - j) := Lib.hid ⟨D.out.ita.at_ D.out.hi, D.out.itb.at_ D.out.hj⟩
              have MEB := Lib.hid (And.intro (D11.out.ita.at_ D11.out.hi) (D11.out.itb.at_ D11.out.hj))
              clear j8 u8 hx2 hy2 hb2 Q8 D7 D9
              go_wp2_with fail
              clear f0 f1 fz fl
              generalize ((w10.setCell ⟨qb, 0, none⟩ (.int .i64 x2)).setCell ⟨qb, 1, none⟩ (.int .i64 y2)) = w11 at *
              go_roundw
              case rel => exact ⟨i + 1, j + 1, acc, A, N, c, b1, b2, rfl, rfl, rfl, Lib.hid ⟨HB1'.out, HB2'.out⟩, D11, HAC2⟩
              case measure =>
                have m1 := MEA.out
                have m2 := MEB.out
                rw [O1.out, O2.out] at m1
                rw [HB1'.out, HB2'.out] at m2
                have hi := HI.out
                have hj := HJ.out
                exact less4 _ _ _ _ _ _ _ _ m2.1 m2.2 m1.1 m1.2 (by omega)
            · have d3 : (p.2 != q.2) = true := by simpa using h3
              have HCH : Hid (changed p q = [(3, p.1, p.2, q.2)]) := Lib.hid (by unfold changed; rw [if_neg h3])
              have DA := Lib.hid (D.out.upd0 ((Upd.refl [] wr).alloc (.cells #[.int .i64 3, .int .i64 p.1, .int .i64 p.2, .int .i64 q.2] 51)))
              have OA : Hid ((wr.alloc (.cells #[.int .i64 3, .int .i64 p.1, .int .i64 p.2, .int .i64 q.2] 51)).ownsRow w.heap.size 51 4 (.slice A N c) N (flat encTn acc)) := Lib.hid (by have := DA.out.out; unfold Ow at this; rw [HAC.out.1] at this; exact this)
              have hsz : w.heap.size ≤ (wr.alloc (.cells #[.int .i64 3, .int .i64 p.1, .int .i64 p.2, .int .i64 q.2] 51)).heap.size := DA.out.u.size
              go_wp2_with (at_builtin; refine stopped ?_)
              refine Lib.hid ?_
              refine wpList_app _ (by rfl) (.tmp 35) (.tmp 43) _ (by rfl) elem_tn (.slice A N c) _ (by rfl) (by rfl) OA.out (.of_blk (Blk.new _ _ _) (m := 1) 1 rfl) (by intro u hu; simp at hu; rcases hu with rfl | rfl | rfl | rfl <;> rfl) (by simp only [maxLen]; omega) (by omega) hsz ?_
              intro v7 w7 o7 u7 b7
              have O7 : Hid (Ow encTn 51 w7 w.heap.size v7 (acc ++ [(3, p.1, p.2, q.2)])) := Lib.hid (by unfold Ow; rw [List.length_append, HAC.out.1, flat_append, flat_one_]; exact o7)
              have D7 := Lib.hid (DA.out.push O7.out u7)
              obtain ⟨A7, c7, rfl, _, _⟩ := own_slice o7
              have HAC2 : Hid ((acc ++ [(3, p.1, p.2, q.2)]).length = N + 1 ∧ (acc ++ [(3, p.1, p.2, q.2)]) ++ diffL (a.drop (i + 1)) (b.drop (j + 1)) = diffL a b) := Lib.hid ⟨by rw [List.length_append, HAC.out.1]; rfl, by rw [← HAC.out.2, HD.out, HCH.out]; simp⟩
              clear o7 u7 b7 OA hsz DA O7 bp0 bp1 bq0 bq1
              go_wp2_with fail
              -- D7 : the state in w7, c0..c3 as A7 N7 c7 acc7; both go on
              have HI : Hid (i < a.length) := Lib.hid (List.getElem?_eq_some_iff.1 O1.out).1
              have HJ : Hid (j < b.length) := Lib.hid (List.getElem?_eq_some_iff.1 O2.out).1
              have HNA : Hid (nx a i = i + 1) := Lib.hid (by unfold nx; rw [if_pos HI.out])
              have HNB : Hid (nx b j = j + 1) := Lib.hid (by unfold nx; rw [if_pos HJ.out])
              refine (next_any w (.pointer pa) a (i + 1) w7 (by have := D7.out.ita; rwa [HNA.out] at this) D7.out.u HI.out).mono ?_
              rintro e w8 ⟨rfl, j8, u8⟩
              unfold toldP
              obtain ⟨x1, hx1⟩ : ∃ x, ((a[i + 1]?).map (·.1)).getD 0 = x := ⟨_, rfl⟩
              obtain ⟨y1, hy1⟩ : ∃ x, ((a[i + 1]?).map (·.2)).getD 0 = x := ⟨_, rfl⟩
              obtain ⟨b1, hb1⟩ : ∃ x, (a[i + 1]?).isSome = x := ⟨_, rfl⟩
              rw [hx1, hy1, hb1]
              have D9 := Lib.hid (D7.out.advA HI.out j8 u8 x1 y1 hx1 hy1)
              have P8 : Hid (Blk w8 pb 39 (cellsO a[i]?)) := Lib.hid (D7.out.p.upd u8 (fun hm => by obtain ⟨cs, hc⟩ := D7.out.ita.blk _ hm; exact Blk.ne_ D7.out.p hc (by decide) rfl))
              have f0 : w8.cell? ⟨pb, 0, none⟩ = some (.int .i64 p.1) := by have := P8.out; rw [O1.out] at this; exact this.cell 0
              have f1 : w8.cell? ⟨pb, 1, none⟩ = some (.int .i64 p.2) := by have := P8.out; rw [O1.out] at this; exact this.cell 1
              have fz : ∀ k, w8.frozen? ⟨pb, k, none⟩ = false := fun k => P8.out.frozen k
              have fl : pb < w8.heap.size := P8.out.lt
              have HB1' := Lib.hid hb1
              clear j8 u8 hx1 hy1 hb1 P8
              go_wp2_with fail
              clear f0 f1 fz fl
              generalize ((w8.setCell ⟨pb, 0, none⟩ (.int .i64 x1)).setCell ⟨pb, 1, none⟩ (.int .i64 y1)) = w9 at *
              refine (next_any w (.pointer pb') b (j + 1) w9 (by have := D9.out.itb; rwa [HNB.out] at this) D9.out.u HJ.out).mono ?_
              rintro e w10 ⟨rfl, j8, u8⟩
              unfold toldP
              obtain ⟨x2, hx2⟩ : ∃ x, ((b[j + 1]?).map (·.1)).getD 0 = x := ⟨_, rfl⟩
              obtain ⟨y2, hy2⟩ : ∃ x, ((b[j + 1]?).map (·.2)).getD 0 = x := ⟨_, rfl⟩
              obtain ⟨b2, hb2⟩ : ∃ x, (b[j + 1]?).isSome = x := ⟨_, rfl⟩
              rw [hx2, hy2, hb2]
              have D11 := Lib.hid (D9.out.advB HJ.out j8 u8 x2 y2 hx2 hy2)
              have Q8 : Hid (Blk w10 qb 39 (cellsO b[j]?)) := Lib.hid (D9.out.q.upd u8 (fun hm => by obtain ⟨cs, hc⟩ := D9.out.itb.blk _ hm; exact Blk.ne_ D9.out.q hc (by decide) rfl))
              have f0 : w10.cell? ⟨qb, 0, none⟩ = some (.int .i64 q.1) := by have := Q8.out; rw [O2.out] at this; exact this.cell 0
              have f1 : w10.cell? ⟨qb, 1, none⟩ = some (.int .i64 q.2) := by have := Q8.out; rw [O2.out] at this; exact this.cell 1
              have fz : ∀ k, w10.frozen? ⟨qb, k, none⟩ = false := fun k => Q8.out.frozen k
              have fl : qb < w10.heap.size := Q8.out.lt
              have HB2' := Lib.hid hb2
              have MEA : Hid (a.length - itAt wr (.pointer pa) + (if (a[i]?).isSome then 1 else 0) = a.length - i ∧ b.length - itAt wr (.pointer pb') + (if (b[j]?).isSome then 1 else 0) = b.length - j) := Lib.hid ⟨D.out.ita.at_ D.out.hi, D.out.itb.at_ D.out.hj⟩
              have MEB := Lib.hid (And.intro (D11.out.ita.at_ D11.out.hi) (D11.out.itb.at_ D11.out.hj))
              clear j8 u8 hx2 hy2 hb2 Q8 D7 D9
              go_wp2_with fail
              clear f0 f1 fz fl
              generalize ((w10.setCell ⟨qb, 0, none⟩ (.int .i64 x2)).setCell ⟨qb, 1, none⟩ (.int .i64 y2)) = w11 at *
              go_roundw
              case rel => exact ⟨i + 1, j + 1, (acc ++ [(3, p.1, p.2, q.2)]), A7, (N + 1), c7, b1, b2, rfl, rfl, rfl, Lib.hid ⟨HB1'.out, HB2'.out⟩, D11, HAC2⟩
              case measure =>
                have m1 := MEA.out
                have m2 := MEB.out
                rw [O1.out, O2.out] at m1
                rw [HB1'.out, HB2'.out] at m2
                have hi := HI.out
                have hj := HJ.out
                exact less4 _ _ _ _ _ _ _ _ m2.1 m2.2 m1.1 m1.2 (by omega)
end Go.Proofs.YthdjbflbhgbckaaDoor

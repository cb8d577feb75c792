/-
  prog.Right: what is wrong with a transaction, and where.
-/
import Derived.Test.YtfbeaklplefojaaGreatDoorEvB14
import Derived.Test.YtfbeaklplefojaaGreatDoorEvBsWalk
import Derived.Test.YtfbeaklplefojaaGreatDoorEvB9
import Derived.Test.YtfbeaklplefojaaGreatDoorEvB4
set_option linter.unusedVariables false
namespace Go.Proofs.YtfbeaklplefojaaGreatDoor
open Go.RowKit

def rightS (ks : List Int) : Stm → Bool
  | .mk k coll reg ar an br bn body els => rightV k coll reg ar an br bn body.length els.length ks
/-- What the visitor makes of a line. -/
def stepR (ks : List Int) (s : Int × Int) (n d : Nat) (x : Stm) : Bool × (Int × Int) :=
  let r : Int × Int := if 100 < n then (8, n) else if 8 < d then (10, n) else if !rightS ks x then (9, n) else s
  (r.1 == 0, r)
theorem Stms.len {w : World} {B : Nat} {A : Option Addr} {n c : Nat} {l : List Stm} (h : Stms w B (.slice A n c) l) : l.length = n ∧ n ≤ 9223372036854775807 := by
  cases h
  constructor
  · assumption
  · omega
theorem Src.below {w w' : World} {s m : Nat} {x : Value} {news : List Value} (h : Src w s x m news) (hb : Below w.heap.size w w') (hz : w.heap.size ≤ w'.heap.size) : Src w' s x m news := by
  obtain ⟨h1, A, c, rfl, h2⟩ := h
  refine ⟨h1, A, c, rfl, fun j u hj => ?_⟩
  obtain ⟨ad, rfl, hl, hc⟩ := h2 j u hj
  exact ⟨ad, rfl, by omega, (hb.cell (by rw [block_add]; exact hl)).trans hc⟩

theorem UpdP.to_upd {O : Nat → Prop} {w w1 w2 : World} (h : UpdP O w1 w2) (h0 : Upd [] w w1) (hO : ∀ x, O x → w.heap.size ≤ x) : Upd [] w w2 :=
  ⟨h.os.trans h0.os, h.tape.trans h0.tape, h.output.trans h0.output, Nat.le_trans h0.size h.size, fun k hk hn => (h.keep k (Nat.lt_of_lt_of_le hk h0.size) (fun ho => by have := hO k ho; omega)).trans (h0.keep k hk hn)⟩

/-- What Right's visitor keeps: e its box of the error, kb that of the kinds, over a world w0 that it leaves alone. -/
structure RightSt (w0 : World) (e kb : Nat) (A : Option Addr) (n c : Nat) (ks : List Int) (p : Nat) (w : World) (s : Int × Int) : Prop where
  box : ∃ v, Blk w e 34 #[v] ∧ ErrV w v s.1 s.2 ∧ ∀ g, v = .iface 96 (.pointer (some ⟨g, 0, none⟩)) → g ≠ p
  kinds : Blk w kb 22 #[.slice A n c]
  bel : Below w0.heap.size w0 w
  src : Src w0 1 (.slice A n c) n (ks.map (Value.int .i64))
  en : w0.heap.size ≤ e
  kn : w0.heap.size ≤ kb
  ep : e ≠ p
  kp : kb ≠ p
  pl : p < w.heap.size
  pn : w0.heap.size ≤ p

section
variable {w0 : World} {eb kb : Nat} {A : Option Addr} {nn c : Nat} {ks : List Int} {p : Nat} {w w' : World} {s : Int × Int}
theorem RightSt.upd (h : RightSt w0 eb kb A nn c ks p w s) (hu : Upd [p] w w') : RightSt w0 eb kb A nn c ks p w' s := by
  obtain ⟨⟨v, h1, h2, h3⟩, h4, h5, h6, h7, h8, h9, h10, h11, h12⟩ := h
  refine ⟨⟨v, h1.upd hu (by simpa using h9), ?_, h3⟩, h4.upd hu (by simpa using h10), h5.trans (hu.below h5.size (by simpa using h12)), h6, h7, h8, h9, h10, Nat.lt_of_lt_of_le h11 hu.size, h12⟩
  rcases h2 with h | h | ⟨g, e, hb, h⟩
  · exact .inl h
  · exact .inr (.inl h)
  · exact .inr (.inr ⟨g, e, hb.upd hu (by simpa using h3 g e), h⟩)
theorem RightSt.upd0 (h : RightSt w0 eb kb A nn c ks p w s) (hu : Upd [] w w') : RightSt w0 eb kb A nn c ks p w' s := h.upd (hu.mono (by simp))
theorem RightSt.srcOf (h : RightSt w0 eb kb A nn c ks p w s) : Src w 1 (.slice A nn c) nn (ks.map (Value.int .i64)) := h.src.below h.bel h.bel.size
/-- A fault is told. -/
theorem RightSt.fault (h : RightSt w0 eb kb A nn c ks p w s) (H : Nat) (no at_ : Int) (h1 : 1 ≤ no) (h2 : no ≤ 17) (hH : w.heap.size ≤ H) (hu : Upd [eb] w w')
    (hb : ∀ v, Blk w eb 34 #[v] → Blk w' eb 34 #[.iface 96 (.pointer (some ⟨H, 0, none⟩))]) (hf : Blk w' H 98 #[.int .i64 at_, .int .i64 no]) :
    RightSt w0 eb kb A nn c ks p w' (no, at_) ∧ UpdP (fun k => k = eb) w w' := by
  obtain ⟨⟨v, b1, b2, b3⟩, h4, h5, h6, h7, h8, h9, h10, h11, h12⟩ := h
  refine ⟨⟨⟨_, hb v b1, ErrV.fault hf h1 h2, fun g e => ?_⟩, h4.upd hu ?_, h5.trans (hu.below h5.size (by simpa using h7)), h6, h7, h8, h9, h10, Nat.lt_of_lt_of_le h11 hu.size, h12⟩, .of_upd hu (by simp)⟩
  · injection e with _ e
    injection e with e
    injection e with e
    injection e with e
    omega
  · simp only [List.mem_singleton]
    exact fun e => (Blk.ne_ h4 b1 (by decide)) e
end

set_option maxRecDepth 100000 in
set_option maxHeartbeats 2000000 in
theorem right_clo (w0 : World) (eb kb : Nat) (A : Option Addr) (nn c : Nat) (ks : List Int) (p : Nat) (hnn : nn ≤ 1000000) (w : World) (s : Int × Int) (n d : Nat) (x : Stm) (v : Value) (hs : RightSt w0 eb kb A nn c ks p w s) (hv : StmV w w0.heap.size x v) (hn : n ≤ 1000000) (hd : d ≤ 1000000) :
    Calls Tryz.prog 42 #[.int .i64 n, .int .i64 d, v, .pointer (some ⟨eb, 0, none⟩), .pointer (some ⟨kb, 0, none⟩)] w fun e w' =>
      e = .returned (.bool (stepR ks s n d x).1) ∧ RightSt w0 eb kb A nn c ks p w' (stepR ks s n d x).2 ∧ UpdP (fun k => k = eb) w w' := by
  obtain ⟨k, coll, reg, ar, an, br, bn, bo, el⟩ := x
  obtain ⟨vb, ve, rfl, hb, he⟩ := hv
  obtain ⟨Ab, nb, cb, rfl⟩ := hb.slice
  obtain ⟨Ae, ne, ce, rfl⟩ := he.slice
  obtain ⟨hlb, hlb2⟩ := hb.len
  obtain ⟨hle, hle2⟩ := he.len
  subst hlb hle
  obtain ⟨ev, hbx, hev, _⟩ := hs.box
  have e0 : w.cell? ⟨eb, 0, none⟩ = some ev := hbx.cell 0
  have e1 : w.frozen? ⟨eb, 0, none⟩ = false := hbx.frozen 0
  have el1 : eb < w.heap.size := hbx.lt
  have el2 : eb < w.heap.size + 1 := by omega
  have k0 : w.cell? ⟨kb, 0, none⟩ = some (.slice A nn c) := hs.kinds.cell 0
  have kl1 : kb < w.heap.size := hs.kinds.lt
  have HS := Lib.hid hs
  have HEV := Lib.hid hev
  clear hs hb he hbx hev
  unfold stmCells
  have AL : Hid (∀ o, Upd [] w (w.alloc o)) := Lib.hid (fun o => (Upd.refl [] w).alloc o)
  have SZ : Hid (∀ o : Obj, (w.alloc o).heap.size = w.heap.size + 1) := Lib.hid (fun o => by simp)
  by_cases h1 : 100 < n
  · have h1' : decide ((100 : Int) < n) = true := by simp; omega
    have HR : Hid (stepR ks s n d (.mk k coll reg ar an br bn bo el) = (false, (8, (n : Int)))) := Lib.hid (by unfold stepR; simp [h1])
    go_enter Tryz.func42, Tryz.ntmps42
    go_wp2_with fail
    go_ret
    rw [HR.out]
    obtain ⟨r1, r2⟩ := HS.out.fault (w' := ((w.setCell ⟨eb, 0, none⟩ (.iface 96 (.pointer (some ⟨w.heap.size + 1, 0, none⟩)))).alloc (.cells #[.int .i64 k, .int .i64 coll, .int .i64 reg, .int .i64 ar, .int .i64 an, .int .i64 br, .int .i64 bn, .slice Ab bo.length cb, .slice Ae el.length ce] 40)).alloc (.cells #[.int .i64 n, .int .i64 8] 98)) (w.heap.size + 1) 8 n (by omega) (by omega) (by omega) ((((Upd.refl [eb] w).setCell (.inl (by simp)) _).alloc _).alloc _) (fun v h => ((h.set_eq rfl).alloc _).alloc _) (Blk.newAt _ _ (by simp [World.setCell]))
    exact ⟨rfl, r1, r2⟩
  · have h1' : decide ((100 : Int) < n) = false := by simp; omega
    by_cases h2 : 8 < d
    · have h2' : decide ((8 : Int) < d) = true := by simp; omega
      have HR : Hid (stepR ks s n d (.mk k coll reg ar an br bn bo el) = (false, (10, (n : Int)))) := Lib.hid (by unfold stepR; simp [h1, h2])
      go_enter Tryz.func42, Tryz.ntmps42
      go_wp2_with fail
      go_ret
      rw [HR.out]
      obtain ⟨r1, r2⟩ := HS.out.fault (w' := ((w.setCell ⟨eb, 0, none⟩ (.iface 96 (.pointer (some ⟨w.heap.size + 1, 0, none⟩)))).alloc (.cells #[.int .i64 k, .int .i64 coll, .int .i64 reg, .int .i64 ar, .int .i64 an, .int .i64 br, .int .i64 bn, .slice Ab bo.length cb, .slice Ae el.length ce] 40)).alloc (.cells #[.int .i64 n, .int .i64 10] 98)) (w.heap.size + 1) 10 n (by omega) (by omega) (by omega) ((((Upd.refl [eb] w).setCell (.inl (by simp)) _).alloc _).alloc _) (fun v h => ((h.set_eq rfl).alloc _).alloc _) (Blk.newAt _ _ (by simp [World.setCell]))
      exact ⟨rfl, r1, r2⟩
    · have h2' : decide ((8 : Int) < d) = false := by simp; omega
      obtain ⟨rv, hrv⟩ : ∃ y, rightV k coll reg ar an br bn bo.length el.length ks = y := ⟨_, rfl⟩
      have HRV := Lib.hid hrv
      have HR : Hid (stepR ks s n d (.mk k coll reg ar an br bn bo el) = (if rv then (s.1 == 0, s) else (false, (9, (n : Int))))) := Lib.hid (by unfold stepR rightS; simp [h1, h2, hrv]; cases rv <;> simp)
      clear hrv
      go_enter Tryz.func42, Tryz.ntmps42
      go_wp2_with fail
      refine (right_ok k coll reg ar an br bn Ab Ae bo.length cb el.length ce A nn c ks _ (HS.out.srcOf.upd0 (AL.out _)) hnn (by omega) (by omega)).mono ?_; rintro e w1 ⟨rfl, u1⟩
      rw [HRV.out]
      have U1 := Lib.hid ((AL.out (.cells #[.int .i64 k, .int .i64 coll, .int .i64 reg, .int .i64 ar, .int .i64 an, .int .i64 br, .int .i64 bn, .slice Ab bo.length cb, .slice Ae el.length ce] 40)).trans u1)
      have S1 := Lib.hid (HS.out.upd0 U1.out)
      clear u1 e0 e1 el1 el2 k0 kl1 HS HEV
      obtain ⟨ev1, hbx, hev, _⟩ := S1.out.box
      have e0 : w1.cell? ⟨eb, 0, none⟩ = some ev1 := hbx.cell 0
      have e1 : w1.frozen? ⟨eb, 0, none⟩ = false := hbx.frozen 0
      have el1 : eb < w1.heap.size := hbx.lt
      have el2 : eb < w1.heap.size + 1 := by omega
      have HEV := Lib.hid hev
      clear hbx hev
      cases rv with
      | false =>
        go_wp2_with fail
        go_ret
        rw [HR.out]
        obtain ⟨r1, r2⟩ := S1.out.fault (w' := (w1.setCell ⟨eb, 0, none⟩ (.iface 96 (.pointer (some ⟨w1.heap.size, 0, none⟩)))).alloc (.cells #[.int .i64 n, .int .i64 9] 98)) w1.heap.size 9 n (by omega) (by omega) (by omega) (((Upd.refl [eb] w1).setCell (.inl (by simp)) _).alloc _) (fun v h => (h.set_eq rfl).alloc _) (Blk.newAt _ _ (by simp [World.setCell]))
        exact ⟨rfl, r1, (UpdP.of_upd U1.out (by simp)).trans r2 (fun x hx => .inl hx)⟩
      | true =>
        rcases HEV.out with ⟨rfl, q, _⟩ | ⟨rfl, q, _⟩ | ⟨g, rfl, _, q, _⟩
        · have HQ := Lib.hid q
          clear q
          go_wp2_with fail
          go_ret
          rw [HR.out]
          exact ⟨by simp [HQ.out], by simpa using S1.out, .of_upd U1.out (by simp)⟩
        · have HQ : Hid ((s.1 == 0) = false) := Lib.hid (by have : ¬ s.1 = 0 := by omega
                                                            simpa using this)
          clear q
          go_wp2_with fail
          go_ret
          rw [HR.out]
          exact ⟨by simp [HQ.out], by simpa using S1.out, .of_upd U1.out (by simp)⟩
        · have HQ : Hid ((s.1 == 0) = false) := Lib.hid (by have : ¬ s.1 = 0 := by omega
                                                            simpa using this)
          clear q
          go_wp2_with fail
          go_ret
          rw [HR.out]
          exact ⟨by simp [HQ.out], by simpa using S1.out, .of_upd U1.out (by simp)⟩

set_option maxRecDepth 100000 in
theorem right_visitor (w0 : World) (eb kb : Nat) (A : Option Addr) (nn c : Nat) (ks : List Int) (p : Nat) (hnn : nn ≤ 1000000) :
    Visitor (Int × Int) 42 #[.pointer (some ⟨eb, 0, none⟩), .pointer (some ⟨kb, 0, none⟩)] w0.heap.size p (RightSt w0 eb kb A nn c ks p) (fun _ k => k = eb) (stepR ks) where
  enter := fun args w => rfl
  keep := fun w w' s h hu => h.upd hu
  keepOwn := fun _ _ _ _ _ _ h => h
  ownB := fun w s k h e => by
    subst e
    exact ⟨h.en, h.ep, by obtain ⟨v, hb, _⟩ := h.box; exact hb.lt⟩
  visit := fun w s n d x v hs hv _ hn hd => (right_clo w0 eb kb A nn c ks p hnn w s n d x v hs hv hn hd).mono fun e w' ⟨h1, h2, h3⟩ => ⟨h1, h2, h3, fun k hk => .inl hk⟩

/-- What is wrong with a transaction, and where. -/
def rightR (ks : List Int) (l : List Stm) : Int × Int := (walkF (stepR ks) (linesOf 1 l) (0, 0) 0).2.1
set_option maxRecDepth 100000 in
set_option maxHeartbeats 2000000 in
theorem prog_right_ok (l : List Stm) (v : Value) (A : Option Addr) (n c : Nat) (ks : List Int) (w : World) (hv : Stms w w.heap.size v l) (hk : Src w 1 (.slice A n c) n (ks.map (Value.int .i64))) (hn : n ≤ 1000000) (hl : sizes l ≤ 900000) :
    Calls Tryz.prog 23 #[v, .slice A n c] w fun e w' => ∃ v', e = .returned v' ∧ ErrV w' v' (rightR ks l).1 (rightR ks l).2 ∧ Upd [] w w' := by
  have HV := Lib.hid hv
  have HK := Lib.hid hk
  obtain ⟨Av, nv, cv, rfl⟩ := hv.slice
  clear hv hk
  go_enter Tryz.func23, Tryz.ntmps23
  go_wp2_with fail
  have U3 : Hid (Upd [] w (((w.alloc (.cells #[.slice A n c] 22)).alloc (.cells #[.nilIface] 34)).alloc (.cells #[.int .i64 0, .func (.func 42) #[] #[.pointer (some ⟨w.heap.size + 1, 0, none⟩), .pointer (some ⟨w.heap.size, 0, none⟩)]] 104))) := Lib.hid ((((Upd.refl [] w).alloc _).alloc _).alloc _)
  have b1 : Hid (Blk (((w.alloc (.cells #[.slice A n c] 22)).alloc (.cells #[.nilIface] 34)).alloc (.cells #[.int .i64 0, .func (.func 42) #[] #[.pointer (some ⟨w.heap.size + 1, 0, none⟩), .pointer (some ⟨w.heap.size, 0, none⟩)]] 104)) w.heap.size 22 #[.slice A n c]) := Lib.hid (((Blk.new w _ _).alloc _).alloc _)
  have b2 : Hid (Blk (((w.alloc (.cells #[.slice A n c] 22)).alloc (.cells #[.nilIface] 34)).alloc (.cells #[.int .i64 0, .func (.func 42) #[] #[.pointer (some ⟨w.heap.size + 1, 0, none⟩), .pointer (some ⟨w.heap.size, 0, none⟩)]] 104)) (w.heap.size + 1) 34 #[.nilIface]) := Lib.hid ((Blk.newAt _ _ (by simp)).alloc _)
  have b3 : Hid (Blk (((w.alloc (.cells #[.slice A n c] 22)).alloc (.cells #[.nilIface] 34)).alloc (.cells #[.int .i64 0, .func (.func 42) #[] #[.pointer (some ⟨w.heap.size + 1, 0, none⟩), .pointer (some ⟨w.heap.size, 0, none⟩)]] 104)) (w.heap.size + 1 + 1) 104 #[.int .i64 ((0 : Nat) : Int), .func (.func 42) #[] #[.pointer (some ⟨w.heap.size + 1, 0, none⟩), .pointer (some ⟨w.heap.size, 0, none⟩)]]) := Lib.hid (Blk.newAt _ _ (by simp))
  generalize (((w.alloc (.cells #[.slice A n c] 22)).alloc (.cells #[.nilIface] 34)).alloc (.cells #[.int .i64 0, .func (.func 42) #[] #[.pointer (some ⟨w.heap.size + 1, 0, none⟩), .pointer (some ⟨w.heap.size, 0, none⟩)]] 104)) = w3 at *
  have bl : Hid (Below w.heap.size w w3) := Lib.hid (U3.out.below (Nat.le_refl _) (by simp))
  have hc := walk_ok (right_visitor w (w.heap.size + 1) w.heap.size A n c ks (w.heap.size + 1 + 1) hn) (by omega) (sizes l + 1) l (.slice Av nv cv) w3 (0, 0) 0 1 (by omega) (HV.out.belowW bl.out)
    ⟨⟨_, b2.out, .nil _, fun g e => by cases e⟩, b1.out, bl.out, HK.out, by omega, by omega, by omega, by omega, b3.out.lt, by omega⟩ b3.out U3.out.size (by omega) (by omega)
  rw [show ((1 : Nat) : Int) = 1 from rfl] at hc
  refine hc.mono ?_; clear hc; rintro e w4 ⟨rfl, st, bp, up, _⟩
  obtain ⟨v', hb, hev, _⟩ := st.box
  have e0 : w4.cell? ⟨w.heap.size + 1, 0, none⟩ = some v' := hb.cell 0
  have HEV := Lib.hid hev
  have U4 : Hid (Upd [] w w4) := Lib.hid (up.to_upd U3.out (fun x hx => by rcases hx with rfl | rfl <;> omega))
  clear st bp up hb hev bl b1 b2 b3 U3
  go_wp2_with fail
  go_ret
  exact ⟨v', rfl, HEV.out, U4.out⟩
end Go.Proofs.YtfbeaklplefojaaGreatDoor

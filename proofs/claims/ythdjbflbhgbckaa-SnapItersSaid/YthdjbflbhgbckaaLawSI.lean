/-
  SnapIters, the walk.
-/
import Derived.Test.YthdjbflbhgbckaaOver
set_option linter.unusedVariables false
namespace Go.Proofs.Ythdjbflbhgbckaa
open Go.RowKit Stab Snap Mrg
attribute [local go_sem] litStep_value

theorem seekN_lo {r : PL} {key : Int} {j : Nat} (h : j < seekN r key) : (r.getD j default).1 < key := by
  have h1 : ∀ (r : PL) (j : Nat), j < (r.takeWhile (fun p => decide (p.1 < key))).length → (r.getD j default).1 < key := by
    intro r
    induction r with
    | nil => intro j hj; simp at hj
    | cons p r ih =>
      intro j hj
      rw [List.takeWhile_cons] at hj
      by_cases hp : p.1 < key
      · rw [if_pos (by simpa using hp)] at hj
        cases j with
        | zero => simpa using hp
        | succ j => simpa using ih j (by simpa using hj)
      · rw [if_neg (by simpa using hp)] at hj
        simp at hj
  exact h1 r j h
theorem seekN_hi {r : PL} {key : Int} (h : seekN r key < r.length) : key ≤ (r.getD (seekN r key) default).1 := by
  have h1 : ∀ (r : PL), (r.takeWhile (fun p => decide (p.1 < key))).length < r.length → key ≤ (r.getD (r.takeWhile (fun p => decide (p.1 < key))).length default).1 := by
    intro r
    induction r with
    | nil => intro h; simp at h
    | cons p r ih =>
      intro h
      rw [List.takeWhile_cons] at h ⊢
      by_cases hp : p.1 < key
      · rw [if_pos (by simpa using hp)] at h ⊢
        simpa using ih (by simpa using h)
      · rw [if_neg (by simpa using hp)]
        simp
        omega
  exact h1 r h
/-- In the midst of a call: the iterator, the two boxes. -/
structure ActS (w3 wr : World) (ib sb at_ pb wb : Nat) (o o2 : Option (Int × Int)) : Prop where
  u : Upd [ib] w3 wr
  it : Blk wr ib 87 #[.pointer (some ⟨sb, 0, none⟩), .int .i64 (at_ : Nat)]
  p : Blk wr pb 42 (cellsO o)
  q : Blk wr wb 42 (cellsO o2)
  ne : pb ≠ wb
  pB : w3.heap.size ≤ pb
  qB : w3.heap.size ≤ wb
section
variable {w3 wr w1 : World} {ib sb at_ at2 pb wb : Nat} {o o2 o3 : Option (Int × Int)}
theorem ActS.upd0 (h : ActS w3 wr ib sb at_ pb wb o o2) (hu : Upd [] wr w1) : ActS w3 w1 ib sb at_ pb wb o o2 :=
  ⟨h.u.trans (hu.mono (by simp)), h.it.upd hu (by simp), h.p.upd hu (by simp), h.q.upd hu (by simp), h.ne, h.pB, h.qB⟩
theorem ActS.next (h : ActS w3 wr ib sb at_ pb wb o o2) (hi : Blk w1 ib 87 #[.pointer (some ⟨sb, 0, none⟩), .int .i64 (at2 : Nat)]) (hu : Upd [ib] wr w1) : ActS w3 w1 ib sb at2 pb wb o o2 :=
  ⟨h.u.trans hu, hi, h.p.upd hu (by simpa using Blk.ne_ h.p h.it (by decide)), h.q.upd hu (by simpa using Blk.ne_ h.q h.it (by decide)), h.ne, h.pB, h.qB⟩
theorem ActS.putP (h : ActS w3 wr ib sb at_ pb wb o o2) (x y : Int) (hx : (o3.map (·.1)).getD 0 = x) (hy : (o3.map (·.2)).getD 0 = y) : ActS w3 ((wr.setCell ⟨pb, 0, none⟩ (.int .i64 x)).setCell ⟨pb, 1, none⟩ (.int .i64 y)) ib sb at_ pb wb o3 o2 := by
  subst hx hy
  have hu : Upd [pb] wr ((wr.setCell ⟨pb, 0, none⟩ (.int .i64 ((o3.map (·.1)).getD 0))).setCell ⟨pb, 1, none⟩ (.int .i64 ((o3.map (·.2)).getD 0))) := ((Upd.refl [pb] wr).setCell (.inl (by simp)) _).setCell (.inl (by simp)) _
  exact ⟨h.u.trans' hu (fun x hx => .inr (by simp at hx; subst hx; exact h.pB)), h.it.upd hu (by simpa using Blk.ne_ h.it h.p (by decide)), (h.p.set_eq rfl).set_eq rfl, h.q.upd hu (by simpa using h.ne.symm), h.ne, h.pB, h.qB⟩
theorem ActS.putQ (h : ActS w3 wr ib sb at_ pb wb o o2) (x y : Int) (hx : (o3.map (·.1)).getD 0 = x) (hy : (o3.map (·.2)).getD 0 = y) : ActS w3 ((wr.setCell ⟨wb, 0, none⟩ (.int .i64 x)).setCell ⟨wb, 1, none⟩ (.int .i64 y)) ib sb at_ pb wb o o3 := by
  subst hx hy
  have hu : Upd [wb] wr ((wr.setCell ⟨wb, 0, none⟩ (.int .i64 ((o3.map (·.1)).getD 0))).setCell ⟨wb, 1, none⟩ (.int .i64 ((o3.map (·.2)).getD 0))) := ((Upd.refl [wb] wr).setCell (.inl (by simp)) _).setCell (.inl (by simp)) _
  exact ⟨h.u.trans' hu (fun x hx => .inr (by simp at hx; subst hx; exact h.qB)), h.it.upd hu (by simpa using Blk.ne_ h.it h.q (by decide)), h.p.upd hu (by simpa using h.ne), (h.q.set_eq rfl).set_eq rfl, h.ne, h.pB, h.qB⟩
theorem ActS.iter {B at0 : Nat} {r : PL} (h : ActS w3 wr ib sb at_ pb wb o o2) (h0 : IterIs B ib sb r at0 w3) (hle : at_ ≤ r.length) : IterIs B ib sb r at_ wr := ⟨h.it, h0.s.off h0.it (by decide) (by decide) h.u, hle⟩
end
set_option maxRecDepth 100000 in
set_option maxHeartbeats 8000000 in
theorem law_siters (A : Option Addr) (n c : Nat) (l : PL) (Aa : Option Addr) (na ca : Nat) (acts : PL) (w : World) (h : Rd encPr w (.slice A n c) l) (hn : l.length = n) (ha : Rd encPr w (.slice Aa na ca) acts) (hna : acts.length = na) :
    Calls Try.prog 5 #[.slice A n c, .slice Aa na ca] w fun e w' => e = .returned (.bool true) ∧ Upd [] w w' := by
  have H := Lib.hid h
  have HN := Lib.hid hn
  have HA := Lib.hid ha
  have HNA := Lib.hid hna
  clear h hn ha hna
  go_enter Try.func5, Try.ntmps5
  by_cases h6 : 60 < n
  · have d6 : decide ((60 : Int) < (n : Int)) = true := by simp; omega
    have U0 : Hid (Upd [] w w) := Lib.hid (.refl _ _)
    go_wp2_with fail
    refine (alive27 w).mono ?_; rintro e w9 ⟨rfl, u9⟩
    have U9 := Lib.hid (U0.out.trans u9)
    clear u9
    go_wp2_with fail
    go_ret
    exact ⟨rfl, U9.out⟩
  have d6 : decide ((60 : Int) < (n : Int)) = false := by simp; omega
  by_cases h8 : 80 < na
  · have d8 : decide ((80 : Int) < (na : Int)) = true := by simp; omega
    have U0 : Hid (Upd [] w w) := Lib.hid (.refl _ _)
    go_wp2_with fail
    refine (alive27 w).mono ?_; rintro e w9 ⟨rfl, u9⟩
    have U9 := Lib.hid (U0.out.trans u9)
    clear u9
    go_wp2_with fail
    go_ret
    exact ⟨rfl, U9.out⟩
  have d8 : decide ((80 : Int) < (na : Int)) = false := by simp; omega
  go_wp2_with fail
  refine (s_of A n c l w H.out HN.out (by omega)).mono ?_
  intro e w1 h1
  obtain ⟨u1, h1 | h1⟩ := of_cases (r := []) (f := 0) (a := 0) h1
  · obtain ⟨g, kk, rfl, he, ho⟩ := h1
    have U1 := Lib.hid u1
    clear he u1
    go_wp2_with fail
    refine (r_of A n c l w1 (H.out.upd0 U1.out) HN.out (by omega)).mono ?_
    rintro e w2 ⟨v, r, f, a, rfl, hr, _, _, u2⟩
    obtain ⟨rfl, rfl, rfl⟩ := of_both hr ho
    have U2 := Lib.hid (U1.out.trans u2)
    clear u2 hr ho
    go_wp2_with fail
    refine (alive27 w2).mono ?_; rintro e w9 ⟨rfl, u9⟩
    have U9 := Lib.hid (U2.out.trans u9)
    clear u9
    go_wp2_with fail
    go_ret
    exact ⟨rfl, U9.out⟩
  obtain ⟨sb, r, rfl, hs, ho⟩ := h1
  have U1 := Lib.hid u1
  have S1 := Lib.hid hs
  have HR : Hid (r.length = n) := Lib.hid (by
    rcases ho with ⟨_, _, _, h1, h2⟩ | ⟨_, h, _⟩
    · exact h2.length_eq.trans HN.out
    · simp at h)
  have HO := Lib.hid ho
  clear u1 hs ho
  go_wp2_with fail
  refine (r_of A n c l w1 (H.out.upd0 U1.out) HN.out (by omega)).mono ?_
  rintro e w2 ⟨v, r2, f, a, rfl, hr, _, o2, u2⟩
  obtain ⟨rfl, rfl, rfl⟩ := of_both hr HO.out
  obtain ⟨A7, c7, rfl, _, _⟩ := own_slice o2
  have O2 : Hid (Ow encPr 42 w2 w1.heap.size (.slice A7 n c7) r2) := Lib.hid (by rw [HR.out] at o2; exact o2)
  rw [HR.out]
  have S2 := Lib.hid (S1.out.upd0 u2)
  have U2 := Lib.hid (U1.out.trans u2)
  clear u2 hr o2 S1 HO
  go_wp2_with fail
  refine (s_iter _ sb r2 w2 S2.out).mono ?_
  rintro e w3 ⟨rfl, i3, u3⟩
  obtain ⟨ib, hib⟩ : ∃ x, w2.heap.size = x := ⟨_, rfl⟩
  have HIB : Hid (w.heap.size ≤ ib) := Lib.hid (by have := U2.out.size; omega)
  rw [hib] at i3 ⊢
  have I3 := Lib.hid i3
  have O3 := Lib.hid (O2.out.upd0 u3)
  have U3 := Lib.hid (U2.out.trans u3)
  clear i3 u3 S2 U2 O2 hib U1
  go_wp2_with fail
  go_loopw [45, 11] (fun v va wr => ∃ (k at_ : Nat), v = .int .i64 k ∧ va = .int .i64 at_ ∧ k ≤ na ∧ at_ ≤ n ∧ Hid (Upd [ib] w3 wr) ∧ Hid (IterIs w.heap.size ib sb r2 at_ wr)) (fun v _ _ => na - (intOf v).toNat)
  case atStart => exact ⟨0, 0, rfl, rfl, by omega, by omega, Lib.hid (.refl _ _), I3⟩
  case round =>
    obtain ⟨k, at_, rfl, rfl, hk, hat, UR, IR⟩ := hrel
    rename World => wr
    have UA : Hid (Upd [] w wr) := Lib.hid (U3.out.trans' UR.out (fun x hx => .inr (by have := HIB.out; simp at hx; omega)))
    by_cases hlt : k < na
    · obtain ⟨a, ha⟩ : ∃ a, acts[k]? = some a := ⟨_, List.getElem?_eq_getElem (by rw [HNA.out]; exact hlt)⟩
      obtain ⟨aad, rfl, _, hcell⟩ := (HA.out.upd0 UA.out).at_ ha
      have k0 : wr.cell? (aad.add (k * 2)) = some (.int .i64 a.1) := hcell 0 _ rfl
      have k1 : wr.cell? ⟨(aad.add (k * 2)).block, (aad.add (k * 2)).off + 1, none⟩ = some (.int .i64 a.2) := by have := hcell 1 _ rfl; rwa [show k * (encPr).s + 1 = k * 2 + (0 + 1) from rfl, add_more] at this
      have q1 : (0 : Int) ≤ (k : Int) := by omega
      have q2 : (k : Int) < (na : Int) := by omega
      clear ha hcell
      obtain ⟨ab, hab⟩ : ∃ x, wr.heap.size = x := ⟨_, rfl⟩
      obtain ⟨pb, hpb⟩ : ∃ x, ab + 1 = x := ⟨_, rfl⟩
      obtain ⟨wb, hwb⟩ : ∃ x, pb + 1 = x := ⟨_, rfl⟩
      have z1 : (wr.alloc (.cells #[.int .i64 a.1, .int .i64 a.2] 48)).heap.size = pb := by simp [hab, hpb]
      have z2 : ((wr.alloc (.cells #[.int .i64 a.1, .int .i64 a.2] 48)).alloc (.cells #[.int .i64 0, .int .i64 0] 42)).heap.size = wb := by simp [hab, hpb, hwb]
      have AB : Hid (Blk (((wr.alloc (.cells #[.int .i64 a.1, .int .i64 a.2] 48)).alloc (.cells #[.int .i64 0, .int .i64 0] 42)).alloc (.cells #[.int .i64 0, .int .i64 0] 42)) ab 48 #[.int .i64 a.1, .int .i64 a.2]) := Lib.hid (by have h1 := Blk.new wr 48 #[.int .i64 a.1, .int .i64 a.2]; rw [hab] at h1; exact (h1.upd ((Upd.refl [] _).alloc _) (by simp)).upd ((Upd.refl [] _).alloc _) (by simp))
      have S4 : Hid (ActS w3 (((wr.alloc (.cells #[.int .i64 a.1, .int .i64 a.2] 48)).alloc (.cells #[.int .i64 0, .int .i64 0] 42)).alloc (.cells #[.int .i64 0, .int .i64 0] 42)) ib sb at_ pb wb none none) := Lib.hid ⟨UR.out.trans (((((Upd.refl [] wr).alloc _).alloc _).alloc _).mono (by simp)), IR.out.it.upd ((((Upd.refl [] wr).alloc _).alloc _).alloc _) (by simp), by have h1 := Blk.new (wr.alloc (.cells #[.int .i64 a.1, .int .i64 a.2] 48)) 42 #[.int .i64 0, .int .i64 0]; rw [z1] at h1; exact h1.upd ((Upd.refl [] _).alloc _) (by simp), by have h1 := Blk.new ((wr.alloc (.cells #[.int .i64 a.1, .int .i64 a.2] 48)).alloc (.cells #[.int .i64 0, .int .i64 0] 42)) 42 #[.int .i64 0, .int .i64 0]; rw [z2] at h1; exact h1, by omega, by have := UR.out.size; omega, by have := UR.out.size; omega⟩
      have ca0 : (((wr.alloc (.cells #[.int .i64 a.1, .int .i64 a.2] 48)).alloc (.cells #[.int .i64 0, .int .i64 0] 42)).alloc (.cells #[.int .i64 0, .int .i64 0] 42)).cell? ⟨ab, 0, none⟩ = some (.int .i64 a.1) := AB.out.cell 0
      have ca1 : (((wr.alloc (.cells #[.int .i64 a.1, .int .i64 a.2] 48)).alloc (.cells #[.int .i64 0, .int .i64 0] 42)).alloc (.cells #[.int .i64 0, .int .i64 0] 42)).cell? ⟨ab, 1, none⟩ = some (.int .i64 a.2) := AB.out.cell 1
      clear hpb hwb UR IR
      by_cases k0' : a.1 = 0
      · have d0 : (a.1 == 0) = true := by simpa using k0'
        clear k0'
        go_wp2_with fail
        clear z1 z2 hab k0 k1 d0 ca0 ca1
        generalize (((wr.alloc (.cells #[.int .i64 a.1, .int .i64 a.2] 48)).alloc (.cells #[.int .i64 0, .int .i64 0] 42)).alloc (.cells #[.int .i64 0, .int .i64 0] 42)) = w4 at *
        refine (i_next _ ib sb r2 at_ w4 (S4.out.iter I3.out (by rw [HR.out]; omega))).mono ?_
        rintro e w5 ⟨rfl, i5, u5⟩
        have S5 := Lib.hid (S4.out.next i5.it u5)
        clear i5 u5 S4 AB
        by_cases hx : at_ < n
        · obtain ⟨p, hp⟩ : ∃ p, r2[at_]? = some p := ⟨_, List.getElem?_eq_getElem (by rw [HR.out]; exact hx)⟩
          have S6 : Hid (ActS w3 ((w5.setCell ⟨pb, 0, none⟩ (.int .i64 p.1)).setCell ⟨pb, 1, none⟩ (.int .i64 p.2)) ib sb (at_ + 1) pb wb (some p) none) := Lib.hid (by have := S5.out.putP (o3 := some p) p.1 p.2 rfl rfl; rwa [if_pos (by rw [HR.out]; exact hx)] at this)
          have S7 := Lib.hid (S6.out.putQ (o3 := some p) p.1 p.2 rfl rfl)
          have O6 : Hid (Ow encPr 42 ((w5.setCell ⟨pb, 0, none⟩ (.int .i64 p.1)).setCell ⟨pb, 1, none⟩ (.int .i64 p.2)) w1.heap.size (.slice A7 n c7) r2) := Lib.hid (O3.out.upd S6.out.u (fun x hx hm => own_type O3.out I3.out.it (by decide) (by rw [hx]; simpa using hm)))
          have f0 : w5.frozen? ⟨pb, 0, none⟩ = false := S5.out.p.frozen 0
          have f1 : w5.frozen? ⟨pb, 1, none⟩ = false := S5.out.p.frozen 1
          have f2 : pb < w5.heap.size := S5.out.p.lt
          have f3 : w5.cell? ⟨pb, 0, none⟩ = some (.int .i64 0) := S5.out.p.cell 0
          have f4 : w5.cell? ⟨pb, 1, none⟩ = some (.int .i64 0) := S5.out.p.cell 1
          obtain ⟨g, cg, cur, e1, -⟩ := own_form O6.out (by rw [HR.out]; omega)
          injection e1 with e1 en e1'
          subst e1 e1'
          have h0 : ((w5.setCell ⟨pb, 0, none⟩ (.int .i64 p.1)).setCell ⟨pb, 1, none⟩ (.int .i64 p.2)).cell? ⟨g, at_ * 2, none⟩ = some (.int .i64 p.1) := O6.out.at_ hp 0 _ rfl
          have h1 : ((w5.setCell ⟨pb, 0, none⟩ (.int .i64 p.1)).setCell ⟨pb, 1, none⟩ (.int .i64 p.2)).cell? ⟨g, at_ * 2 + 1, none⟩ = some (.int .i64 p.2) := O6.out.at_ hp 1 _ rfl
          have h2 : ((w5.setCell ⟨pb, 0, none⟩ (.int .i64 p.1)).setCell ⟨pb, 1, none⟩ (.int .i64 p.2)).frozen? ⟨wb, 0, none⟩ = false := S6.out.q.frozen 0
          have h3 : ((w5.setCell ⟨pb, 0, none⟩ (.int .i64 p.1)).setCell ⟨pb, 1, none⟩ (.int .i64 p.2)).frozen? ⟨wb, 1, none⟩ = false := S6.out.q.frozen 1
          have h4 : wb < ((w5.setCell ⟨pb, 0, none⟩ (.int .i64 p.1)).setCell ⟨pb, 1, none⟩ (.int .i64 p.2)).heap.size := S6.out.q.lt
          have h5 : ((w5.setCell ⟨pb, 0, none⟩ (.int .i64 p.1)).setCell ⟨pb, 1, none⟩ (.int .i64 p.2)).cell? ⟨wb, 0, none⟩ = some (.int .i64 0) := S6.out.q.cell 0
          have h6' : ((w5.setCell ⟨pb, 0, none⟩ (.int .i64 p.1)).setCell ⟨pb, 1, none⟩ (.int .i64 p.2)).cell? ⟨wb, 1, none⟩ = some (.int .i64 0) := S6.out.q.cell 1
          rw [hp]
          unfold toldP
          have dlt : decide ((at_ : Int) < (n : Int)) = true := by simp; omega
          have q3 : (0 : Int) ≤ (at_ : Int) := by omega
          have q4 : (at_ : Int) < (n : Int) := by omega
          obtain ⟨a1, ha1⟩ : ∃ a1, at_ + 1 = a1 := ⟨_, rfl⟩
          have t0 : (at_ : Int) + 1 = (a1 : Int) := by omega
          rw [ha1] at S7
          clear hp en S6 S5 O6
          have IX : Hid (IterIs w.heap.size ib sb r2 a1 ((((w5.setCell ⟨pb, 0, none⟩ (.int .i64 p.1)).setCell ⟨pb, 1, none⟩ (.int .i64 p.2)).setCell ⟨wb, 0, none⟩ (.int .i64 p.1)).setCell ⟨wb, 1, none⟩ (.int .i64 p.2))) := Lib.hid (S7.out.iter I3.out (by rw [HR.out]; omega))
          have g0 : ((((w5.setCell ⟨pb, 0, none⟩ (.int .i64 p.1)).setCell ⟨pb, 1, none⟩ (.int .i64 p.2)).setCell ⟨wb, 0, none⟩ (.int .i64 p.1)).setCell ⟨wb, 1, none⟩ (.int .i64 p.2)).cell? ⟨pb, 0, none⟩ = some (.int .i64 p.1) := S7.out.p.cell 0
          have g1 : ((((w5.setCell ⟨pb, 0, none⟩ (.int .i64 p.1)).setCell ⟨pb, 1, none⟩ (.int .i64 p.2)).setCell ⟨wb, 0, none⟩ (.int .i64 p.1)).setCell ⟨wb, 1, none⟩ (.int .i64 p.2)).cell? ⟨pb, 1, none⟩ = some (.int .i64 p.2) := S7.out.p.cell 1
          have g2 : ((((w5.setCell ⟨pb, 0, none⟩ (.int .i64 p.1)).setCell ⟨pb, 1, none⟩ (.int .i64 p.2)).setCell ⟨wb, 0, none⟩ (.int .i64 p.1)).setCell ⟨wb, 1, none⟩ (.int .i64 p.2)).cell? ⟨wb, 0, none⟩ = some (.int .i64 p.1) := S7.out.q.cell 0
          have g3 : ((((w5.setCell ⟨pb, 0, none⟩ (.int .i64 p.1)).setCell ⟨pb, 1, none⟩ (.int .i64 p.2)).setCell ⟨wb, 0, none⟩ (.int .i64 p.1)).setCell ⟨wb, 1, none⟩ (.int .i64 p.2)).cell? ⟨wb, 1, none⟩ = some (.int .i64 p.2) := S7.out.q.cell 1
          obtain ⟨d, hd⟩ : ∃ d, r2.length - a1 = d := ⟨_, rfl⟩
          have t1 : (n : Int) - (a1 : Int) = (d : Int) := by rw [← hd, HR.out]; omega
          have t1w : IntKind.i64.wrap (d : Int) = (d : Int) := by rw [← hd, HR.out, IntKind.wrap_i64]; omega
          go_wp2_with fail
          refine (i_left _ ib sb r2 a1 ((((w5.setCell ⟨pb, 0, none⟩ (.int .i64 p.1)).setCell ⟨pb, 1, none⟩ (.int .i64 p.2)).setCell ⟨wb, 0, none⟩ (.int .i64 p.1)).setCell ⟨wb, 1, none⟩ (.int .i64 p.2)) IX.out).mono ?_
          rintro e w9 ⟨rfl, u9⟩
          rw [hd]
          have I9 := Lib.hid (IX.out.upd0 u9)
          have U9 := Lib.hid (S7.out.u.trans (u9.mono (by simp)))
          clear u9 hd g0 g1 g2 g3
          go_wp2_with fail
          go_roundw
          case rel => exact ⟨k + 1, a1, by go_num, rfl, by omega, by omega, U9, I9⟩
          case measure => simp [intOf]; omega
        · have hx2 : at_ = n := by omega
          have dlt : decide ((at_ : Int) < (n : Int)) = false := by simp; omega
          have hp : r2[at_]? = none := List.getElem?_eq_none (by rw [HR.out]; omega)
          have S6 : Hid (ActS w3 ((w5.setCell ⟨pb, 0, none⟩ (.int .i64 0)).setCell ⟨pb, 1, none⟩ (.int .i64 0)) ib sb at_ pb wb none none) := Lib.hid (by have := S5.out.putP (o3 := none) 0 0 rfl rfl; rwa [if_neg (by rw [HR.out]; omega)] at this)
          have f0 : w5.frozen? ⟨pb, 0, none⟩ = false := S5.out.p.frozen 0
          have f1 : w5.frozen? ⟨pb, 1, none⟩ = false := S5.out.p.frozen 1
          have f2 : pb < w5.heap.size := S5.out.p.lt
          have f3 : w5.cell? ⟨pb, 0, none⟩ = some (.int .i64 0) := S5.out.p.cell 0
          have f4 : w5.cell? ⟨pb, 1, none⟩ = some (.int .i64 0) := S5.out.p.cell 1
          rw [hp]
          unfold toldP
          clear hp S5 hx2
          have IX : Hid (IterIs w.heap.size ib sb r2 at_ ((w5.setCell ⟨pb, 0, none⟩ (.int .i64 0)).setCell ⟨pb, 1, none⟩ (.int .i64 0))) := Lib.hid (S6.out.iter I3.out (by rw [HR.out]; omega))
          have g0 : ((w5.setCell ⟨pb, 0, none⟩ (.int .i64 0)).setCell ⟨pb, 1, none⟩ (.int .i64 0)).cell? ⟨pb, 0, none⟩ = some (.int .i64 0) := S6.out.p.cell 0
          have g1 : ((w5.setCell ⟨pb, 0, none⟩ (.int .i64 0)).setCell ⟨pb, 1, none⟩ (.int .i64 0)).cell? ⟨pb, 1, none⟩ = some (.int .i64 0) := S6.out.p.cell 1
          have g2 : ((w5.setCell ⟨pb, 0, none⟩ (.int .i64 0)).setCell ⟨pb, 1, none⟩ (.int .i64 0)).cell? ⟨wb, 0, none⟩ = some (.int .i64 0) := S6.out.q.cell 0
          have g3 : ((w5.setCell ⟨pb, 0, none⟩ (.int .i64 0)).setCell ⟨pb, 1, none⟩ (.int .i64 0)).cell? ⟨wb, 1, none⟩ = some (.int .i64 0) := S6.out.q.cell 1
          obtain ⟨d, hd⟩ : ∃ d, r2.length - at_ = d := ⟨_, rfl⟩
          have t1 : (n : Int) - (at_ : Int) = (d : Int) := by rw [← hd, HR.out]; omega
          have t1w : IntKind.i64.wrap (d : Int) = (d : Int) := by rw [← hd, HR.out, IntKind.wrap_i64]; omega
          go_wp2_with fail
          refine (i_left _ ib sb r2 at_ ((w5.setCell ⟨pb, 0, none⟩ (.int .i64 0)).setCell ⟨pb, 1, none⟩ (.int .i64 0)) IX.out).mono ?_
          rintro e w9 ⟨rfl, u9⟩
          rw [hd]
          have I9 := Lib.hid (IX.out.upd0 u9)
          have U9 := Lib.hid (S6.out.u.trans (u9.mono (by simp)))
          clear u9 hd g0 g1 g2 g3
          go_wp2_with fail
          go_roundw
          case rel => exact ⟨k + 1, at_, by go_num, rfl, by omega, by omega, U9, I9⟩
          case measure => simp [intOf]; omega
      · by_cases k1' : a.1 = 1
        · have d0 : (a.1 == 0) = false := by simpa using k0'
          have d1 : (a.1 == 1) = true := by simpa using k1'
          clear k0' k1'
          go_wp2_with fail
          clear z1 z2 hab k0 k1 d0 d1 ca0 ca1
          generalize (((wr.alloc (.cells #[.int .i64 a.1, .int .i64 a.2] 48)).alloc (.cells #[.int .i64 0, .int .i64 0] 42)).alloc (.cells #[.int .i64 0, .int .i64 0] 42)) = w4 at *
          refine (i_back _ ib sb r2 at_ w4 (S4.out.iter I3.out (by rw [HR.out]; omega))).mono ?_
          rintro e w5 ⟨rfl, i5, u5⟩
          have S5 := Lib.hid (S4.out.next i5.it u5)
          clear i5 u5 S4 AB
          by_cases hx : at_ = 0
          · subst hx
            have S6 : Hid (ActS w3 ((w5.setCell ⟨pb, 0, none⟩ (.int .i64 0)).setCell ⟨pb, 1, none⟩ (.int .i64 0)) ib sb 0 pb wb none none) := Lib.hid (by have := S5.out.putP (o3 := none) 0 0 rfl rfl; exact this)
            have f0 : w5.frozen? ⟨pb, 0, none⟩ = false := S5.out.p.frozen 0
            have f1 : w5.frozen? ⟨pb, 1, none⟩ = false := S5.out.p.frozen 1
            have f2 : pb < w5.heap.size := S5.out.p.lt
            have f3 : w5.cell? ⟨pb, 0, none⟩ = some (.int .i64 0) := S5.out.p.cell 0
            have f4 : w5.cell? ⟨pb, 1, none⟩ = some (.int .i64 0) := S5.out.p.cell 1
            rw [if_pos rfl]
            unfold toldP
            clear S5
            have IX : Hid (IterIs w.heap.size ib sb r2 0 ((w5.setCell ⟨pb, 0, none⟩ (.int .i64 0)).setCell ⟨pb, 1, none⟩ (.int .i64 0))) := Lib.hid (S6.out.iter I3.out (by rw [HR.out]; omega))
            have g0 : ((w5.setCell ⟨pb, 0, none⟩ (.int .i64 0)).setCell ⟨pb, 1, none⟩ (.int .i64 0)).cell? ⟨pb, 0, none⟩ = some (.int .i64 0) := S6.out.p.cell 0
            have g1 : ((w5.setCell ⟨pb, 0, none⟩ (.int .i64 0)).setCell ⟨pb, 1, none⟩ (.int .i64 0)).cell? ⟨pb, 1, none⟩ = some (.int .i64 0) := S6.out.p.cell 1
            have g2 : ((w5.setCell ⟨pb, 0, none⟩ (.int .i64 0)).setCell ⟨pb, 1, none⟩ (.int .i64 0)).cell? ⟨wb, 0, none⟩ = some (.int .i64 0) := S6.out.q.cell 0
            have g3 : ((w5.setCell ⟨pb, 0, none⟩ (.int .i64 0)).setCell ⟨pb, 1, none⟩ (.int .i64 0)).cell? ⟨wb, 1, none⟩ = some (.int .i64 0) := S6.out.q.cell 1
            obtain ⟨d, hd⟩ : ∃ d, r2.length - 0 = d := ⟨_, rfl⟩
            have t1 : (n : Int) - (0 : Int) = (d : Int) := by rw [← hd, HR.out]; omega
            have t1w : IntKind.i64.wrap (d : Int) = (d : Int) := by rw [← hd, HR.out, IntKind.wrap_i64]; omega
            go_wp2_with fail
            refine (i_left _ ib sb r2 0 ((w5.setCell ⟨pb, 0, none⟩ (.int .i64 0)).setCell ⟨pb, 1, none⟩ (.int .i64 0)) IX.out).mono ?_
            rintro e w9 ⟨rfl, u9⟩
            rw [hd]
            have I9 := Lib.hid (IX.out.upd0 u9)
            have U9 := Lib.hid (S6.out.u.trans (u9.mono (by simp)))
            clear u9 hd g0 g1 g2 g3
            go_wp2_with fail
            go_roundw
            case rel => exact ⟨k + 1, 0, by go_num, rfl, by omega, by omega, U9, I9⟩
            case measure => simp [intOf]; omega
          · obtain ⟨a1, ha1⟩ : ∃ a1, a1 + 1 = at_ := ⟨at_ - 1, by omega⟩
            obtain ⟨p, hp⟩ : ∃ p, r2[a1]? = some p := ⟨_, List.getElem?_eq_getElem (by rw [HR.out]; omega)⟩
            have S6 : Hid (ActS w3 ((w5.setCell ⟨pb, 0, none⟩ (.int .i64 p.1)).setCell ⟨pb, 1, none⟩ (.int .i64 p.2)) ib sb a1 pb wb (some p) none) := Lib.hid (by have := S5.out.putP (o3 := some p) p.1 p.2 rfl rfl; rwa [show at_ - 1 = a1 by omega] at this)
            have S7 := Lib.hid (S6.out.putQ (o3 := some p) p.1 p.2 rfl rfl)
            have O6 : Hid (Ow encPr 42 ((w5.setCell ⟨pb, 0, none⟩ (.int .i64 p.1)).setCell ⟨pb, 1, none⟩ (.int .i64 p.2)) w1.heap.size (.slice A7 n c7) r2) := Lib.hid (O3.out.upd S6.out.u (fun x hx hm => own_type O3.out I3.out.it (by decide) (by rw [hx]; simpa using hm)))
            have f0 : w5.frozen? ⟨pb, 0, none⟩ = false := S5.out.p.frozen 0
            have f1 : w5.frozen? ⟨pb, 1, none⟩ = false := S5.out.p.frozen 1
            have f2 : pb < w5.heap.size := S5.out.p.lt
            have f3 : w5.cell? ⟨pb, 0, none⟩ = some (.int .i64 0) := S5.out.p.cell 0
            have f4 : w5.cell? ⟨pb, 1, none⟩ = some (.int .i64 0) := S5.out.p.cell 1
            obtain ⟨g, cg, cur, e1, -⟩ := own_form O6.out (by rw [HR.out]; omega)
            injection e1 with e1 en e1'
            subst e1 e1'
            have h0 : ((w5.setCell ⟨pb, 0, none⟩ (.int .i64 p.1)).setCell ⟨pb, 1, none⟩ (.int .i64 p.2)).cell? ⟨g, a1 * 2, none⟩ = some (.int .i64 p.1) := O6.out.at_ hp 0 _ rfl
            have h1 : ((w5.setCell ⟨pb, 0, none⟩ (.int .i64 p.1)).setCell ⟨pb, 1, none⟩ (.int .i64 p.2)).cell? ⟨g, a1 * 2 + 1, none⟩ = some (.int .i64 p.2) := O6.out.at_ hp 1 _ rfl
            have h2 : ((w5.setCell ⟨pb, 0, none⟩ (.int .i64 p.1)).setCell ⟨pb, 1, none⟩ (.int .i64 p.2)).frozen? ⟨wb, 0, none⟩ = false := S6.out.q.frozen 0
            have h3 : ((w5.setCell ⟨pb, 0, none⟩ (.int .i64 p.1)).setCell ⟨pb, 1, none⟩ (.int .i64 p.2)).frozen? ⟨wb, 1, none⟩ = false := S6.out.q.frozen 1
            have h4 : wb < ((w5.setCell ⟨pb, 0, none⟩ (.int .i64 p.1)).setCell ⟨pb, 1, none⟩ (.int .i64 p.2)).heap.size := S6.out.q.lt
            have h5 : ((w5.setCell ⟨pb, 0, none⟩ (.int .i64 p.1)).setCell ⟨pb, 1, none⟩ (.int .i64 p.2)).cell? ⟨wb, 0, none⟩ = some (.int .i64 0) := S6.out.q.cell 0
            have h6' : ((w5.setCell ⟨pb, 0, none⟩ (.int .i64 p.1)).setCell ⟨pb, 1, none⟩ (.int .i64 p.2)).cell? ⟨wb, 1, none⟩ = some (.int .i64 0) := S6.out.q.cell 1
            rw [if_neg hx, show at_ - 1 = a1 by omega, hp]
            unfold toldP
            have dlt : decide ((0 : Int) < (at_ : Int)) = true := by simp; omega
            have q3 : (0 : Int) ≤ (a1 : Int) := by omega
            have q4 : (a1 : Int) < (n : Int) := by omega
            have t0 : (at_ : Int) - 1 = (a1 : Int) := by omega
            have t0w : IntKind.i64.wrap (a1 : Int) = (a1 : Int) := by rw [IntKind.wrap_i64]; omega
            clear hp en S6 S5 O6
            have IX : Hid (IterIs w.heap.size ib sb r2 a1 ((((w5.setCell ⟨pb, 0, none⟩ (.int .i64 p.1)).setCell ⟨pb, 1, none⟩ (.int .i64 p.2)).setCell ⟨wb, 0, none⟩ (.int .i64 p.1)).setCell ⟨wb, 1, none⟩ (.int .i64 p.2))) := Lib.hid (S7.out.iter I3.out (by rw [HR.out]; omega))
            have g0 : ((((w5.setCell ⟨pb, 0, none⟩ (.int .i64 p.1)).setCell ⟨pb, 1, none⟩ (.int .i64 p.2)).setCell ⟨wb, 0, none⟩ (.int .i64 p.1)).setCell ⟨wb, 1, none⟩ (.int .i64 p.2)).cell? ⟨pb, 0, none⟩ = some (.int .i64 p.1) := S7.out.p.cell 0
            have g1 : ((((w5.setCell ⟨pb, 0, none⟩ (.int .i64 p.1)).setCell ⟨pb, 1, none⟩ (.int .i64 p.2)).setCell ⟨wb, 0, none⟩ (.int .i64 p.1)).setCell ⟨wb, 1, none⟩ (.int .i64 p.2)).cell? ⟨pb, 1, none⟩ = some (.int .i64 p.2) := S7.out.p.cell 1
            have g2 : ((((w5.setCell ⟨pb, 0, none⟩ (.int .i64 p.1)).setCell ⟨pb, 1, none⟩ (.int .i64 p.2)).setCell ⟨wb, 0, none⟩ (.int .i64 p.1)).setCell ⟨wb, 1, none⟩ (.int .i64 p.2)).cell? ⟨wb, 0, none⟩ = some (.int .i64 p.1) := S7.out.q.cell 0
            have g3 : ((((w5.setCell ⟨pb, 0, none⟩ (.int .i64 p.1)).setCell ⟨pb, 1, none⟩ (.int .i64 p.2)).setCell ⟨wb, 0, none⟩ (.int .i64 p.1)).setCell ⟨wb, 1, none⟩ (.int .i64 p.2)).cell? ⟨wb, 1, none⟩ = some (.int .i64 p.2) := S7.out.q.cell 1
            obtain ⟨d, hd⟩ : ∃ d, r2.length - a1 = d := ⟨_, rfl⟩
            have t1 : (n : Int) - (a1 : Int) = (d : Int) := by rw [← hd, HR.out]; omega
            have t1w : IntKind.i64.wrap (d : Int) = (d : Int) := by rw [← hd, HR.out, IntKind.wrap_i64]; omega
            go_wp2_with fail
            refine (i_left _ ib sb r2 a1 ((((w5.setCell ⟨pb, 0, none⟩ (.int .i64 p.1)).setCell ⟨pb, 1, none⟩ (.int .i64 p.2)).setCell ⟨wb, 0, none⟩ (.int .i64 p.1)).setCell ⟨wb, 1, none⟩ (.int .i64 p.2)) IX.out).mono ?_
            rintro e w9 ⟨rfl, u9⟩
            rw [hd]
            have I9 := Lib.hid (IX.out.upd0 u9)
            have U9 := Lib.hid (S7.out.u.trans (u9.mono (by simp)))
            clear u9 hd g0 g1 g2 g3
            go_wp2_with fail
            go_roundw
            case rel => exact ⟨k + 1, a1, by go_num, rfl, by omega, by omega, U9, I9⟩
            case measure => simp [intOf]; omega
        · by_cases k2' : a.1 = 2
          · have d0 : (a.1 == 0) = false := by simpa using k0'
            have d1 : (a.1 == 1) = false := by simpa using k1'
            have d2 : (a.1 == 2) = true := by simpa using k2'
            clear k0' k1' k2'
            go_wp2_with fail
            clear z1 z2 hab k0 k1 d0 d1 d2 ca0 ca1
            generalize (((wr.alloc (.cells #[.int .i64 a.1, .int .i64 a.2] 48)).alloc (.cells #[.int .i64 0, .int .i64 0] 42)).alloc (.cells #[.int .i64 0, .int .i64 0] 42)) = w4 at *
            refine (i_seek _ ib sb r2 at_ a.2 w4 (S4.out.iter I3.out (by rw [HR.out]; omega))).mono ?_
            rintro e w5 ⟨rfl, i5, u5⟩
            have S5 := Lib.hid (S4.out.next i5.it u5)
            have AB5 := Lib.hid (AB.out.upd u5 (by simpa using Blk.ne_ AB.out S4.out.it (by decide)))
            obtain ⟨s0, hs0⟩ : ∃ s0, seekN r2 a.2 = s0 := ⟨_, rfl⟩
            rw [hs0] at S5
            have HS := Lib.hid hs0
            have hsn : s0 ≤ n := by rw [← hs0, ← HR.out]; exact seekN_le _ _
            clear i5 u5 S4 AB hs0
            go_wp2_with fail
            go_loopw [11] (fun v wx => ∃ j : Nat, v = .int .i64 j ∧ j ≤ s0 ∧ Hid (Upd [] w5 wx)) (fun v _ => n - (intOf v).toNat)
            case atStart => exact ⟨0, rfl, by omega, Lib.hid (.refl _ _)⟩
            case round =>
              obtain ⟨j, rfl, hjs, UI⟩ := hrel
              rename World => wx
              by_cases hjn : j < n
              · have O5 : Hid (Ow encPr 42 wx w1.heap.size (.slice A7 n c7) r2) := Lib.hid ((O3.out.upd S5.out.u (fun x hx hm => own_type O3.out I3.out.it (by decide) (by rw [hx]; simpa using hm))).upd0 UI.out)
                obtain ⟨g, cg, cur, e1, -⟩ := own_form O5.out (by rw [HR.out]; omega)
                injection e1 with e1 en e1'
                subst e1 e1'
                obtain ⟨y, hy⟩ : ∃ y, r2[j]? = some y := ⟨_, List.getElem?_eq_getElem (by rw [HR.out]; exact hjn)⟩
                have HY := Lib.hid hy
                have hyd : r2.getD j default = y := by rw [List.getD_eq_getElem?_getD, hy]; rfl
                have CS : Hid (∀ W, Upd [] wx.drew W → W.cell? ⟨g, j * 2, none⟩ = some (.int .i64 y.1) ∧ W.cell? ⟨ab, 1, none⟩ = some (.int .i64 a.2)) := Lib.hid (fun W hW => by
                  have hu := (Upd.refl [] wx).drew.trans hW
                  exact ⟨(O5.out.upd0 hu).at_ HY.out 0 _ rfl, (AB5.out.upd (UI.out.trans hu) (by simp)).cell 1⟩)
                have q3 : (0 : Int) ≤ (j : Int) := by omega
                have q4 : (j : Int) < (n : Int) := by omega
                have dj : decide ((j : Int) < (n : Int)) = true := by simpa using q4
                have dk : decide (y.1 < a.2) = decide (j < s0) := by
                  rcases Nat.lt_or_ge j s0 with h | h
                  · have := seekN_lo (r := r2) (key := a.2) (by rw [HS.out]; exact h)
                    rw [hyd] at this
                    rw [decide_eq_true this, decide_eq_true h]
                  · obtain rfl : j = s0 := by omega
                    have := seekN_hi (r := r2) (key := a.2) (by rw [HS.out, HR.out]; exact hjn)
                    rw [HS.out, hyd] at this
                    rw [decide_eq_false (by omega), decide_eq_false (by omega)]
                clear hy en hyd
                by_cases hj2 : j < s0
                · rw [decide_eq_true hj2] at dk
                  go_wp2_with fail
                  refine wp_invN [] [] (by kernel_rfl) (by kernel_rfl) (by kernel_rfl) trivial ?_
                  with_reducible apply wpV_light
                  · simp only [lightOp]
                  · intro W hU hF
                    have f0 := CS.out W hU
                    clear hU hF
                    go_simp
                    exact rfl
                  simp only [Act.put, List.setIfInBounds_toArray, List.set_cons_zero, List.set_cons_succ]
                  with_reducible apply wpV_light
                  · simp only [lightOp]
                  · intro W hU hF
                    have f0 := CS.out W hU
                    clear hU hF
                    go_simp
                    exact rfl
                  simp only [Act.put, List.setIfInBounds_toArray, List.set_cons_zero, List.set_cons_succ]
                  with_reducible apply wpV_light
                  · simp only [lightOp]
                  · intro W hU hF
                    have f0 := CS.out W hU
                    clear hU hF
                    go_simp
                    exact rfl
                  simp only [Act.put, List.setIfInBounds_toArray, List.set_cons_zero, List.set_cons_succ]
                  with_reducible apply wpV_light
                  · simp only [lightOp]
                  · intro W hU hF
                    have f0 := CS.out W hU
                    clear hU hF
                    go_simp
                    exact rfl
                  simp only [Act.put, List.setIfInBounds_toArray, List.set_cons_zero, List.set_cons_succ]
                  with_reducible apply wpV_light
                  · simp only [lightOp]
                  · intro W hU hF
                    have f0 := CS.out W hU
                    clear hU hF
                    go_simp
                    exact rfl
                  simp only [Act.put, List.setIfInBounds_toArray, List.set_cons_zero, List.set_cons_succ]
                  with_reducible apply wpV_light
                  · simp only [lightOp]
                  · intro W hU hF
                    have f0 := CS.out W hU
                    clear hU hF
                    go_simp
                    exact rfl
                  simp only [Act.put, List.setIfInBounds_toArray, List.set_cons_zero, List.set_cons_succ]
                  with_reducible apply wpV_light
                  · simp only [lightOp]
                  · intro W hU hF
                    have f0 := CS.out W hU
                    clear hU hF
                    go_simp
                    exact rfl
                  simp only [Act.put, List.setIfInBounds_toArray, List.set_cons_zero, List.set_cons_succ]
                  with_reducible apply wpV_light
                  · simp only [lightOp]
                  · intro W hU hF
                    have f0 := CS.out W hU
                    clear hU hF
                    go_simp
                    exact rfl
                  simp only [Act.put, List.setIfInBounds_toArray, List.set_cons_zero, List.set_cons_succ]
                  with_reducible apply wpV_light
                  · simp only [lightOp]
                  · intro W hU hF
                    have f0 := CS.out W hU
                    clear hU hF
                    go_simp
                    exact rfl
                  simp only [Act.put, List.setIfInBounds_toArray, List.set_cons_zero, List.set_cons_succ]
                  with_reducible apply wpV_light
                  · simp only [lightOp]
                  · intro W hU hF
                    have f0 := CS.out W hU
                    clear hU hF
                    go_simp
                    exact rfl
                  simp only [Act.put, List.setIfInBounds_toArray, List.set_cons_zero, List.set_cons_succ]
                  with_reducible apply wpV_light
                  · simp only [lightOp]
                  · intro W hU hF
                    have f0 := CS.out W hU
                    clear hU hF
                    go_simp
                    exact rfl
                  simp only [Act.put, List.setIfInBounds_toArray, List.set_cons_zero, List.set_cons_succ]
                  with_reducible apply wpV_light
                  · simp only [lightOp]
                  · intro W hU hF
                    have f0 := CS.out W hU
                    clear hU hF
                    go_simp
                    exact rfl
                  simp only [Act.put, List.setIfInBounds_toArray, List.set_cons_zero, List.set_cons_succ]
                  with_reducible apply wpV_light
                  · simp only [lightOp]
                  · intro W hU hF
                    have f0 := CS.out W hU
                    clear hU hF
                    go_simp
                    exact rfl
                  simp only [Act.put, List.setIfInBounds_toArray, List.set_cons_zero, List.set_cons_succ]
                  with_reducible apply wpV_light
                  · simp only [lightOp]
                  · intro W hU hF
                    have f0 := CS.out W hU
                    clear hU hF
                    go_simp
                    exact rfl
                  simp only [Act.put, List.setIfInBounds_toArray, List.set_cons_zero, List.set_cons_succ]
                  refine wpV_end (fun W hU _ _ => ?_)
                  have U4 : Hid (Upd [] w5 W) := Lib.hid (UI.out.trans ((Upd.refl [] wx).drew.trans hU))
                  clear hU CS
                  refine wpT_end ?_
                  go_wp2_with fail
                  go_roundw
                  case rel => exact ⟨j + 1, by go_num, by omega, U4⟩
                  case measure => simp [intOf]; omega
                · rw [decide_eq_false hj2] at dk
                  obtain rfl : j = s0 := by omega
                  go_wp2_with fail
                  refine wp_invN [] [] (by kernel_rfl) (by kernel_rfl) (by kernel_rfl) trivial ?_
                  with_reducible apply wpV_light
                  · simp only [lightOp]
                  · intro W hU hF
                    have f0 := CS.out W hU
                    clear hU hF
                    go_simp
                    exact rfl
                  simp only [Act.put, List.setIfInBounds_toArray, List.set_cons_zero, List.set_cons_succ]
                  with_reducible apply wpV_light
                  · simp only [lightOp]
                  · intro W hU hF
                    have f0 := CS.out W hU
                    clear hU hF
                    go_simp
                    exact rfl
                  simp only [Act.put, List.setIfInBounds_toArray, List.set_cons_zero, List.set_cons_succ]
                  with_reducible apply wpV_light
                  · simp only [lightOp]
                  · intro W hU hF
                    have f0 := CS.out W hU
                    clear hU hF
                    go_simp
                    exact rfl
                  simp only [Act.put, List.setIfInBounds_toArray, List.set_cons_zero, List.set_cons_succ]
                  with_reducible apply wpV_light
                  · simp only [lightOp]
                  · intro W hU hF
                    have f0 := CS.out W hU
                    clear hU hF
                    go_simp
                    exact rfl
                  simp only [Act.put, List.setIfInBounds_toArray, List.set_cons_zero, List.set_cons_succ]
                  with_reducible apply wpV_light
                  · simp only [lightOp]
                  · intro W hU hF
                    have f0 := CS.out W hU
                    clear hU hF
                    go_simp
                    exact rfl
                  simp only [Act.put, List.setIfInBounds_toArray, List.set_cons_zero, List.set_cons_succ]
                  with_reducible apply wpV_light
                  · simp only [lightOp]
                  · intro W hU hF
                    have f0 := CS.out W hU
                    clear hU hF
                    go_simp
                    exact rfl
                  simp only [Act.put, List.setIfInBounds_toArray, List.set_cons_zero, List.set_cons_succ]
                  with_reducible apply wpV_light
                  · simp only [lightOp]
                  · intro W hU hF
                    have f0 := CS.out W hU
                    clear hU hF
                    go_simp
                    exact rfl
                  simp only [Act.put, List.setIfInBounds_toArray, List.set_cons_zero, List.set_cons_succ]
                  with_reducible apply wpV_light
                  · simp only [lightOp]
                  · intro W hU hF
                    have f0 := CS.out W hU
                    clear hU hF
                    go_simp
                    exact rfl
                  simp only [Act.put, List.setIfInBounds_toArray, List.set_cons_zero, List.set_cons_succ]
                  with_reducible apply wpV_light
                  · simp only [lightOp]
                  · intro W hU hF
                    have f0 := CS.out W hU
                    clear hU hF
                    go_simp
                    exact rfl
                  simp only [Act.put, List.setIfInBounds_toArray, List.set_cons_zero, List.set_cons_succ]
                  with_reducible apply wpV_light
                  · simp only [lightOp]
                  · intro W hU hF
                    have f0 := CS.out W hU
                    clear hU hF
                    go_simp
                    exact rfl
                  simp only [Act.put, List.setIfInBounds_toArray, List.set_cons_zero, List.set_cons_succ]
                  with_reducible apply wpV_light
                  · simp only [lightOp]
                  · intro W hU hF
                    have f0 := CS.out W hU
                    clear hU hF
                    go_simp
                    exact rfl
                  simp only [Act.put, List.setIfInBounds_toArray, List.set_cons_zero, List.set_cons_succ]
                  with_reducible apply wpV_light
                  · simp only [lightOp]
                  · intro W hU hF
                    have f0 := CS.out W hU
                    clear hU hF
                    go_simp
                    exact rfl
                  simp only [Act.put, List.setIfInBounds_toArray, List.set_cons_zero, List.set_cons_succ]
                  with_reducible apply wpV_light
                  · simp only [lightOp]
                  · intro W hU hF
                    have f0 := CS.out W hU
                    clear hU hF
                    go_simp
                    exact rfl
                  simp only [Act.put, List.setIfInBounds_toArray, List.set_cons_zero, List.set_cons_succ]
                  with_reducible apply wpV_light
                  · simp only [lightOp]
                  · intro W hU hF
                    have f0 := CS.out W hU
                    clear hU hF
                    go_simp
                    exact rfl
                  simp only [Act.put, List.setIfInBounds_toArray, List.set_cons_zero, List.set_cons_succ]
                  refine wpV_end (fun W hU _ _ => ?_)
                  have U4 : Hid (Upd [] w5 W) := Lib.hid (UI.out.trans ((Upd.refl [] wx).drew.trans hU))
                  clear hU CS
                  refine wpT_end ?_
                  have SW := Lib.hid (S5.out.upd0 U4.out)
                  clear dj dk q3 q4
                  have IX : Hid (IterIs w.heap.size ib sb r2 j W) := Lib.hid (SW.out.iter I3.out (by rw [HR.out]; omega))
                  have g0 : W.cell? ⟨pb, 0, none⟩ = some (.int .i64 0) := SW.out.p.cell 0
                  have g1 : W.cell? ⟨pb, 1, none⟩ = some (.int .i64 0) := SW.out.p.cell 1
                  have g2 : W.cell? ⟨wb, 0, none⟩ = some (.int .i64 0) := SW.out.q.cell 0
                  have g3 : W.cell? ⟨wb, 1, none⟩ = some (.int .i64 0) := SW.out.q.cell 1
                  obtain ⟨d, hd⟩ : ∃ d, r2.length - j = d := ⟨_, rfl⟩
                  have t1 : (n : Int) - (j : Int) = (d : Int) := by rw [← hd, HR.out]; omega
                  have t1w : IntKind.i64.wrap (d : Int) = (d : Int) := by rw [← hd, HR.out, IntKind.wrap_i64]; omega
                  go_wp2_with fail
                  refine (i_left _ ib sb r2 j W IX.out).mono ?_
                  rintro e w9 ⟨rfl, u9⟩
                  rw [hd]
                  have I9 := Lib.hid (IX.out.upd0 u9)
                  have U9 := Lib.hid (SW.out.u.trans (u9.mono (by simp)))
                  clear u9 hd g0 g1 g2 g3
                  go_wp2_with fail
                  go_roundw
                  case rel => exact ⟨k + 1, j, by go_num, rfl, by omega, by omega, U9, I9⟩
                  case measure => simp [intOf]; omega
              · obtain rfl : j = s0 := by omega
                have hx2 : j = n := by omega
                have dj : decide ((j : Int) < (n : Int)) = false := by simp; omega
                clear hx2
                go_wp2_with fail
                refine wp_invN [] [] (by kernel_rfl) (by kernel_rfl) (by kernel_rfl) trivial ?_
                with_reducible apply wpV_light
                · simp only [lightOp]
                · intro W hU hF
                  clear hU hF
                  go_simp
                  exact rfl
                simp only [Act.put, List.setIfInBounds_toArray, List.set_cons_zero, List.set_cons_succ]
                with_reducible apply wpV_light
                · simp only [lightOp]
                · intro W hU hF
                  clear hU hF
                  go_simp
                  exact rfl
                simp only [Act.put, List.setIfInBounds_toArray, List.set_cons_zero, List.set_cons_succ]
                with_reducible apply wpV_light
                · simp only [lightOp]
                · intro W hU hF
                  clear hU hF
                  go_simp
                  exact rfl
                simp only [Act.put, List.setIfInBounds_toArray, List.set_cons_zero, List.set_cons_succ]
                with_reducible apply wpV_light
                · simp only [lightOp]
                · intro W hU hF
                  clear hU hF
                  go_simp
                  exact rfl
                simp only [Act.put, List.setIfInBounds_toArray, List.set_cons_zero, List.set_cons_succ]
                with_reducible apply wpV_light
                · simp only [lightOp]
                · intro W hU hF
                  clear hU hF
                  go_simp
                  exact rfl
                simp only [Act.put, List.setIfInBounds_toArray, List.set_cons_zero, List.set_cons_succ]
                refine wpV_skip (by rfl) (by simp only [lightOp]) ?_
                simp only [Act.put, List.setIfInBounds_toArray, List.set_cons_zero, List.set_cons_succ]
                refine wpV_skip (by rfl) (by simp only [lightOp]) ?_
                simp only [Act.put, List.setIfInBounds_toArray, List.set_cons_zero, List.set_cons_succ]
                refine wpV_skip (by rfl) (by simp only [lightOp]) ?_
                simp only [Act.put, List.setIfInBounds_toArray, List.set_cons_zero, List.set_cons_succ]
                refine wpV_skip (by rfl) (by simp only [lightOp]) ?_
                simp only [Act.put, List.setIfInBounds_toArray, List.set_cons_zero, List.set_cons_succ]
                refine wpV_skip (by rfl) (by simp only [lightOp]) ?_
                simp only [Act.put, List.setIfInBounds_toArray, List.set_cons_zero, List.set_cons_succ]
                refine wpV_skip (by rfl) (by simp only [lightOp]) ?_
                simp only [Act.put, List.setIfInBounds_toArray, List.set_cons_zero, List.set_cons_succ]
                refine wpV_skip (by rfl) (by simp only [lightOp]) ?_
                simp only [Act.put, List.setIfInBounds_toArray, List.set_cons_zero, List.set_cons_succ]
                refine wpV_skip (by rfl) (by simp only [lightOp]) ?_
                simp only [Act.put, List.setIfInBounds_toArray, List.set_cons_zero, List.set_cons_succ]
                with_reducible apply wpV_light
                · simp only [lightOp]
                · intro W hU hF
                  clear hU hF
                  go_simp
                  exact rfl
                simp only [Act.put, List.setIfInBounds_toArray, List.set_cons_zero, List.set_cons_succ]
                refine wpV_end (fun W hU _ _ => ?_)
                have U4 : Hid (Upd [] w5 W) := Lib.hid (UI.out.trans ((Upd.refl [] wx).drew.trans hU))
                clear hU
                refine wpT_end ?_
                have SW := Lib.hid (S5.out.upd0 U4.out)
                clear dj
                have IX : Hid (IterIs w.heap.size ib sb r2 j W) := Lib.hid (SW.out.iter I3.out (by rw [HR.out]; omega))
                have g0 : W.cell? ⟨pb, 0, none⟩ = some (.int .i64 0) := SW.out.p.cell 0
                have g1 : W.cell? ⟨pb, 1, none⟩ = some (.int .i64 0) := SW.out.p.cell 1
                have g2 : W.cell? ⟨wb, 0, none⟩ = some (.int .i64 0) := SW.out.q.cell 0
                have g3 : W.cell? ⟨wb, 1, none⟩ = some (.int .i64 0) := SW.out.q.cell 1
                obtain ⟨d, hd⟩ : ∃ d, r2.length - j = d := ⟨_, rfl⟩
                have t1 : (n : Int) - (j : Int) = (d : Int) := by rw [← hd, HR.out]; omega
                have t1w : IntKind.i64.wrap (d : Int) = (d : Int) := by rw [← hd, HR.out, IntKind.wrap_i64]; omega
                go_wp2_with fail
                refine (i_left _ ib sb r2 j W IX.out).mono ?_
                rintro e w9 ⟨rfl, u9⟩
                rw [hd]
                have I9 := Lib.hid (IX.out.upd0 u9)
                have U9 := Lib.hid (SW.out.u.trans (u9.mono (by simp)))
                clear u9 hd g0 g1 g2 g3
                go_wp2_with fail
                go_roundw
                case rel => exact ⟨k + 1, j, by go_num, rfl, by omega, by omega, U9, I9⟩
                case measure => simp [intOf]; omega
          · have d0 : (a.1 == 0) = false := by simpa using k0'
            have d1 : (a.1 == 1) = false := by simpa using k1'
            have d2 : (a.1 == 2) = false := by simpa using k2'
            clear k0' k1' k2' AB
            have IX : Hid (IterIs w.heap.size ib sb r2 at_ (((wr.alloc (.cells #[.int .i64 a.1, .int .i64 a.2] 48)).alloc (.cells #[.int .i64 0, .int .i64 0] 42)).alloc (.cells #[.int .i64 0, .int .i64 0] 42))) := Lib.hid (S4.out.iter I3.out (by rw [HR.out]; omega))
            have g0 : (((wr.alloc (.cells #[.int .i64 a.1, .int .i64 a.2] 48)).alloc (.cells #[.int .i64 0, .int .i64 0] 42)).alloc (.cells #[.int .i64 0, .int .i64 0] 42)).cell? ⟨pb, 0, none⟩ = some (.int .i64 0) := S4.out.p.cell 0
            have g1 : (((wr.alloc (.cells #[.int .i64 a.1, .int .i64 a.2] 48)).alloc (.cells #[.int .i64 0, .int .i64 0] 42)).alloc (.cells #[.int .i64 0, .int .i64 0] 42)).cell? ⟨pb, 1, none⟩ = some (.int .i64 0) := S4.out.p.cell 1
            have g2 : (((wr.alloc (.cells #[.int .i64 a.1, .int .i64 a.2] 48)).alloc (.cells #[.int .i64 0, .int .i64 0] 42)).alloc (.cells #[.int .i64 0, .int .i64 0] 42)).cell? ⟨wb, 0, none⟩ = some (.int .i64 0) := S4.out.q.cell 0
            have g3 : (((wr.alloc (.cells #[.int .i64 a.1, .int .i64 a.2] 48)).alloc (.cells #[.int .i64 0, .int .i64 0] 42)).alloc (.cells #[.int .i64 0, .int .i64 0] 42)).cell? ⟨wb, 1, none⟩ = some (.int .i64 0) := S4.out.q.cell 1
            obtain ⟨d, hd⟩ : ∃ d, r2.length - at_ = d := ⟨_, rfl⟩
            have t1 : (n : Int) - (at_ : Int) = (d : Int) := by rw [← hd, HR.out]; omega
            have t1w : IntKind.i64.wrap (d : Int) = (d : Int) := by rw [← hd, HR.out, IntKind.wrap_i64]; omega
            go_wp2_with fail
            refine (i_left _ ib sb r2 at_ (((wr.alloc (.cells #[.int .i64 a.1, .int .i64 a.2] 48)).alloc (.cells #[.int .i64 0, .int .i64 0] 42)).alloc (.cells #[.int .i64 0, .int .i64 0] 42)) IX.out).mono ?_
            rintro e w9 ⟨rfl, u9⟩
            rw [hd]
            have I9 := Lib.hid (IX.out.upd0 u9)
            have U9 := Lib.hid (S4.out.u.trans (u9.mono (by simp)))
            clear u9 hd g0 g1 g2 g3
            go_wp2_with fail
            go_roundw
            case rel => exact ⟨k + 1, at_, by go_num, rfl, by omega, by omega, U9, I9⟩
            case measure => simp [intOf]; omega
    · go_wp2_with fail
      refine (alive27 wr).mono ?_; rintro e w9 ⟨rfl, u9⟩
      have U9 := Lib.hid (UA.out.trans u9)
      clear u9
      go_wp2_with fail
      go_ret
      exact ⟨rfl, U9.out⟩
end Go.Proofs.Ythdjbflbhgbckaa

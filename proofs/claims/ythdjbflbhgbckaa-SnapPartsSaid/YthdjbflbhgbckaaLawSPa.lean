/-
  SnapParts, the walk.
-/
import Derived.Test.YthdjbflbhgbckaaCommon
import Derived.Test.YthdjbflbhgbckaaOver
import Derived.Deep.Cut
import Derived.Deep.CutRange
set_option linter.unusedVariables false
namespace Go.Proofs.Ythdjbflbhgbckaa
open Go.RowKit Stab Snap Mrg
attribute [local go_sem] litStep_value

/-- What Of tells, in one form: a snapshot, if there is no error. -/
theorem of_any {l : PL} {w w' : World} {e : Ending} (h : OfPost l w e w') : ∃ px ev no a, e = .returned (.tuple #[.pointer px, ev]) ∧ ErrV w' ev no a ∧ Upd [] w w' ∧ (no = 0 → ∃ sb r, px = some ⟨sb, 0, none⟩ ∧ SnapIs w.heap.size sb w' r ∧ OfR l r 0 0) := by
  obtain ⟨u, h | ⟨sb, r, rfl, hs, ho⟩⟩ := of_cases (r := []) (f := 0) (a := 0) h
  · obtain ⟨g, k, rfl, he, ho⟩ := h
    exact ⟨_, _, 7, k, rfl, he, u, fun e => by cases e⟩
  · exact ⟨_, _, 0, 0, rfl, .inl ⟨rfl, rfl, rfl⟩, u, fun _ => ⟨sb, r, rfl, hs, ho⟩⟩
/-- In the midst of SnapParts: two lists, a box, all new. -/
structure PtS (w5 wr : World) (fb : Nat) (v19 v20 : Value) (P Q : PL) (o : Option (Int × Int)) : Prop where
  u : Upd [] w5 wr
  a : Ow encPr 42 wr w5.heap.size v19 P
  b : Ow encPr 42 wr w5.heap.size v20 Q
  f : Blk wr fb 42 (cellsO o)
  fB : w5.heap.size ≤ fb
  nab : ∀ x, v19.ownBlock = some x → v20.ownBlock ≠ some x
  naf : v19.ownBlock ≠ some fb
  nbf : v20.ownBlock ≠ some fb
section
variable {w5 wr w1 : World} {fb : Nat} {v19 v20 v' : Value} {P Q : PL} {o o2 : Option (Int × Int)}
theorem PtS.upd0 (h : PtS w5 wr fb v19 v20 P Q o) (hu : Upd [] wr w1) : PtS w5 w1 fb v19 v20 P Q o :=
  ⟨h.u.trans hu, h.a.upd0 hu, h.b.upd0 hu, h.f.upd hu (by simp), h.fB, h.nab, h.naf, h.nbf⟩
theorem PtS.pushA {x : Int × Int} (h : PtS w5 wr fb v19 v20 P Q o) (ho : Ow encPr 42 w1 w5.heap.size v' (P ++ [x])) (hu : Upd v19.ownBlock.toList wr w1) (hb : v'.ownBlock = v19.ownBlock ∨ v'.ownBlock = some wr.heap.size) : PtS w5 w1 fb v' v20 (P ++ [x]) Q o := by
  refine ⟨h.u.trans' hu (fun y hy => .inr (own_blk h.a hy).1), ho, h.b.upd hu (fun y hy hm => h.nab y (by simpa using hm) hy), h.f.upd hu (fun hm => h.naf (by simpa using hm)), h.fB, fun y hy e => ?_, fun e => ?_, h.nbf⟩
  · rcases hb with hb | hb
    · exact h.nab y (by rw [← hb]; exact hy) e
    · rw [hb] at hy; injection hy with hy; have := (own_lt h.b e).2; omega
  · rcases hb with hb | hb
    · exact h.naf (by rw [← hb]; exact e)
    · rw [hb] at e; injection e with e; have := h.f.lt; omega
theorem PtS.pushB {x : Int × Int} (h : PtS w5 wr fb v19 v20 P Q o) (ho : Ow encPr 42 w1 w5.heap.size v' (Q ++ [x])) (hu : Upd v20.ownBlock.toList wr w1) (hb : v'.ownBlock = v20.ownBlock ∨ v'.ownBlock = some wr.heap.size) : PtS w5 w1 fb v19 v' P (Q ++ [x]) o := by
  refine ⟨h.u.trans' hu (fun y hy => .inr (own_blk h.b hy).1), h.a.upd hu (fun y hy hm => h.nab y hy (by simpa using hm)), ho, h.f.upd hu (fun hm => h.nbf (by simpa using hm)), h.fB, fun y hy e => ?_, h.naf, fun e => ?_⟩
  · rcases hb with hb | hb
    · exact h.nab y hy (by rw [← hb]; exact e)
    · rw [hb] at e; injection e with e; have := (own_lt h.a hy).2; omega
  · rcases hb with hb | hb
    · exact h.nbf (by rw [← hb]; exact e)
    · rw [hb] at e; injection e with e; have := h.f.lt; omega
theorem PtS.putF (h : PtS w5 wr fb v19 v20 P Q o) (x y : Int) (hx : (o2.map (·.1)).getD 0 = x) (hy : (o2.map (·.2)).getD 0 = y) : PtS w5 ((wr.setCell ⟨fb, 0, none⟩ (.int .i64 x)).setCell ⟨fb, 1, none⟩ (.int .i64 y)) fb v19 v20 P Q o2 := by
  subst hx hy
  have hu : Upd [fb] wr ((wr.setCell ⟨fb, 0, none⟩ (.int .i64 ((o2.map (·.1)).getD 0))).setCell ⟨fb, 1, none⟩ (.int .i64 ((o2.map (·.2)).getD 0))) := ((Upd.refl [fb] wr).setCell (.inl (by simp)) _).setCell (.inl (by simp)) _
  exact ⟨h.u.trans' hu (fun x hx => .inr (by simp at hx; subst hx; exact h.fB)), h.a.upd hu (fun y hy hm => h.naf (by rw [hy]; simpa using hm)), h.b.upd hu (fun y hy hm => h.nbf (by rw [hy]; simpa using hm)), (h.f.set_eq rfl).set_eq rfl, h.fB, h.nab, h.naf, h.nbf⟩
end
theorem filter_snoc {x : PL} {k : Nat} {p : Int × Int} {f : Int × Int → Bool} (hp : x[k]? = some p) : (x.take (k + 1)).filter f = (x.take k).filter f ++ if f p then [p] else [] := by
  rw [List.take_add_one, hp, List.filter_append]
  cases hh : f p <;> simp [hh]
theorem pt_len {x : PL} {k : Nat} {f : Int × Int → Bool} (h : x.length ≤ 60) : ((x.take k).filter f).length ≤ 60 := by
  have h1 := (List.filter_sublist (l := x.take k) (p := f)).length_le
  have h2 := (List.take_sublist k x).length_le
  omega
theorem find_none {l : PL} {k r : Int} (h : FindR l k r) (hn : Assoc.get l k = none) : r = -1 := by
  rcases h with ⟨i, v, _, _, _, hg⟩ | ⟨h, _⟩
  · rw [hn] at hg; cases hg
  · exact h
theorem find_some {l : PL} {k r v : Int} (h : FindR l k r) (hn : Assoc.get l k = some v) : ∃ i : Nat, r = i ∧ l[i]? = some (k, v) := by
  rcases h with ⟨i, v', h1, h2, _, hg⟩ | ⟨_, h⟩
  · rw [hn] at hg; cases hg; exact ⟨i, h1, h2⟩
  · rw [hn] at h; cases h
theorem floor_snoc {x : PL} {k : Nat} {p : Int × Int} {key : Int} (hp : x[k]? = some p) : floorF (x.take (k + 1)) key = if p.1 ≤ key then some p else floorF (x.take k) key := by
  unfold floorF
  rw [filter_snoc hp]
  by_cases h : p.1 ≤ key
  · rw [if_pos h, if_pos (by simpa using h)]; simp
  · rw [if_neg h, if_neg (by simpa using h)]; simp
def betw (a b : Int) (p : Int × Int) : Bool := decide (a ≤ p.1) && decide (p.1 ≤ b)
def hasV (y : PL) (p : Int × Int) : Bool := decide (Assoc.get y p.1 = some p.2)
set_option maxRecDepth 100000 in
set_option maxHeartbeats 8000000 in
theorem law_sparts (A : Option Addr) (n c : Nat) (l : PL) (A' : Option Addr) (n' c' : Nat) (l' : PL) (fr to_ : Int) (w : World) (h : Rd encPr w (.slice A n c) l) (hn : l.length = n) (h' : Rd encPr w (.slice A' n' c') l') (hn' : l'.length = n') :
    Calls Try.prog 6 #[.slice A n c, .slice A' n' c', .int .i64 fr, .int .i64 to_] w fun e w' => e = .returned (.bool true) ∧ Upd [] w w' := by
  have H := Lib.hid h
  have HN := Lib.hid hn
  have H' := Lib.hid h'
  have HN' := Lib.hid hn'
  clear h hn h' hn'
  go_enter Try.func6, Try.ntmps6
  by_cases h6 : 60 < n
  · have d6 : decide ((60 : Int) < (n : Int)) = true := by simp; omega
    have U0 : Hid (Upd [] w w) := Lib.hid (.refl _ _)
    go_wp2_with fail
    refine (alive27 w).mono ?_; rintro e w9 ⟨rfl, u9⟩
    have U9 := Lib.hid (U0.out.trans u9)
    clear u9
    go_wp2_with fail
    go_ret
    exact ⟨rfl, U9.out⟩
  have d6 : decide ((60 : Int) < (n : Int)) = false := by simp; omega
  by_cases h8 : 60 < n'
  · have d8 : decide ((60 : Int) < (n' : Int)) = true := by simp; omega
    have U0 : Hid (Upd [] w w) := Lib.hid (.refl _ _)
    go_wp2_with fail
    refine (alive27 w).mono ?_; rintro e w9 ⟨rfl, u9⟩
    have U9 := Lib.hid (U0.out.trans u9)
    clear u9
    go_wp2_with fail
    go_ret
    exact ⟨rfl, U9.out⟩
  have d8 : decide ((60 : Int) < (n' : Int)) = false := by simp; omega
  go_wp2_with fail
  refine (s_of A n c l w H.out HN.out (by omega)).mono ?_
  intro e w1 h1
  obtain ⟨pa, va, na, ta, rfl, ea, u1, ga⟩ := of_any h1
  have U1 := Lib.hid u1
  have EA := Lib.hid ea
  have GA := Lib.hid ga
  clear h1 ea u1 ga
  go_wp2_with fail
  refine (s_of A' n' c' l' w1 (H'.out.upd0 U1.out) HN'.out (by omega)).mono ?_
  intro e w2 h1
  obtain ⟨pb, vb, nb, tb, rfl, eb, u2, gb⟩ := of_any h1
  have U2 := Lib.hid (U1.out.trans u2)
  have EA2 := Lib.hid (EA.out.upd u2)
  have EB2 := Lib.hid eb
  have GA2 : Hid (na = 0 → ∃ sb r, pa = some ⟨sb, 0, none⟩ ∧ SnapIs w.heap.size sb w2 r ∧ OfR l r 0 0) := Lib.hid (fun e => by obtain ⟨sb, r, h1, h2, h3⟩ := GA.out e; exact ⟨sb, r, h1, h2.upd0 u2, h3⟩)
  have GB2 : Hid (nb = 0 → ∃ sb r, pb = some ⟨sb, 0, none⟩ ∧ SnapIs w.heap.size sb w2 r ∧ OfR l' r 0 0) := Lib.hid (fun e => by obtain ⟨sb, r, h1, h2, h3⟩ := gb e; exact ⟨sb, r, h1, h2.base U1.out.size, h3⟩)
  clear h1 eb u2 gb GA U1 EA
  go_wp2_with fail
  refine (r_of A n c l w2 (H.out.upd0 U2.out) HN.out (by omega)).mono ?_
  rintro e w3 ⟨vx, x, fx, ax, rfl, hx, _, ox, u3⟩
  obtain ⟨Ax, cx, rfl, _, _⟩ := own_slice ox
  have HX := Lib.hid hx
  have OX := Lib.hid ox
  have U3 := Lib.hid (U2.out.trans u3)
  have U23 := Lib.hid u3
  clear hx ox u3 U2
  go_wp2_with fail
  refine (r_of A' n' c' l' w3 (H'.out.upd0 U3.out) HN'.out (by omega)).mono ?_
  rintro e w4 ⟨vy, y, fy, ay, rfl, hy, _, oy, u4⟩
  obtain ⟨Ay, cy, rfl, _, _⟩ := own_slice oy
  have HY := Lib.hid hy
  have OY := Lib.hid oy
  have OX4 := Lib.hid (OX.out.upd0 u4)
  have U4 := Lib.hid (U3.out.trans u4)
  have U24 := Lib.hid (U23.out.trans u4)
  clear hy oy u4 U3 U23 OX
  go_wp2_with fail
  refine (no_err (EA2.out.upd U24.out)).mono ?_; rintro e w' ⟨rfl, rfl⟩
  by_cases ha0 : na = 0
  case neg =>
    have dn : (na == 0) = false := by simpa using ha0
    go_wp2_with fail
    refine (alive27 w4).mono ?_; rintro e w9 ⟨rfl, u9⟩
    have U9 := Lib.hid (U4.out.trans u9)
    clear u9
    go_wp2_with fail
    go_ret
    exact ⟨rfl, U9.out⟩
  subst ha0
  go_wp2_with fail
  refine (no_err (EB2.out.upd U24.out)).mono ?_; rintro e w' ⟨rfl, rfl⟩
  by_cases hb0 : nb = 0
  case neg =>
    have dn : (nb == 0) = false := by simpa using hb0
    go_wp2_with fail
    refine (alive27 w4).mono ?_; rintro e w9 ⟨rfl, u9⟩
    have U9 := Lib.hid (U4.out.trans u9)
    clear u9
    go_wp2_with fail
    go_ret
    exact ⟨rfl, U9.out⟩
  subst hb0
  obtain ⟨sa, x', rfl, sx, hx'⟩ := GA2.out (by trivial)
  obtain ⟨sb, y', rfl, sy, hy'⟩ := GB2.out (by trivial)
  obtain ⟨rfl, rfl, rfl⟩ := of_both HX.out hx'
  obtain ⟨rfl, rfl, rfl⟩ := of_both HY.out hy'
  have SX := Lib.hid (sx.upd0 U24.out)
  have SY := Lib.hid (sy.upd0 U24.out)
  have LX : Hid (x.length = n) := Lib.hid (by
    rcases hx' with ⟨_, _, _, h1, h2⟩ | ⟨_, h, _⟩
    · exact h2.length_eq.trans HN.out
    · simp at h)
  have LY : Hid (y.length = n') := Lib.hid (by
    rcases hy' with ⟨_, _, _, h1, h2⟩ | ⟨_, h, _⟩
    · exact h2.length_eq.trans HN'.out
    · simp at h)
  have OXX : Hid (Ow encPr 42 w4 w2.heap.size (.slice Ax n cx) x) := Lib.hid (by have := OX4.out; rw [LX.out] at this; exact this)
  have OYY : Hid (Ow encPr 42 w4 w3.heap.size (.slice Ay n' cy) y) := Lib.hid (by have := OY.out; rw [LY.out] at this; exact this)
  rw [LX.out, LY.out]
  clear sx sy hx' hy' GA2 GB2 EA2 EB2 HX HY OX4 OY U24
  have D0 : Hid (PtS w4 (w4.alloc (.cells #[.int .i64 0, .int .i64 0] 42)) w4.heap.size (.slice none 0 0) (.slice none 0 0) [] [] none) := Lib.hid ⟨(Upd.refl [] w4).alloc _, Ow.nil _ _ _ _, Ow.nil _ _ _ _, Blk.new w4 _ _, Nat.le_refl _, by simp [Value.ownBlock], by simp [Value.ownBlock], by simp [Value.ownBlock]⟩
  go_wp2_with fail
  generalize (w4.alloc (.cells #[.int .i64 0, .int .i64 0] 42)) = w5 at *
  generalize w4.heap.size = fb at *
  go_loopw [71, 19, 20, 22] (fun v va vb vc wr => ∃ (k : Nat) (A1 : Option Addr) (n1 c1 : Nat) (A2 : Option Addr) (n2 c2 : Nat) (b : Bool), v = .int .i64 k ∧ va = .slice A1 n1 c1 ∧ vb = .slice A2 n2 c2 ∧ vc = .bool b ∧ k ≤ n ∧ Hid (((x.take k).filter (betw fr to_)).length = n1 ∧ ((x.take k).filter (hasV y)).length = n2 ∧ (floorF (x.take k) fr).isSome = b) ∧ Hid (PtS w4 wr fb (.slice A1 n1 c1) (.slice A2 n2 c2) ((x.take k).filter (betw fr to_)) ((x.take k).filter (hasV y)) (floorF (x.take k) fr))) (fun v _ _ _ _ => n - (intOf v).toNat)
  case atStart => exact ⟨0, none, 0, 0, none, 0, 0, false, rfl, rfl, rfl, rfl, Nat.zero_le _, Lib.hid ⟨rfl, rfl, rfl⟩, D0⟩
  case round =>
    obtain ⟨k, A1, n1, c1, A2, n2, c2, b, rfl, rfl, rfl, rfl, hk, HL, D⟩ := hrel
    rename World => wr
    clear D0
    by_cases hkn : k < n
    · obtain ⟨p, hp⟩ : ∃ p, x[k]? = some p := ⟨_, List.getElem?_eq_getElem (by rw [LX.out]; exact hkn)⟩
      have OXR : Hid (Ow encPr 42 wr w2.heap.size (.slice Ax n cx) x) := Lib.hid (OXX.out.upd0 D.out.u)
      obtain ⟨g, cg, cur, e1, -⟩ := own_form OXR.out (by rw [LX.out]; omega)
      injection e1 with e1 en e1'
      subst e1 e1'
      have k0 : wr.cell? ⟨g, k * 2, none⟩ = some (.int .i64 p.1) := OXR.out.at_ hp 0 _ rfl
      have k1 : wr.cell? ⟨g, k * 2 + 1, none⟩ = some (.int .i64 p.2) := OXR.out.at_ hp 1 _ rfl
      have q1 : (0 : Int) ≤ (k : Int) := by omega
      have q2 : (k : Int) < (n : Int) := by omega
      have HP := Lib.hid hp
      have NL : Hid (n1 ≤ 60 ∧ n2 ≤ 60) := Lib.hid ⟨by rw [← HL.out.1]; exact pt_len (by rw [LX.out]; omega), by rw [← HL.out.2.1]; exact pt_len (by rw [LX.out]; omega)⟩
      obtain ⟨pb, hpb⟩ : ∃ pb, wr.heap.size = pb := ⟨_, rfl⟩
      have PB0 : Hid (Blk (wr.alloc (.cells #[.int .i64 p.1, .int .i64 p.2] 42)) pb 42 #[.int .i64 p.1, .int .i64 p.2]) := Lib.hid (by rw [← hpb]; exact Blk.new wr _ _)
      have DA := Lib.hid (D.out.upd0 ((Upd.refl [] wr).alloc (.cells #[.int .i64 p.1, .int .i64 p.2] 42)))
      have NA : Hid ((∀ z, (Value.slice A1 n1 c1).ownBlock = some z → z < pb) ∧ (∀ z, (Value.slice A2 n2 c2).ownBlock = some z → z < pb) ∧ fb < pb) := Lib.hid ⟨fun z hz => by rw [← hpb]; exact (own_lt D.out.a hz).2, fun z hz => by rw [← hpb]; exact (own_lt D.out.b hz).2, by rw [← hpb]; exact D.out.f.lt⟩
      have hbp : Hid (∀ z, (p.1 ≤ fr) = z → z = (p.1 ≤ fr)) := Lib.hid (fun z h => h.symm)
      clear hp en D hbp
      go_upto_region 14 with fail
      clear k0 k1 hpb
      generalize (wr.alloc (.cells #[.int .i64 p.1, .int .i64 p.2] 42)) = wa at *
      go_cut [84] from 75 to 84 (fun t wx => ∃ bt, t = .bool bt ∧ Hid (betw fr to_ p = bt) ∧ wa = wx)
      case first =>
        have p0 : wa.cell? ⟨pb, 0, none⟩ = some (.int .i64 p.1) := PB0.out.cell 0
        by_cases ha : fr ≤ p.1
        · have da : decide (fr ≤ p.1) = true := by simpa using ha
          have HB : Hid (betw fr to_ p = decide (p.1 ≤ to_)) := Lib.hid (by unfold betw; rw [da]; rfl)
          clear ha
          go_wp2_with fail
          go_meet
          exact ⟨_, rfl, HB, rfl⟩
        · have da : decide (fr ≤ p.1) = false := by simpa using ha
          have HB : Hid (betw fr to_ p = false) := Lib.hid (by unfold betw; rw [da]; rfl)
          clear ha
          go_wp2_with fail
          go_meet
          exact ⟨_, rfl, HB, rfl⟩
      case rest =>
        obtain ⟨bt, rfl, HBT, rfl⟩ := hcut
        go_upto_if 84 with fail
        go_cut [19] from 85 to 88 (fun v wx => ∃ (A3 : Option Addr) (n3 c3 : Nat), v = .slice A3 n3 c3 ∧ n3 ≤ 61 ∧ Hid (((x.take (k + 1)).filter (betw fr to_)).length = n3) ∧ Hid (PtS w4 wx fb (.slice A3 n3 c3) (.slice A2 n2 c2) ((x.take (k + 1)).filter (betw fr to_)) ((x.take k).filter (hasV y)) (floorF (x.take k) fr)) ∧ Hid (Blk wx pb 42 #[.int .i64 p.1, .int .i64 p.2]))
        case first =>
          have p0 : wa.cell? ⟨pb, 0, none⟩ = some (.int .i64 p.1) := PB0.out.cell 0
          have p1 : wa.cell? ⟨pb, 1, none⟩ = some (.int .i64 p.2) := PB0.out.cell 1
          have SN := Lib.hid (filter_snoc (f := betw fr to_) HP.out)
          rw [HBT.out] at SN
          cases bt with
          | false =>
            have SN2 : Hid ((x.take (k + 1)).filter (betw fr to_) = (x.take k).filter (betw fr to_)) := Lib.hid (by rw [SN.out]; simp)
            go_wp2_with fail
            go_meet
            exact ⟨A1, n1, c1, rfl, by have := NL.out; omega, Lib.hid (by rw [SN2.out]; exact HL.out.1), Lib.hid (by rw [SN2.out]; exact DA.out), PB0⟩
          | true =>
            have SN2 : Hid ((x.take (k + 1)).filter (betw fr to_) = (x.take k).filter (betw fr to_) ++ [p]) := Lib.hid (by rw [SN.out]; simp)
            have DB := Lib.hid (DA.out.upd0 ((Upd.refl [] wa).alloc (.cells #[.int .i64 p.1, .int .i64 p.2] 42)))
            have PB := Lib.hid (PB0.out.upd ((Upd.refl [] wa).alloc (.cells #[.int .i64 p.1, .int .i64 p.2] 42)) (by simp))
            have OA : Hid ((wa.alloc (.cells #[.int .i64 p.1, .int .i64 p.2] 42)).ownsRow w4.heap.size 42 2 (.slice A1 n1 c1) n1 (flat encPr ((x.take k).filter (betw fr to_)))) := Lib.hid (by have := DB.out.a; unfold Ow at this; rw [HL.out.1] at this; exact this)
            have nl := NL.out
            go_wp2_with (at_builtin; refine stopped ?_)
            refine Lib.hid ?_
            refine wpList_app _ (by rfl) (.tmp 85) (.tmp 87) _ (by rfl) elem_pair (.slice A1 n1 c1) _ (by rfl) (by rfl) OA.out (.of_blk (Blk.new _ _ _) (m := 1) 1 rfl) (by intro u hu; simp at hu; rcases hu with rfl | rfl <;> rfl) (by simp only [maxLen]; omega) (by omega) DB.out.u.size ?_
            intro v7 w7 o7 u7 b7
            have LN : Hid (((x.take k).filter (betw fr to_) ++ [p]).length = n1 + 1) := Lib.hid (by rw [List.length_append, HL.out.1]; rfl)
            have D7 := Lib.hid (DB.out.pushA (x := p) (by unfold Ow; rw [LN.out, flat_append, flat_one_]; exact o7) u7 b7)
            have P7 := Lib.hid (PB.out.upd u7 (fun hm => by have := NA.out.1 pb (by simpa using hm); omega))
            obtain ⟨A7, c7, rfl, _, _⟩ := own_slice o7
            clear o7 u7 b7 OA DB PB p0 p1
            go_wp2_with fail
            go_meet
            exact ⟨A7, n1 + 1, c7, rfl, by omega, Lib.hid (by rw [SN2.out]; exact LN.out), Lib.hid (by rw [SN2.out]; exact D7.out), P7⟩
        case rest =>
          obtain ⟨A3, n3, c3, rfl, hn3, L3, D3, PB⟩ := hcut
          rename World => wb
          clear PB0 DA
          have p0 : wb.cell? ⟨pb, 0, none⟩ = some (.int .i64 p.1) := PB.out.cell 0
          have FS := Lib.hid (floor_snoc (key := fr) HP.out)
          go_upto_if 92 with fail
          go_cut [22] from 89 to 93 (fun v wx => ∃ b', v = .bool b' ∧ Hid ((floorF (x.take (k + 1)) fr).isSome = b') ∧ Hid (PtS w4 wx fb (.slice A3 n3 c3) (.slice A2 n2 c2) ((x.take (k + 1)).filter (betw fr to_)) ((x.take k).filter (hasV y)) (floorF (x.take (k + 1)) fr)) ∧ Hid (Blk wx pb 42 #[.int .i64 p.1, .int .i64 p.2]))
          case first =>
            by_cases hf : p.1 ≤ fr
            · have df : decide (p.1 ≤ fr) = true := by simpa using hf
              rw [if_pos hf] at FS
              have p1 : wb.cell? ⟨pb, 1, none⟩ = some (.int .i64 p.2) := PB.out.cell 1
              obtain ⟨x0, hx0⟩ : ∃ z, ((floorF (x.take k) fr).map (·.1)).getD 0 = z := ⟨_, rfl⟩
              obtain ⟨y0, hy0⟩ : ∃ z, ((floorF (x.take k) fr).map (·.2)).getD 0 = z := ⟨_, rfl⟩
              have f0 : wb.cell? ⟨fb, 0, none⟩ = some (.int .i64 x0) := by rw [← hx0]; exact D3.out.f.cell 0
              have f1 : wb.cell? ⟨fb, 1, none⟩ = some (.int .i64 y0) := by rw [← hy0]; exact D3.out.f.cell 1
              have fz : ∀ k, wb.frozen? ⟨fb, k, none⟩ = false := fun k => D3.out.f.frozen k
              have fl : fb < wb.heap.size := D3.out.f.lt
              have D4 := Lib.hid (D3.out.putF (o2 := some p) p.1 p.2 rfl rfl)
              have P4 : Hid (Blk ((wb.setCell ⟨fb, 0, none⟩ (.int .i64 p.1)).setCell ⟨fb, 1, none⟩ (.int .i64 p.2)) pb 42 #[.int .i64 p.1, .int .i64 p.2]) := Lib.hid ((PB.out.far (by have := NA.out.2.2; simp; omega) _).far (by have := NA.out.2.2; simp; omega) _)
              clear hx0 hy0
              go_wp2_with fail
              go_meet
              exact ⟨true, rfl, Lib.hid (by rw [FS.out]; rfl), Lib.hid (by rw [FS.out]; exact D4.out), P4⟩
            · have df : decide (p.1 ≤ fr) = false := by simpa using hf
              rw [if_neg hf] at FS
              go_wp2_with fail
              go_meet
              exact ⟨b, rfl, Lib.hid (by rw [FS.out]; exact HL.out.2.2), Lib.hid (by rw [FS.out]; exact D3.out), PB⟩
          case rest =>
            obtain ⟨b', rfl, HB', D4, PB4⟩ := hcut
            rename World => wc
            clear D3 PB p0
            have pc0 : wc.cell? ⟨pb, 0, none⟩ = some (.int .i64 p.1) := PB4.out.cell 0
            have OYC := Lib.hid (OYY.out.upd0 D4.out.u)
            have SN := Lib.hid (filter_snoc (f := hasV y) HP.out)
            go_wp2_with fail
            refine (r_find Ay n' cy y p.1 wc OYC.out.rd LY.out (by omega)).mono ?_
            rintro e w' ⟨kk, rfl, hf, rfl⟩
            clear pc0
            cases hg : Assoc.get y p.1 with
            | none =>
              obtain rfl := find_none hf hg
              have SN2 : Hid ((x.take (k + 1)).filter (hasV y) = (x.take k).filter (hasV y)) := Lib.hid (by rw [SN.out]; unfold hasV; rw [hg]; simp)
              clear hf hg
              go_wp2_with fail
              refine wp_invN [] [] (by kernel_rfl) (by kernel_rfl) (by kernel_rfl) trivial ?_
              with_reducible apply wpV_light
              · simp only [lightOp]
              · intro W hU hF
                clear hU hF
                go_simp
                exact rfl
              simp only [Act.put, List.setIfInBounds_toArray, List.set_cons_zero, List.set_cons_succ]
              with_reducible apply wpV_light
              · simp only [lightOp]
              · intro W hU hF
                clear hU hF
                go_simp
                exact rfl
              simp only [Act.put, List.setIfInBounds_toArray, List.set_cons_zero, List.set_cons_succ]
              with_reducible apply wpV_light
              · simp only [lightOp]
              · intro W hU hF
                clear hU hF
                go_simp
                exact rfl
              simp only [Act.put, List.setIfInBounds_toArray, List.set_cons_zero, List.set_cons_succ]
              refine wpV_skip (by rfl) (by simp only [lightOp]) ?_
              simp only [Act.put, List.setIfInBounds_toArray, List.set_cons_zero, List.set_cons_succ]
              refine wpV_skip (by rfl) (by simp only [lightOp]) ?_
              simp only [Act.put, List.setIfInBounds_toArray, List.set_cons_zero, List.set_cons_succ]
              refine wpV_skip (by rfl) (by simp only [lightOp]) ?_
              simp only [Act.put, List.setIfInBounds_toArray, List.set_cons_zero, List.set_cons_succ]
              refine wpV_skip (by rfl) (by simp only [lightOp]) ?_
              simp only [Act.put, List.setIfInBounds_toArray, List.set_cons_zero, List.set_cons_succ]
              refine wpV_skip (by rfl) (by simp only [lightOp]) ?_
              simp only [Act.put, List.setIfInBounds_toArray, List.set_cons_zero, List.set_cons_succ]
              refine wpV_skip (by rfl) (by simp only [lightOp]) ?_
              simp only [Act.put, List.setIfInBounds_toArray, List.set_cons_zero, List.set_cons_succ]
              with_reducible apply wpV_light
              · simp only [lightOp]
              · intro W hU hF
                clear hU hF
                go_simp
                exact rfl
              simp only [Act.put, List.setIfInBounds_toArray, List.set_cons_zero, List.set_cons_succ]
              refine wpV_end (fun W hU _ _ => ?_)
              have U6 : Hid (Upd [] wc W) := Lib.hid ((Upd.refl [] wc).drew.trans hU)
              clear hU
              refine wpT_end ?_
              go_wp2_with fail
              go_roundw
              case rel => exact ⟨k + 1, A3, n3, c3, A2, n2, c2, b', by go_num, rfl, rfl, rfl, by omega, Lib.hid ⟨L3.out, by rw [SN2.out]; exact HL.out.2.1, HB'.out⟩, Lib.hid (by rw [SN2.out]; exact (D4.out.upd0 U6.out))⟩
              case measure => simp [intOf]; omega
            | some v =>
              obtain ⟨i, rfl, hi⟩ := find_some hf hg
              have hin : i < n' := by rw [← LY.out]; exact (List.getElem?_eq_some_iff.1 hi).1
              obtain ⟨gy, cgy, cury, e1, -⟩ := own_form OYC.out (by rw [LY.out]; omega)
              injection e1 with e1 en e1'
              subst e1 e1'
              have HI := Lib.hid hi
              have CS : Hid (∀ W, Upd [] wc.drew W → W.cell? ⟨gy, i * 2, none⟩ = some (.int .i64 p.1) ∧ W.cell? ⟨gy, i * 2 + 1, none⟩ = some (.int .i64 v) ∧ W.cell? ⟨pb, 0, none⟩ = some (.int .i64 p.1) ∧ W.cell? ⟨pb, 1, none⟩ = some (.int .i64 p.2)) := Lib.hid (fun W hW => by
                have hu := (Upd.refl [] wc).drew.trans hW
                exact ⟨(OYC.out.upd0 hu).at_ HI.out 0 _ rfl, (OYC.out.upd0 hu).at_ HI.out 1 _ rfl, (PB4.out.upd hu (by simp)).cell 0, (PB4.out.upd hu (by simp)).cell 1⟩)
              have r1 : (0 : Int) ≤ (i : Int) := by omega
              have r2 : (i : Int) < (n' : Int) := by omega
              have r3 : decide ((0 : Int) ≤ (i : Int)) = true := by simp
              have HGV := Lib.hid hg
              clear hf hg hi en
              by_cases hv : v = p.2
              · subst hv
                have SN2 : Hid ((x.take (k + 1)).filter (hasV y) = (x.take k).filter (hasV y) ++ [p]) := Lib.hid (by rw [SN.out]; unfold hasV; rw [HGV.out]; simp)
                go_wp2_with fail
                refine wp_invN [] [] (by kernel_rfl) (by kernel_rfl) (by kernel_rfl) trivial ?_
                with_reducible apply wpV_light
                · simp only [lightOp]
                · intro W hU hF
                  have f0 := CS.out W hU
                  clear hU hF
                  go_simp
                  exact rfl
                simp only [Act.put, List.setIfInBounds_toArray, List.set_cons_zero, List.set_cons_succ]
                with_reducible apply wpV_light
                · simp only [lightOp]
                · intro W hU hF
                  have f0 := CS.out W hU
                  clear hU hF
                  go_simp
                  exact rfl
                simp only [Act.put, List.setIfInBounds_toArray, List.set_cons_zero, List.set_cons_succ]
                with_reducible apply wpV_light
                · simp only [lightOp]
                · intro W hU hF
                  have f0 := CS.out W hU
                  clear hU hF
                  go_simp
                  exact rfl
                simp only [Act.put, List.setIfInBounds_toArray, List.set_cons_zero, List.set_cons_succ]
                with_reducible apply wpV_light
                · simp only [lightOp]
                · intro W hU hF
                  have f0 := CS.out W hU
                  clear hU hF
                  go_simp
                  exact rfl
                simp only [Act.put, List.setIfInBounds_toArray, List.set_cons_zero, List.set_cons_succ]
                with_reducible apply wpV_light
                · simp only [lightOp]
                · intro W hU hF
                  have f0 := CS.out W hU
                  clear hU hF
                  go_simp
                  exact rfl
                simp only [Act.put, List.setIfInBounds_toArray, List.set_cons_zero, List.set_cons_succ]
                with_reducible apply wpV_light
                · simp only [lightOp]
                · intro W hU hF
                  have f0 := CS.out W hU
                  clear hU hF
                  go_simp
                  exact rfl
                simp only [Act.put, List.setIfInBounds_toArray, List.set_cons_zero, List.set_cons_succ]
                with_reducible apply wpV_light
                · simp only [lightOp]
                · intro W hU hF
                  have f0 := CS.out W hU
                  clear hU hF
                  go_simp
                  exact rfl
                simp only [Act.put, List.setIfInBounds_toArray, List.set_cons_zero, List.set_cons_succ]
                with_reducible apply wpV_light
                · simp only [lightOp]
                · intro W hU hF
                  have f0 := CS.out W hU
                  clear hU hF
                  go_simp
                  exact rfl
                simp only [Act.put, List.setIfInBounds_toArray, List.set_cons_zero, List.set_cons_succ]
                with_reducible apply wpV_light
                · simp only [lightOp]
                · intro W hU hF
                  have f0 := CS.out W hU
                  clear hU hF
                  go_simp
                  exact rfl
                simp only [Act.put, List.setIfInBounds_toArray, List.set_cons_zero, List.set_cons_succ]
                with_reducible apply wpV_light
                · simp only [lightOp]
                · intro W hU hF
                  have f0 := CS.out W hU
                  clear hU hF
                  go_simp
                  exact rfl
                simp only [Act.put, List.setIfInBounds_toArray, List.set_cons_zero, List.set_cons_succ]
                refine wpV_end (fun W hU _ _ => ?_)
                have U6 : Hid (Upd [] wc W) := Lib.hid ((Upd.refl [] wc).drew.trans hU)
                clear hU CS
                refine wpT_end ?_
                have D6 := Lib.hid (D4.out.upd0 U6.out)
                have P6 := Lib.hid (PB4.out.upd U6.out (by simp))
                have p0 : W.cell? ⟨pb, 0, none⟩ = some (.int .i64 p.1) := P6.out.cell 0
                have p1 : W.cell? ⟨pb, 1, none⟩ = some (.int .i64 p.2) := P6.out.cell 1
                have DB := Lib.hid (D6.out.upd0 ((Upd.refl [] W).alloc (.cells #[.int .i64 p.1, .int .i64 p.2] 42)))
                have OA : Hid ((W.alloc (.cells #[.int .i64 p.1, .int .i64 p.2] 42)).ownsRow w4.heap.size 42 2 (.slice A2 n2 c2) n2 (flat encPr ((x.take k).filter (hasV y)))) := Lib.hid (by have := DB.out.b; unfold Ow at this; rw [HL.out.2.1] at this; exact this)
                have nl := NL.out
                go_wp2_with (at_builtin; refine stopped ?_)
                refine Lib.hid ?_
                refine wpList_app _ (by rfl) (.tmp 108) (.tmp 110) _ (by rfl) elem_pair (.slice A2 n2 c2) _ (by rfl) (by rfl) OA.out (.of_blk (Blk.new _ _ _) (m := 1) 1 rfl) (by intro u hu; simp at hu; rcases hu with rfl | rfl <;> rfl) (by simp only [maxLen]; omega) (by omega) DB.out.u.size ?_
                intro v7 w7 o7 u7 b7
                have LN : Hid (((x.take k).filter (hasV y) ++ [p]).length = n2 + 1) := Lib.hid (by rw [List.length_append, HL.out.2.1]; rfl)
                have D7 := Lib.hid (DB.out.pushB (x := p) (by unfold Ow; rw [LN.out, flat_append, flat_one_]; exact o7) u7 b7)
                obtain ⟨A7, c7, rfl, _, _⟩ := own_slice o7
                clear o7 u7 b7 OA DB p0 p1
                go_wp2_with fail
                go_roundw
                case rel => exact ⟨k + 1, A3, n3, c3, A7, n2 + 1, c7, b', by go_num, rfl, rfl, rfl, by omega, Lib.hid ⟨L3.out, by rw [SN2.out]; exact LN.out, HB'.out⟩, Lib.hid (by rw [SN2.out]; exact D7.out)⟩
                case measure => simp [intOf]; omega
              · have SN2 : Hid ((x.take (k + 1)).filter (hasV y) = (x.take k).filter (hasV y)) := Lib.hid (by rw [SN.out]; unfold hasV; rw [HGV.out]; simp [hv])
                go_wp2_with fail
                refine wp_invN [] [] (by kernel_rfl) (by kernel_rfl) (by kernel_rfl) trivial ?_
                with_reducible apply wpV_light
                · simp only [lightOp]
                · intro W hU hF
                  have f0 := CS.out W hU
                  clear hU hF
                  go_simp
                  exact rfl
                simp only [Act.put, List.setIfInBounds_toArray, List.set_cons_zero, List.set_cons_succ]
                with_reducible apply wpV_light
                · simp only [lightOp]
                · intro W hU hF
                  have f0 := CS.out W hU
                  clear hU hF
                  go_simp
                  exact rfl
                simp only [Act.put, List.setIfInBounds_toArray, List.set_cons_zero, List.set_cons_succ]
                with_reducible apply wpV_light
                · simp only [lightOp]
                · intro W hU hF
                  have f0 := CS.out W hU
                  clear hU hF
                  go_simp
                  exact rfl
                simp only [Act.put, List.setIfInBounds_toArray, List.set_cons_zero, List.set_cons_succ]
                with_reducible apply wpV_light
                · simp only [lightOp]
                · intro W hU hF
                  have f0 := CS.out W hU
                  clear hU hF
                  go_simp
                  exact rfl
                simp only [Act.put, List.setIfInBounds_toArray, List.set_cons_zero, List.set_cons_succ]
                with_reducible apply wpV_light
                · simp only [lightOp]
                · intro W hU hF
                  have f0 := CS.out W hU
                  clear hU hF
                  go_simp
                  exact rfl
                simp only [Act.put, List.setIfInBounds_toArray, List.set_cons_zero, List.set_cons_succ]
                with_reducible apply wpV_light
                · simp only [lightOp]
                · intro W hU hF
                  have f0 := CS.out W hU
                  clear hU hF
                  go_simp
                  exact rfl
                simp only [Act.put, List.setIfInBounds_toArray, List.set_cons_zero, List.set_cons_succ]
                with_reducible apply wpV_light
                · simp only [lightOp]
                · intro W hU hF
                  have f0 := CS.out W hU
                  clear hU hF
                  go_simp
                  exact rfl
                simp only [Act.put, List.setIfInBounds_toArray, List.set_cons_zero, List.set_cons_succ]
                with_reducible apply wpV_light
                · simp only [lightOp]
                · intro W hU hF
                  have f0 := CS.out W hU
                  clear hU hF
                  go_simp
                  exact rfl
                simp only [Act.put, List.setIfInBounds_toArray, List.set_cons_zero, List.set_cons_succ]
                with_reducible apply wpV_light
                · simp only [lightOp]
                · intro W hU hF
                  have f0 := CS.out W hU
                  clear hU hF
                  go_simp
                  exact rfl
                simp only [Act.put, List.setIfInBounds_toArray, List.set_cons_zero, List.set_cons_succ]
                with_reducible apply wpV_light
                · simp only [lightOp]
                · intro W hU hF
                  have f0 := CS.out W hU
                  clear hU hF
                  go_simp
                  exact rfl
                simp only [Act.put, List.setIfInBounds_toArray, List.set_cons_zero, List.set_cons_succ]
                refine wpV_end (fun W hU _ _ => ?_)
                have U6 : Hid (Upd [] wc W) := Lib.hid ((Upd.refl [] wc).drew.trans hU)
                clear hU CS
                refine wpT_end ?_
                go_wp2_with fail
                go_roundw
                case rel => exact ⟨k + 1, A3, n3, c3, A2, n2, c2, b', by go_num, rfl, rfl, rfl, by omega, Lib.hid ⟨L3.out, by rw [SN2.out]; exact HL.out.2.1, HB'.out⟩, Lib.hid (by rw [SN2.out]; exact (D4.out.upd0 U6.out))⟩
                case measure => simp [intOf]; omega
    · obtain rfl : k = n := by omega
      have XT : Hid (x.take k = x) := Lib.hid (List.take_of_length_le (by rw [LX.out]; exact Nat.le_refl _))
      obtain ⟨x0, hx0⟩ : ∃ z, ((floorF x fr).map (·.1)).getD 0 = z := ⟨_, rfl⟩
      obtain ⟨y0, hy0⟩ : ∃ z, ((floorF x fr).map (·.2)).getD 0 = z := ⟨_, rfl⟩
      have hb : (floorF x fr).isSome = b := by have := HL.out.2.2; rwa [XT.out] at this
      rw [XT.out] at HL D
      have FB : Hid (Blk wr fb 42 #[.int .i64 x0, .int .i64 y0]) := Lib.hid (by have := D.out.f; unfold cellsO at this; rw [hx0, hy0] at this; exact this)
      have SX1 := Lib.hid (SX.out.upd0 D.out.u)
      have SY1 := Lib.hid (SY.out.upd0 D.out.u)
      have OX1 := Lib.hid (OXX.out.upd0 D.out.u)
      have OB1 := Lib.hid D.out.a
      have OL1 := Lib.hid D.out.b
      have U1 := Lib.hid (U4.out.trans D.out.u)
      have NL : Hid (n1 ≤ 60 ∧ n2 ≤ 60) := Lib.hid ⟨by rw [← HL.out.1, ← XT.out]; exact pt_len (by rw [LX.out]; omega), by rw [← HL.out.2.1, ← XT.out]; exact pt_len (by rw [LX.out]; omega)⟩
      clear D
      go_wp2_with fail
      refine (s_floor _ sa x fr wr SX1.out).mono ?_
      rintro e w5' ⟨rfl, u5⟩
      unfold toldP
      rw [hx0, hy0, hb]
      have UA := Lib.hid (u5.alloc (.cells #[.int .i64 x0, .int .i64 y0] 42))
      have BB : Hid (Blk (w5'.alloc (.cells #[.int .i64 x0, .int .i64 y0] 42)) w5'.heap.size 42 #[.int .i64 x0, .int .i64 y0]) := Lib.hid (Blk.new w5' _ _)
      clear u5 hx0 hy0 hb
      go_wp2_with fail
      generalize (w5'.alloc (.cells #[.int .i64 x0, .int .i64 y0] 42)) = w6 at *
      generalize w5'.heap.size = fb2 at *
      refine (s_range _ sa x fr to_ w6 (SX1.out.upd0 UA.out)).mono ?_
      rintro e w7 ⟨vr, rfl, orr, u7⟩
      rw [show rangeF x fr to_ = x.filter (betw fr to_) from rfl] at orr
      obtain ⟨Ar, cr, rfl, _, _⟩ := own_slice orr
      rw [HL.out.1] at orr ⊢
      have OR7 := Lib.hid orr
      have U17 := Lib.hid (UA.out.trans u7)
      have BB7 := Lib.hid (BB.out.upd u7 (by simp))
      clear u7 orr UA BB
      go_wp2_with fail
      refine (pairs_rd Ar A1 n1 cr n1 c1 _ _ w7 OR7.out.rd (OB1.out.upd0 U17.out).rd HL.out.1 HL.out.1 (by have := NL.out; omega) (by have := NL.out; omega)).mono ?_
      rintro e w8 ⟨rfl, u8⟩
      rw [decide_eq_true rfl]
      have U18 := Lib.hid (U17.out.trans u8)
      have BB8 := Lib.hid (BB7.out.upd u8 (by simp))
      have FB8 := Lib.hid (FB.out.upd U18.out (by simp))
      clear u8 U17 BB7 OR7 OB1 FB
      have g0 : w8.cell? ⟨fb2, 0, none⟩ = some (.int .i64 x0) := BB8.out.cell 0
      have g1 : w8.cell? ⟨fb2, 1, none⟩ = some (.int .i64 y0) := BB8.out.cell 1
      have g2 : w8.cell? ⟨fb, 0, none⟩ = some (.int .i64 x0) := FB8.out.cell 0
      have g3 : w8.cell? ⟨fb, 1, none⟩ = some (.int .i64 y0) := FB8.out.cell 1
      have A9 : Hid (Upd [] w8 (w8.alloc (.cells #[.pointer (some ⟨sa, 0, none⟩), .pointer (some ⟨sb, 0, none⟩)] 26))) := Lib.hid ((Upd.refl [] w8).alloc _)
      have R9 : Hid (Rd encSp (w8.alloc (.cells #[.pointer (some ⟨sa, 0, none⟩), .pointer (some ⟨sb, 0, none⟩)] 26)) (.slice (some ⟨w8.heap.size, 0, none⟩) 2 2) [some sa, some sb]) := Lib.hid (.of_blk (Blk.new w8 _ _) (m := 2) 2 rfl)
      go_wp2_with fail
      clear g0 g1 g2 g3
      generalize (w8.alloc (.cells #[.pointer (some ⟨sa, 0, none⟩), .pointer (some ⟨sb, 0, none⟩)] 26)) = w9 at *
      have U19 := Lib.hid (U18.out.trans A9.out)
      refine (s_common _ 2 2 [some sa, some sb] [x, y] w9 R9.out rfl rfl (by omega) (by omega) (by unfold maxLen; omega) (fun i hi => ?_)).mono ?_
      · match i, hi with
        | 0, _ => exact SnapV.of (SX1.out.upd0 U19.out)
        | 1, _ => exact SnapV.of (SY1.out.upd0 U19.out)
      rintro e w10 ⟨sc, rfl, s10, u10⟩
      rw [com_two] at s10
      have S10 := Lib.hid s10
      have U110 := Lib.hid (U19.out.trans u10)
      clear s10 u10 U19 A9 R9 U18 BB8 FB8
      go_wp2_with fail
      refine (s_all _ sc _ w10 S10.out).mono ?_
      rintro e w11 ⟨vc, rfl, oc, u11⟩
      rw [show x.filter (fun p => decide (Assoc.get y p.1 = some p.2)) = x.filter (hasV y) from rfl] at oc
      obtain ⟨Ac, cc, rfl, _, _⟩ := own_slice oc
      rw [HL.out.2.1] at oc ⊢
      have OC := Lib.hid oc
      have U111 := Lib.hid (U110.out.trans u11)
      clear oc u11 S10 U110
      go_wp2_with fail
      refine (pairs_rd Ac A2 n2 cc n2 c2 _ _ w11 OC.out.rd (OL1.out.upd0 U111.out).rd HL.out.2.1 HL.out.2.1 (by have := NL.out; omega) (by have := NL.out; omega)).mono ?_
      rintro e w12 ⟨rfl, u12⟩
      rw [decide_eq_true rfl]
      have U112 := Lib.hid (U111.out.trans u12)
      clear u12 U111 OC OL1
      have A13 : Hid (Upd [] w12 (w12.alloc (.cells #[.pointer (some ⟨sa, 0, none⟩)] 26))) := Lib.hid ((Upd.refl [] w12).alloc _)
      have R13 : Hid (Rd encSp (w12.alloc (.cells #[.pointer (some ⟨sa, 0, none⟩)] 26)) (.slice (some ⟨w12.heap.size, 0, none⟩) 1 1) [some sa]) := Lib.hid (.of_blk (Blk.new w12 _ _) (m := 1) 1 rfl)
      go_wp2_with fail
      generalize (w12.alloc (.cells #[.pointer (some ⟨sa, 0, none⟩)] 26)) = w13 at *
      have U113 := Lib.hid (U112.out.trans A13.out)
      refine (s_common _ 1 1 [some sa] [x] w13 R13.out rfl rfl (by omega) (by omega) (by unfold maxLen; omega) (fun i hi => ?_)).mono ?_
      · match i, hi with
        | 0, _ => exact SnapV.of (SX1.out.upd0 U113.out)
      rintro e w14 ⟨sd, rfl, s14, u14⟩
      rw [com_one] at s14
      have S14 := Lib.hid s14
      have U114 := Lib.hid (U113.out.trans u14)
      clear s14 u14 U113 A13 R13 U112
      go_wp2_with fail
      refine (s_all _ sd _ w14 S14.out).mono ?_
      rintro e w15 ⟨vd, rfl, od, u15⟩
      obtain ⟨Ad, cd, rfl, _, _⟩ := own_slice od
      rw [LX.out] at od ⊢
      have OD := Lib.hid od
      have U115 := Lib.hid (U114.out.trans u15)
      clear od u15 S14 U114
      go_wp2_with fail
      refine (pairs_rd Ad Ax k cd k cx _ _ w15 OD.out.rd (OX1.out.upd0 U115.out).rd LX.out LX.out (by omega) (by omega)).mono ?_
      rintro e w16 ⟨rfl, u16⟩
      rw [decide_eq_true rfl]
      have U116 := Lib.hid (U115.out.trans u16)
      clear u16 U115 OD
      go_wp2_with fail
      refine (s_common none 0 0 [] [] w16 (Rd.nil _ _ _) rfl rfl (by omega) (by omega) (by unfold maxLen; omega) (fun i hi => by omega)).mono ?_
      rintro e w17 ⟨se, rfl, s17, u17⟩
      have S17 := Lib.hid s17
      have U117 := Lib.hid (U1.out.trans (U116.out.trans u17))
      clear s17 u17 U116
      go_wp2_with fail
      refine (s_len _ se _ w17 S17.out).mono ?_
      rintro e w' ⟨rfl, rfl⟩
      rw [com_nil]
      go_wp2_with fail
      refine (alive27 w17).mono ?_; rintro e w9 ⟨rfl, u9⟩
      have U9 := Lib.hid (U117.out.trans u9)
      clear u9
      go_wp2_with fail
      go_ret
      exact ⟨rfl, U9.out⟩
end Go.Proofs.Ythdjbflbhgbckaa

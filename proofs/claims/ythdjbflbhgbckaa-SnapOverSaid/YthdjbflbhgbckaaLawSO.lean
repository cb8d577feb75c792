/-
  SnapOver, the walk.
-/
import Derived.Test.YthdjbflbhgbckaaOver
set_option linter.unusedVariables false
namespace Go.Proofs.Ythdjbflbhgbckaa
open Go.RowKit Stab Snap Mrg
attribute [local go_sem] litStep_value

/-- What Back tells at a place. -/
def bo (r : PL) (m : Nat) : Option (Int × Int) := if m = 0 then none else r[m - 1]?
def lenV : Value → Nat
  | .slice _ n _ => n
  | _ => 0
set_option maxRecDepth 100000 in
set_option maxHeartbeats 8000000 in
theorem law_sover (A : Option Addr) (n c : Nat) (l : PL) (w : World) (h : Rd encPr w (.slice A n c) l) (hn : l.length = n) :
    Calls Try.prog 4 #[.slice A n c] w fun e w' => e = .returned (.bool true) ∧ Upd [] w w' := by
  have H := Lib.hid h
  have HN := Lib.hid hn
  clear h hn
  go_enter Try.func4, Try.ntmps4
  by_cases h6 : 60 < n
  · have d6 : decide ((60 : Int) < (n : Int)) = true := by simp; omega
    have U0 : Hid (Upd [] w w) := Lib.hid (.refl _ _)
    go_wp2_with fail
    refine (alive27 w).mono ?_; rintro e w9 ⟨rfl, u9⟩
    have U9 := Lib.hid (U0.out.trans u9)
    clear u9
    go_wp2_with fail
    go_ret
    exact ⟨rfl, U9.out⟩
  have d6 : decide ((60 : Int) < (n : Int)) = false := by simp; omega
  go_wp2_with fail
  refine (s_of A n c l w H.out HN.out (by omega)).mono ?_
  intro e w1 h1
  obtain ⟨u1, h1 | h1⟩ := of_cases (r := []) (f := 0) (a := 0) h1
  · obtain ⟨g, kk, rfl, he, ho⟩ := h1
    have E1 := Lib.hid he
    have U1 := Lib.hid u1
    clear he u1
    go_wp2_with fail
    refine (no_err E1.out).mono ?_; rintro e w' ⟨rfl, rfl⟩
    go_wp2_with fail
    refine (alive27 w1).mono ?_; rintro e w9 ⟨rfl, u9⟩
    have U9 := Lib.hid (U1.out.trans u9)
    clear u9
    go_wp2_with fail
    go_ret
    exact ⟨rfl, U9.out⟩
  obtain ⟨sb, r, rfl, hs, ho⟩ := h1
  have U1 := Lib.hid u1
  have S1 := Lib.hid hs
  have HR : Hid (r.length = n ∧ Assoc.Srt r) := Lib.hid (by
    rcases ho with ⟨_, _, _, h1, h2⟩ | ⟨_, h, _⟩
    · exact ⟨h2.length_eq.trans HN.out, h1⟩
    · simp at h)
  clear u1 hs ho
  go_wp2_with fail
  refine (no_nil _).mono ?_; rintro e w' ⟨rfl, rfl⟩
  go_wp2_with fail
  refine (s_iter _ sb r w1 S1.out).mono ?_
  rintro e w2 ⟨rfl, i2, u2⟩
  obtain ⟨ib, hib⟩ : ∃ x, w1.heap.size = x := ⟨_, rfl⟩
  have HIB : Hid (w.heap.size ≤ ib) := Lib.hid (by have := U1.out.size; omega)
  rw [hib] at i2 ⊢
  have I2 := Lib.hid i2
  have U2 := Lib.hid (U1.out.trans u2)
  clear i2 u2 S1 U1 hib
  go_wp2_with fail
  refine (i_next _ ib sb r 0 w2 I2.out).mono ?_
  rintro e w3 ⟨rfl, i3, u3⟩
  unfold toldP
  obtain ⟨x3, hx3⟩ : ∃ x, ((r[0]?).map (·.1)).getD 0 = x := ⟨_, rfl⟩
  obtain ⟨y3, hy3⟩ : ∃ x, ((r[0]?).map (·.2)).getD 0 = x := ⟨_, rfl⟩
  obtain ⟨b3, hb3⟩ : ∃ x, (r[0]?).isSome = x := ⟨_, rfl⟩
  rw [hx3, hy3, hb3]
  have HB3 := Lib.hid hb3
  have D3 : Hid (OvS w2 (w3.alloc (.cells #[.int .i64 x3, .int .i64 y3] 42)) ib sb w3.heap.size (nx r 0) r[0]? (.slice none 0 0) []) := Lib.hid ⟨u3.alloc _, i3.it.upd ((Upd.refl [] w3).alloc _) (by simp), by subst hx3 hy3; exact Blk.new w3 _ _, u3.size, Ow.nil _ _ _ _, by simp [Value.ownBlock]⟩
  clear i3 u3 hx3 hy3 hb3
  go_wp2_with fail
  generalize (w3.alloc (.cells #[.int .i64 x3, .int .i64 y3] 42)) = w4 at *
  generalize w3.heap.size = pb3 at *
  go_loopw [6, 8, 9] (fun v vp vb wr => ∃ (k : Nat) (A6 : Option Addr) (c6 pb : Nat) (b : Bool), v = .slice A6 k c6 ∧ vp = .pointer (some ⟨pb, 0, none⟩) ∧ vb = .bool b ∧ k ≤ n ∧ Hid ((r[k]?).isSome = b) ∧ Hid (OvS w2 wr ib sb pb (nx r k) r[k]? (.slice A6 k c6) (r.take k))) (fun v _ _ _ => n - lenV v)
  case atStart => exact ⟨0, none, 0, pb3, b3, rfl, rfl, rfl, Nat.zero_le _, HB3, D3⟩
  case round =>
    obtain ⟨k, A6, c6, pb, b, rfl, rfl, rfl, hk, HB, D⟩ := hrel
    rename World => wr
    clear D3 HB3
    by_cases hlt : k < n
    · obtain ⟨p, hp⟩ : ∃ p, r[k]? = some p := ⟨_, List.getElem?_eq_getElem (by rw [HR.out.1]; exact hlt)⟩
      obtain rfl : b = true := by rw [← HB.out, hp]; rfl
      have PB : Hid (Blk wr pb 42 #[.int .i64 p.1, .int .i64 p.2]) := Lib.hid (by have := D.out.p; rw [hp] at this; exact this)
      have c0 : wr.cell? ⟨pb, 0, none⟩ = some (.int .i64 p.1) := PB.out.cell 0
      have c1 : wr.cell? ⟨pb, 1, none⟩ = some (.int .i64 p.2) := PB.out.cell 1
      have DA := Lib.hid (D.out.upd0 ((Upd.refl [] wr).alloc (.cells #[.int .i64 p.1, .int .i64 p.2] 42)))
      have OA : Hid ((wr.alloc (.cells #[.int .i64 p.1, .int .i64 p.2] 42)).ownsRow w2.heap.size 42 2 (.slice A6 k c6) k (flat encPr (r.take k))) := Lib.hid (by have := DA.out.out; unfold Ow at this; rw [List.length_take, HR.out.1, Nat.min_eq_left hk] at this; exact this)
      have TK : Hid (r.take k ++ [p] = r.take (k + 1)) := Lib.hid (by rw [List.take_add_one, hp]; rfl)
      have HP := Lib.hid hp
      clear hp HB D
      go_wp2_with (at_builtin; refine stopped ?_)
      refine Lib.hid ?_
      refine wpList_app _ (by rfl) (.tmp 39) (.tmp 41) _ (by rfl) elem_pair (.slice A6 k c6) _ (by rfl) (by rfl) OA.out (.of_blk (Blk.new _ _ _) (m := 1) 1 rfl) (by intro u hu; simp at hu; rcases hu with rfl | rfl <;> rfl) (by simp only [maxLen]; omega) (by omega) DA.out.u.size ?_
      intro v7 w7 o7 u7 b7
      have D7 : Hid (OvS w2 w7 ib sb pb (nx r k) r[k]? v7 (r.take (k + 1))) := Lib.hid (by rw [← TK.out]; exact DA.out.push (by unfold Ow; rw [List.length_append, List.length_take, HR.out.1, Nat.min_eq_left hk, flat_append, flat_one_]; exact o7) u7 b7)
      obtain ⟨A7, c7, rfl, _, _⟩ := own_slice o7
      have PB7 : Hid (Blk w7 pb 42 #[.int .i64 p.1, .int .i64 p.2]) := Lib.hid (by have := D7.out.p; rw [HP.out] at this; exact this)
      have e0 : w7.cell? ⟨pb, 0, none⟩ = some (.int .i64 p.1) := PB7.out.cell 0
      have e1 : w7.cell? ⟨pb, 1, none⟩ = some (.int .i64 p.2) := PB7.out.cell 1
      have dk : decide ((n : Int) < (k : Int) + 1) = false := by simp; omega
      have dk2 : decide ((n : Int) < ((k + 1 : Nat) : Int)) = false := by simp; omega
      have KN : Hid (nx r k = k + 1) := Lib.hid (by unfold nx; rw [if_pos (by rw [HR.out.1]; exact hlt)])
      have U8 : Hid (Upd [ib] w2 (w7.alloc (.cells #[.int .i64 p.1, .int .i64 p.2] 42))) := Lib.hid (D7.out.u.alloc _)
      have I8 : Hid (IterIs w.heap.size ib sb r (k + 1) (w7.alloc (.cells #[.int .i64 p.1, .int .i64 p.2] 42))) := Lib.hid ⟨by have := D7.out.it.upd ((Upd.refl [] w7).alloc (.cells #[.int .i64 p.1, .int .i64 p.2] 42)) (by simp); rwa [KN.out] at this, I2.out.s.off I2.out.it (by decide) (by decide) U8.out, by rw [HR.out.1]; omega⟩
      clear o7 u7 b7 c0 c1 OA DA PB PB7
      go_wp2_with fail
      refine (i_next _ ib sb r (k + 1) _ I8.out).mono ?_
      rintro e w8 ⟨rfl, i8, u8⟩
      unfold toldP
      obtain ⟨x2, hx2⟩ : ∃ x, ((r[k + 1]?).map (·.1)).getD 0 = x := ⟨_, rfl⟩
      obtain ⟨y2, hy2⟩ : ∃ x, ((r[k + 1]?).map (·.2)).getD 0 = x := ⟨_, rfl⟩
      obtain ⟨b2, hb2⟩ : ∃ x, (r[k + 1]?).isSome = x := ⟨_, rfl⟩
      rw [hx2, hy2, hb2]
      have HB2 := Lib.hid hb2
      have D9 := Lib.hid (D7.out.told p.1 p.2 i8.it u8 x2 y2 hx2 hy2)
      have BP8 : Hid (Blk w8 w7.heap.size 42 #[.int .i64 p.1, .int .i64 p.2]) := Lib.hid ((Blk.new w7 _ _).upd u8 (by have := D7.out.it.lt; simp; omega))
      have f0 : w8.cell? ⟨w7.heap.size, 0, none⟩ = some (.int .i64 p.1) := BP8.out.cell 0
      have f1 : w8.cell? ⟨w7.heap.size, 1, none⟩ = some (.int .i64 p.2) := BP8.out.cell 1
      have fz : ∀ k, w8.frozen? ⟨w7.heap.size, k, none⟩ = false := fun k => BP8.out.frozen k
      have fl : w7.heap.size < w8.heap.size := BP8.out.lt
      clear i8 u8 hx2 hy2 hb2 e0 e1 D7 BP8
      go_wp2_with fail
      go_roundw
      case rel => exact ⟨k + 1, A7, c7, _, b2, rfl, rfl, rfl, by omega, HB2, D9⟩
      case measure => simp [lenV]; omega
    · obtain rfl : k = n := by omega
      obtain rfl : b = false := by rw [← HB.out, List.getElem?_eq_none (by rw [HR.out.1]; omega)]; rfl
      have TK : Hid (r.take k = r) := Lib.hid (List.take_of_length_le (by rw [HR.out.1]; omega))
      have NX : Hid (nx r k = k) := Lib.hid (by unfold nx; rw [if_neg (by rw [HR.out.1]; omega)])
      have IW : Hid (IterIs w.heap.size ib sb r k wr) := Lib.hid ⟨by have := D.out.it; rwa [NX.out] at this, I2.out.s.off I2.out.it (by decide) (by decide) D.out.u, by rw [HR.out.1]; omega⟩
      have OT : Hid (Ow encPr 42 wr w2.heap.size (.slice A6 k c6) r) := Lib.hid (by have := D.out.out; rwa [TK.out] at this)
      have UW := Lib.hid D.out.u
      clear D HB TK NX
      go_wp2_with fail
      refine (i_back _ ib sb r k wr IW.out).mono ?_
      rintro e w3 ⟨rfl, i3, u3⟩
      unfold toldP
      obtain ⟨x3, hx3⟩ : ∃ x, ((bo r k).map (·.1)).getD 0 = x := ⟨_, rfl⟩
      obtain ⟨y3, hy3⟩ : ∃ x, ((bo r k).map (·.2)).getD 0 = x := ⟨_, rfl⟩
      obtain ⟨b3, hb3⟩ : ∃ x, (bo r k).isSome = x := ⟨_, rfl⟩
      rw [show (if k = 0 then none else r[k - 1]?) = bo r k from rfl, hx3, hy3, hb3]
      have HB3 := Lib.hid hb3
      have D3 : Hid (OvS wr (w3.alloc (.cells #[.int .i64 x3, .int .i64 y3] 42)) ib sb w3.heap.size (k - 1) (bo r k) (.slice none 0 0) (r.drop k)) := Lib.hid ⟨u3.alloc _, i3.it.upd ((Upd.refl [] w3).alloc _) (by simp), by subst hx3 hy3; exact Blk.new w3 _ _, u3.size, by rw [List.drop_of_length_le (by rw [HR.out.1]; omega)]; exact Ow.nil _ _ _ _, by simp [Value.ownBlock]⟩
      clear i3 u3 hx3 hy3 hb3
      go_wp2_with fail
      generalize (w3.alloc (.cells #[.int .i64 x3, .int .i64 y3] 42)) = w4 at *
      generalize w3.heap.size = pb3 at *
      go_loopw [7, 10, 11] (fun v vp vb wx => ∃ (m d : Nat) (A7 : Option Addr) (c7 pb : Nat) (b : Bool), v = .slice A7 d c7 ∧ vp = .pointer (some ⟨pb, 0, none⟩) ∧ vb = .bool b ∧ m + d = k ∧ Hid ((bo r m).isSome = b) ∧ Hid (OvS wr wx ib sb pb (m - 1) (bo r m) (.slice A7 d c7) (r.drop m))) (fun v _ _ _ => k - lenV v)
      case atStart => exact ⟨k, 0, none, 0, pb3, b3, rfl, rfl, rfl, by omega, HB3, D3⟩
      case round =>
        obtain ⟨m, d, A7, c7, pb', b, rfl, rfl, rfl, hmd, HB, D⟩ := hrel
        rename World => wx
        clear D3 HB3
        cases m with
        | succ m =>
          obtain ⟨p, hp⟩ : ∃ p, r[m]? = some p := ⟨_, List.getElem?_eq_getElem (by rw [HR.out.1]; omega)⟩
          have hbo : bo r (m + 1) = some p := by unfold bo; rw [if_neg (by omega)]; exact hp
          obtain rfl : b = true := by rw [← HB.out, hbo]; rfl
          have PB : Hid (Blk wx pb' 42 #[.int .i64 p.1, .int .i64 p.2]) := Lib.hid (by have := D.out.p; rw [hbo] at this; exact this)
          have c0 : wx.cell? ⟨pb', 0, none⟩ = some (.int .i64 p.1) := PB.out.cell 0
          have c1 : wx.cell? ⟨pb', 1, none⟩ = some (.int .i64 p.2) := PB.out.cell 1
          have AA : Hid (Upd [] wx (wx.alloc (.cells #[.int .i64 p.1, .int .i64 p.2] 42))) := Lib.hid ((Upd.refl [] wx).alloc _)
          have RA : Hid (Src (wx.alloc (.cells #[.int .i64 p.1, .int .i64 p.2] 42)) 2 (.slice A7 d c7) d (flat encPr (r.drop (m + 1)))) := Lib.hid (by have := (D.out.out.upd0 AA.out).rd; unfold Rd at this; rw [List.length_drop, HR.out.1, show k - (m + 1) = d by omega] at this; exact this)
          have OA : Hid ((wx.alloc (.cells #[.int .i64 p.1, .int .i64 p.2] 42)).ownsRow wx.heap.size 42 2 (.slice (some ⟨wx.heap.size, 0, none⟩) 1 1) 1 (flat encPr [p])) := Lib.hid (own_lit (Blk.new wx _ _) rfl rfl (by omega) (Nat.le_refl _))
          have TK : Hid ([p] ++ r.drop (m + 1) = r.drop m) := Lib.hid (by obtain ⟨h1, h2⟩ := List.getElem?_eq_some_iff.1 hp; rw [List.drop_eq_getElem_cons h1, h2]; rfl)
          have HO := Lib.hid hbo
          clear hp HB hbo
          go_wp2_with (at_builtin; refine stopped ?_)
          refine Lib.hid ?_
          refine wpList_app _ (by rfl) (.tmp 61) (.tmp 62) _ (by rfl) elem_pair (.slice (some ⟨wx.heap.size, 0, none⟩) 1 1) _ (by rfl) (by rfl) OA.out RA.out flat_cells (by simp only [maxLen]; omega) (by omega) AA.out.size ?_
          intro v7 w7 o7 u7 b7
          have D7 : Hid (OvS wr w7 ib sb pb' (m + 1 - 1) (bo r (m + 1)) v7 (r.drop m)) := Lib.hid (by
            rw [← TK.out]
            exact D.out.renew (by unfold Ow; rw [List.length_append, List.length_drop, HR.out.1, flat_append, show k - (m + 1) = d by omega]; exact o7) (AA.out.trans' u7 (fun x hx => .inr (by simp [Value.ownBlock] at hx; omega))))
          obtain ⟨A8, c8, rfl, _, _⟩ := own_slice o7
          have PB7 : Hid (Blk w7 pb' 42 #[.int .i64 p.1, .int .i64 p.2]) := Lib.hid (by have := D7.out.p; rw [HO.out] at this; exact this)
          have e0 : w7.cell? ⟨pb', 0, none⟩ = some (.int .i64 p.1) := PB7.out.cell 0
          have e1 : w7.cell? ⟨pb', 1, none⟩ = some (.int .i64 p.2) := PB7.out.cell 1
          have dk : decide ((k : Int) < 1 + (d : Int)) = false := by simp; omega
          have dk2 : decide ((k : Int) < ((1 + d : Nat) : Int)) = false := by simp; omega
          have U8 : Hid (Upd [ib] wr (w7.alloc (.cells #[.int .i64 p.1, .int .i64 p.2] 42))) := Lib.hid (D7.out.u.alloc _)
          have I8 : Hid (IterIs w.heap.size ib sb r m (w7.alloc (.cells #[.int .i64 p.1, .int .i64 p.2] 42))) := Lib.hid ⟨by have := D7.out.it.upd ((Upd.refl [] w7).alloc (.cells #[.int .i64 p.1, .int .i64 p.2] 42)) (by simp); rwa [Nat.add_sub_cancel] at this, IW.out.s.off IW.out.it (by decide) (by decide) U8.out, by rw [HR.out.1]; omega⟩
          clear o7 u7 b7 c0 c1 OA RA PB PB7 AA D
          go_wp2_with fail
          refine (i_back _ ib sb r m _ I8.out).mono ?_
          rintro e w8 ⟨rfl, i8, u8⟩
          unfold toldP
          obtain ⟨x2, hx2⟩ : ∃ x, ((bo r m).map (·.1)).getD 0 = x := ⟨_, rfl⟩
          obtain ⟨y2, hy2⟩ : ∃ x, ((bo r m).map (·.2)).getD 0 = x := ⟨_, rfl⟩
          obtain ⟨b2, hb2⟩ : ∃ x, (bo r m).isSome = x := ⟨_, rfl⟩
          rw [show (if m = 0 then none else r[m - 1]?) = bo r m from rfl, hx2, hy2, hb2]
          have HB2 := Lib.hid hb2
          have D9 := Lib.hid (D7.out.told p.1 p.2 i8.it u8 x2 y2 hx2 hy2)
          have BP8 : Hid (Blk w8 w7.heap.size 42 #[.int .i64 p.1, .int .i64 p.2]) := Lib.hid ((Blk.new w7 _ _).upd u8 (by have := D7.out.it.lt; simp; omega))
          have f0 : w8.cell? ⟨w7.heap.size, 0, none⟩ = some (.int .i64 p.1) := BP8.out.cell 0
          have f1 : w8.cell? ⟨w7.heap.size, 1, none⟩ = some (.int .i64 p.2) := BP8.out.cell 1
          have fz : ∀ k, w8.frozen? ⟨w7.heap.size, k, none⟩ = false := fun k => BP8.out.frozen k
          have fl : w7.heap.size < w8.heap.size := BP8.out.lt
          clear i8 u8 hx2 hy2 hb2 e0 e1 D7 BP8
          go_wp2_with fail
          go_roundw
          case rel => exact ⟨m, 1 + d, A8, c8, _, b2, rfl, rfl, rfl, by omega, HB2, D9⟩
          case measure => simp [lenV]; omega
        | zero =>
          obtain rfl : d = k := by omega
          obtain rfl : b = false := by rw [← HB.out]; rfl
          have OB : Hid (Ow encPr 42 wx wr.heap.size (.slice A7 d c7) r) := Lib.hid D.out.out
          have OT2 : Hid (Ow encPr 42 wx w2.heap.size (.slice A6 d c6) r) := Lib.hid (OT.out.upd D.out.u (fun x hx hm => own_type OT.out IW.out.it (by decide) (by rw [hx]; simpa using hm)))
          have UX : Hid (Upd [ib] w2 wx) := Lib.hid (UW.out.trans D.out.u)
          clear D HB OT UW IW
          go_wp2_with fail
          go_loopw [12] (fun v wz => ∃ (i : Nat), v = .int .i64 i ∧ 1 ≤ i ∧ Hid (Upd [] wx wz)) (fun v _ => d + 1 - (intOf v).toNat)
          case atStart => exact ⟨1, rfl, by omega, Lib.hid (.refl _ _)⟩
          case round =>
            obtain ⟨i, rfl, hi1, UI⟩ := hrel
            rename World => wz
            by_cases hin : i < d
            · obtain ⟨j, hj⟩ : ∃ j, j + 1 = i := ⟨i - 1, by omega⟩
              obtain ⟨g, cg, cur, e1, -⟩ := own_form OT2.out (by rw [HR.out.1]; omega)
              injection e1 with e1 en e1'
              subst e1 e1'
              obtain ⟨y, hy⟩ : ∃ y, r[i]? = some y := ⟨_, List.getElem?_eq_getElem (by rw [HR.out.1]; exact hin)⟩
              obtain ⟨x, hx⟩ : ∃ x, r[j]? = some x := ⟨_, List.getElem?_eq_getElem (by rw [HR.out.1]; omega)⟩
              have HX := Lib.hid hx
              have HY := Lib.hid hy
              have q1 : (0 : Int) ≤ (i : Int) := by omega
              have q2 : (i : Int) < (d : Int) := by omega
              have q3 : (i : Int) - 1 = (j : Int) := by omega
              have q3w : IntKind.i64.wrap (j : Int) = (j : Int) := by rw [IntKind.wrap_i64]; omega
              have q4 : (0 : Int) ≤ (j : Int) := by omega
              have q5 : (j : Int) < (d : Int) := by omega
              have hxy : x.1 < y.1 := by
                obtain ⟨h1, h2⟩ := List.getElem?_eq_some_iff.1 hx
                obtain ⟨h3, h4⟩ := List.getElem?_eq_some_iff.1 hy
                have := List.pairwise_iff_getElem.1 HR.out.2 j i h1 h3 (by omega)
                rw [h2, h4] at this
                exact this
              have dxy : decide (y.1 ≤ x.1) = false := by simpa using hxy
              have CS : Hid (∀ W, Upd [] wz.drew W → W.cell? ⟨g, i * 2, none⟩ = some (.int .i64 y.1) ∧ W.cell? ⟨g, j * 2, none⟩ = some (.int .i64 x.1)) := Lib.hid (fun W hW => by
                have ho := OT2.out.upd0 (UI.out.trans ((Upd.refl [] wz).drew.trans hW))
                exact ⟨ho.at_ HY.out 0 _ rfl, ho.at_ HX.out 0 _ rfl⟩)
              clear hx hy en hxy
              go_wp2_with fail
              refine wp_invN [] [] (by kernel_rfl) (by kernel_rfl) (by kernel_rfl) trivial ?_
              with_reducible apply wpV_light
              · simp only [lightOp]
              · intro W hU hF
                have f0 := CS.out W hU
                clear hU hF
                go_simp
                exact rfl
              simp only [Act.put, List.setIfInBounds_toArray, List.set_cons_zero, List.set_cons_succ]
              with_reducible apply wpV_light
              · simp only [lightOp]
              · intro W hU hF
                have f0 := CS.out W hU
                clear hU hF
                go_simp
                exact rfl
              simp only [Act.put, List.setIfInBounds_toArray, List.set_cons_zero, List.set_cons_succ]
              with_reducible apply wpV_light
              · simp only [lightOp]
              · intro W hU hF
                have f0 := CS.out W hU
                clear hU hF
                go_simp
                exact rfl
              simp only [Act.put, List.setIfInBounds_toArray, List.set_cons_zero, List.set_cons_succ]
              with_reducible apply wpV_light
              · simp only [lightOp]
              · intro W hU hF
                have f0 := CS.out W hU
                clear hU hF
                go_simp
                exact rfl
              simp only [Act.put, List.setIfInBounds_toArray, List.set_cons_zero, List.set_cons_succ]
              with_reducible apply wpV_light
              · simp only [lightOp]
              · intro W hU hF
                have f0 := CS.out W hU
                clear hU hF
                go_simp
                exact rfl
              simp only [Act.put, List.setIfInBounds_toArray, List.set_cons_zero, List.set_cons_succ]
              with_reducible apply wpV_light
              · simp only [lightOp]
              · intro W hU hF
                have f0 := CS.out W hU
                clear hU hF
                go_simp
                exact rfl
              simp only [Act.put, List.setIfInBounds_toArray, List.set_cons_zero, List.set_cons_succ]
              with_reducible apply wpV_light
              · simp only [lightOp]
              · intro W hU hF
                have f0 := CS.out W hU
                clear hU hF
                go_simp
                exact rfl
              simp only [Act.put, List.setIfInBounds_toArray, List.set_cons_zero, List.set_cons_succ]
              with_reducible apply wpV_light
              · simp only [lightOp]
              · intro W hU hF
                have f0 := CS.out W hU
                clear hU hF
                go_simp
                exact rfl
              simp only [Act.put, List.setIfInBounds_toArray, List.set_cons_zero, List.set_cons_succ]
              with_reducible apply wpV_light
              · simp only [lightOp]
              · intro W hU hF
                have f0 := CS.out W hU
                clear hU hF
                go_simp
                exact rfl
              simp only [Act.put, List.setIfInBounds_toArray, List.set_cons_zero, List.set_cons_succ]
              with_reducible apply wpV_light
              · simp only [lightOp]
              · intro W hU hF
                have f0 := CS.out W hU
                clear hU hF
                go_simp
                exact rfl
              simp only [Act.put, List.setIfInBounds_toArray, List.set_cons_zero, List.set_cons_succ]
              with_reducible apply wpV_light
              · simp only [lightOp]
              · intro W hU hF
                have f0 := CS.out W hU
                clear hU hF
                go_simp
                exact rfl
              simp only [Act.put, List.setIfInBounds_toArray, List.set_cons_zero, List.set_cons_succ]
              with_reducible apply wpV_light
              · simp only [lightOp]
              · intro W hU hF
                have f0 := CS.out W hU
                clear hU hF
                go_simp
                exact rfl
              simp only [Act.put, List.setIfInBounds_toArray, List.set_cons_zero, List.set_cons_succ]
              refine wpV_end (fun W hU _ _ => ?_)
              have U4 : Hid (Upd [] wx W) := Lib.hid (UI.out.trans ((Upd.refl [] wz).drew.trans hU))
              clear hU CS
              refine wpT_end ?_
              go_wp2_with fail
              go_roundw
              case rel => exact ⟨i + 1, by go_num, by omega, U4⟩
              case measure => simp [intOf]; omega
            · have R1 := Lib.hid ((OT2.out.upd0 UI.out).rd)
              have R2 := Lib.hid ((OB.out.upd0 UI.out).rd)
              have UZ : Hid (Upd [ib] w2 wz) := Lib.hid (UX.out.trans (UI.out.mono (by simp)))
              have SZ : Hid (SnapIs w.heap.size sb wz r) := Lib.hid (I2.out.s.off I2.out.it (by decide) (by decide) UZ.out)
              have UF : Hid (Upd [] w wz) := Lib.hid (U2.out.trans' UZ.out (fun x hx => .inr (by have := HIB.out; simp at hx; omega)))
              clear UZ UX OT2 OB UI
              go_wp2_with fail
              refine (pairs_rd A6 A7 d c6 d c7 r r wz R1.out R2.out HR.out.1 HR.out.1 (by omega) (by omega)).mono ?_
              rintro e w5 ⟨rfl, u5⟩
              rw [decide_eq_true rfl]
              have R3 := Lib.hid (R1.out.upd0 u5)
              have S5 := Lib.hid (SZ.out.upd0 u5)
              have U5 := Lib.hid (UF.out.trans u5)
              clear u5 R1 R2 SZ UF
              go_wp2_with fail
              refine (s_all _ sb r w5 S5.out).mono ?_
              rintro e w6 ⟨va, rfl, oa, u6⟩
              obtain ⟨Aa, ca, rfl, _, _⟩ := own_slice oa
              have OA := Lib.hid oa
              have R6 := Lib.hid (R3.out.upd0 u6)
              have U6 := Lib.hid (U5.out.trans u6)
              clear oa u6 R3 S5 U5
              go_wp2_with fail
              refine (pairs_rd A6 Aa d c6 r.length ca r r w6 R6.out OA.out.rd HR.out.1 rfl (by omega) (by rw [HR.out.1]; omega)).mono ?_
              rintro e w7 ⟨rfl, u7⟩
              rw [decide_eq_true rfl]
              have U7 := Lib.hid (U6.out.trans u7)
              clear u7 R6 OA U6
              go_wp2_with fail
              refine (alive27 w7).mono ?_; rintro e w9 ⟨rfl, u9⟩
              have U9 := Lib.hid (U7.out.trans u9)
              clear u9
              go_wp2_with fail
              go_ret
              exact ⟨rfl, U9.out⟩
end Go.Proofs.Ythdjbflbhgbckaa

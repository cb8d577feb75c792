/-
  Package snap: Floor, Range.
-/
import Derived.Test.YthdjbflbhgbckaaOver
import Derived.Test.YthdjbflbhgbckaaPartsP
set_option linter.unusedVariables false
namespace Go.Proofs.Ythdjbflbhgbckaa
open Go.RowKit Stab Snap Mrg
attribute [local go_sem] litStep_value

theorem FindAt.floor {r : PL} {key : Int} {i : Nat} {b : Bool} (h : FindAt r key i b) (hs : Assoc.Srt r) : floorF r key = if b then r[i]? else if i = 0 then none else r[i - 1]? := by
  cases b with
  | true =>
    obtain ⟨h1, h2⟩ := h.is.1 rfl
    have hf := floor_at hs (key := key) (m := i + 1) (fun j hj => by
      rcases Nat.lt_or_ge j i with h3 | h3
      · have := h.lo j h3; omega
      · obtain rfl : j = i := by omega
        omega) (by
      rcases Nat.lt_or_ge (i + 1) r.length with h3 | h3
      · right
        have h4 := List.pairwise_iff_getElem.1 hs i (i + 1) h1 h3 (by omega)
        rw [List.getD_eq_getElem?_getD, List.getElem?_eq_getElem h1] at h2
        rw [List.getD_eq_getElem?_getD, List.getElem?_eq_getElem h3]
        simp at h2 ⊢
        have h4' : (r[i]).1 < (r[i + 1]).1 := h4
        omega
      · exact .inl h3) (by omega)
    rw [hf, if_neg (by omega), if_pos rfl, Nat.add_sub_cancel]
  | false =>
    have hf := floor_at hs (key := key) (m := i) (fun j hj => by have := h.lo j hj; omega) (by
      rcases Nat.lt_or_ge i r.length with h3 | h3
      · right
        have h4 := h.hi i (Nat.le_refl _) h3
        have h5 : ¬ (r.getD i default).1 = key := fun e => by have := h.is.2 ⟨h3, e⟩; cases this
        omega
      · exact .inl h3) h.le
    exact hf
set_option maxRecDepth 100000 in
set_option maxHeartbeats 4000000 in
theorem s_floor (B sb : Nat) (r : PL) (key : Int) (w : World) (h : SnapIs B sb w r) : Calls Try.prog 23 #[.pointer (some ⟨sb, 0, none⟩), .int .i64 key] w fun e w' => e = .returned (toldP (floorF r key)) ∧ Upd [] w w' := by
  have H := Lib.hid h
  have A0 : Hid (Upd [] w (w.alloc (.cells #[.int .i64 0, .int .i64 0] 42))) := Lib.hid ((Upd.refl [] w).alloc _)
  have B0 : Hid (Blk (w.alloc (.cells #[.int .i64 0, .int .i64 0] 42)) w.heap.size 42 #[.int .i64 0, .int .i64 0]) := Lib.hid (Blk.new w _ _)
  clear h
  go_enter Try.func23, Try.ntmps23
  go_wp2_with fail
  generalize (w.alloc (.cells #[.int .i64 0, .int .i64 0] 42)) = w0 at *
  have S0 := Lib.hid (H.out.upd0 A0.out)
  refine (s_is B sb r w0 S0.out).mono ?_
  rintro e w' ⟨rfl, rfl⟩
  go_wp2_with fail
  refine (s_find B sb r key w0 S0.out).mono ?_
  rintro e w1 ⟨i, b, rfl, f, u⟩
  have FL0 := Lib.hid (f.floor H.out.srt)
  have F := Lib.hid f
  have BP := Lib.hid (B0.out.upd u (by simp))
  have U := Lib.hid (A0.out.trans u)
  have S1 := Lib.hid (S0.out.upd0 u)
  clear f u B0 A0 S0
  obtain ⟨n, hn⟩ : ∃ n, r.length = n := ⟨_, rfl⟩
  have HN := Lib.hid hn
  obtain ⟨A, c, hb, ho⟩ := S1.out.obj
  rw [hn] at hb ho
  have hn1 : n ≤ 1000 := hn ▸ H.out.small
  have f5 : w1.cell? ⟨w.heap.size, 0, none⟩ = some (.int .i64 0) := BP.out.cell 0
  have f6 : w1.cell? ⟨w.heap.size, 1, none⟩ = some (.int .i64 0) := BP.out.cell 1
  have fz : ∀ k, w1.frozen? ⟨w.heap.size, k, none⟩ = false := fun k => BP.out.frozen k
  have fl : w.heap.size < w1.heap.size := BP.out.lt
  have HB := Lib.hid hb
  have HO := Lib.hid ho
  clear hb ho hn
  cases b with
  | true =>
    have hi : i < n := by have := (F.out.is.1 rfl).1; rwa [HN.out] at this
    obtain ⟨p, hp⟩ : ∃ p, r[i]? = some p := ⟨_, List.getElem?_eq_getElem (by rw [HN.out]; exact hi)⟩
    have FL : Hid (floorF r key = some p) := Lib.hid (by rw [FL0.out, if_pos rfl, hp])
    obtain ⟨g, cg, cur, e1, -⟩ := own_form HO.out (by rw [HN.out]; omega)
    injection e1 with e1 en e1'
    subst e1 e1'
    have f2 : w1.cell? ⟨sb, 0, none⟩ = some (.slice (some ⟨g, 0, none⟩) n c) := HB.out.cell 0
    have f3 : w1.cell? ⟨g, i * 2, none⟩ = some (.int .i64 p.1) := HO.out.at_ hp 0 _ rfl
    have f4 : w1.cell? ⟨g, i * 2 + 1, none⟩ = some (.int .i64 p.2) := HO.out.at_ hp 1 _ rfl
    have q1 : (0 : Int) ≤ (i : Int) := by omega
    have q2 : (i : Int) < (n : Int) := by omega
    have BP4 : Hid (Blk ((w1.setCell ⟨w.heap.size, 0, none⟩ (.int .i64 p.1)).setCell ⟨w.heap.size, 1, none⟩ (.int .i64 p.2)) w.heap.size 42 #[.int .i64 p.1, .int .i64 p.2]) := Lib.hid ((BP.out.set_eq rfl).set_eq rfl)
    have U5 : Hid (Upd [] w ((w1.setCell ⟨w.heap.size, 0, none⟩ (.int .i64 p.1)).setCell ⟨w.heap.size, 1, none⟩ (.int .i64 p.2))) := Lib.hid ((U.out.setCell (.inr (Nat.le_refl _)) _).setCell (.inr (Nat.le_refl _)) _)
    clear hp en
    go_wp2_with fail
    clear f2 f3 f4 f5 f6 fz fl
    generalize ((w1.setCell ⟨w.heap.size, 0, none⟩ (.int .i64 p.1)).setCell ⟨w.heap.size, 1, none⟩ (.int .i64 p.2)) = W5 at *
    have d0 : W5.cell? ⟨w.heap.size, 0, none⟩ = some (.int .i64 p.1) := BP4.out.cell 0
    have d2 : W5.cell? ⟨w.heap.size, 1, none⟩ = some (.int .i64 p.2) := BP4.out.cell 1
    refine bodyPost_ret (v := .tuple #[.agg #[.int .i64 p.1, .int .i64 p.2], .bool true]) (by simp [results, Try.results23, go_sem, d0, d2]) rfl ?_
    exact ⟨by rw [FL.out]; rfl, U5.out⟩
  | false =>
    by_cases h0 : i = 0
    · subst h0
      have FL : Hid (floorF r key = none) := Lib.hid (by rw [FL0.out, if_neg (by simp), if_pos rfl])
      have BP4 : Hid (Blk ((w1.setCell ⟨w.heap.size, 0, none⟩ (.int .i64 0)).setCell ⟨w.heap.size, 1, none⟩ (.int .i64 0)) w.heap.size 42 #[.int .i64 0, .int .i64 0]) := Lib.hid ((BP.out.set_eq rfl).set_eq rfl)
      have U5 : Hid (Upd [] w ((w1.setCell ⟨w.heap.size, 0, none⟩ (.int .i64 0)).setCell ⟨w.heap.size, 1, none⟩ (.int .i64 0))) := Lib.hid ((U.out.setCell (.inr (Nat.le_refl _)) _).setCell (.inr (Nat.le_refl _)) _)
      go_wp2_with fail
      clear f5 f6 fz fl
      generalize ((w1.setCell ⟨w.heap.size, 0, none⟩ (.int .i64 0)).setCell ⟨w.heap.size, 1, none⟩ (.int .i64 0)) = W5 at *
      have d0 : W5.cell? ⟨w.heap.size, 0, none⟩ = some (.int .i64 0) := BP4.out.cell 0
      have d2 : W5.cell? ⟨w.heap.size, 1, none⟩ = some (.int .i64 0) := BP4.out.cell 1
      refine bodyPost_ret (v := .tuple #[.agg #[.int .i64 0, .int .i64 0], .bool false]) (by simp [results, Try.results23, go_sem, d0, d2]) rfl ?_
      exact ⟨by rw [FL.out]; rfl, U5.out⟩
    · have hin : i ≤ n := by have := F.out.le; rwa [HN.out] at this
      obtain ⟨j, hj⟩ : ∃ j, j + 1 = i := ⟨i - 1, by omega⟩
      have di : ((i : Int) == 0) = false := by simpa using h0
      obtain ⟨p, hp⟩ : ∃ p, r[j]? = some p := ⟨_, List.getElem?_eq_getElem (by rw [HN.out]; omega)⟩
      have FL : Hid (floorF r key = some p) := Lib.hid (by rw [FL0.out, if_neg (by simp), if_neg h0, show i - 1 = j by omega, hp])
      obtain ⟨g, cg, cur, e1, -⟩ := own_form HO.out (by rw [HN.out]; omega)
      injection e1 with e1 en e1'
      subst e1 e1'
      have f2 : w1.cell? ⟨sb, 0, none⟩ = some (.slice (some ⟨g, 0, none⟩) n c) := HB.out.cell 0
      have f3 : w1.cell? ⟨g, j * 2, none⟩ = some (.int .i64 p.1) := HO.out.at_ hp 0 _ rfl
      have f4 : w1.cell? ⟨g, j * 2 + 1, none⟩ = some (.int .i64 p.2) := HO.out.at_ hp 1 _ rfl
      have q1 : (0 : Int) ≤ (j : Int) := by omega
      have q2 : (j : Int) < (n : Int) := by omega
      have q3 : (i : Int) - 1 = (j : Int) := by omega
      have q3w : IntKind.i64.wrap (j : Int) = (j : Int) := by rw [IntKind.wrap_i64]; omega
      have BP4 : Hid (Blk ((w1.setCell ⟨w.heap.size, 0, none⟩ (.int .i64 p.1)).setCell ⟨w.heap.size, 1, none⟩ (.int .i64 p.2)) w.heap.size 42 #[.int .i64 p.1, .int .i64 p.2]) := Lib.hid ((BP.out.set_eq rfl).set_eq rfl)
      have U5 : Hid (Upd [] w ((w1.setCell ⟨w.heap.size, 0, none⟩ (.int .i64 p.1)).setCell ⟨w.heap.size, 1, none⟩ (.int .i64 p.2))) := Lib.hid ((U.out.setCell (.inr (Nat.le_refl _)) _).setCell (.inr (Nat.le_refl _)) _)
      clear hp en h0
      go_wp2_with fail
      clear f2 f3 f4 f5 f6 fz fl
      generalize ((w1.setCell ⟨w.heap.size, 0, none⟩ (.int .i64 p.1)).setCell ⟨w.heap.size, 1, none⟩ (.int .i64 p.2)) = W5 at *
      have d0 : W5.cell? ⟨w.heap.size, 0, none⟩ = some (.int .i64 p.1) := BP4.out.cell 0
      have d2 : W5.cell? ⟨w.heap.size, 1, none⟩ = some (.int .i64 p.2) := BP4.out.cell 1
      refine bodyPost_ret (v := .tuple #[.agg #[.int .i64 p.1, .int .i64 p.2], .bool true]) (by simp [results, Try.results23, go_sem, d0, d2]) rfl ?_
      exact ⟨by rw [FL.out]; rfl, U5.out⟩
set_option maxRecDepth 100000 in
theorem s_floor_nil (key : Int) (w : World) : Calls Try.prog 23 #[.pointer none, .int .i64 key] w fun e w' => e = .returned (toldP none) ∧ Upd [] w w' := by
  have A0 : Hid (Upd [] w (w.alloc (.cells #[.int .i64 0, .int .i64 0] 42))) := Lib.hid ((Upd.refl [] w).alloc _)
  have B0 : Hid (Blk (w.alloc (.cells #[.int .i64 0, .int .i64 0] 42)) w.heap.size 42 #[.int .i64 0, .int .i64 0]) := Lib.hid (Blk.new w _ _)
  go_enter Try.func23, Try.ntmps23
  go_wp2_with fail
  generalize (w.alloc (.cells #[.int .i64 0, .int .i64 0] 42)) = w1 at *
  refine (s_is_nil w1).mono ?_
  rintro e w' ⟨rfl, rfl⟩
  have f5 : w1.cell? ⟨w.heap.size, 0, none⟩ = some (.int .i64 0) := B0.out.cell 0
  have f6 : w1.cell? ⟨w.heap.size, 1, none⟩ = some (.int .i64 0) := B0.out.cell 1
  have fz : ∀ k, w1.frozen? ⟨w.heap.size, k, none⟩ = false := fun k => B0.out.frozen k
  have fl : w.heap.size < w1.heap.size := B0.out.lt
  have BP4 : Hid (Blk ((w1.setCell ⟨w.heap.size, 0, none⟩ (.int .i64 0)).setCell ⟨w.heap.size, 1, none⟩ (.int .i64 0)) w.heap.size 42 #[.int .i64 0, .int .i64 0]) := Lib.hid ((B0.out.set_eq rfl).set_eq rfl)
  have U5 : Hid (Upd [] w ((w1.setCell ⟨w.heap.size, 0, none⟩ (.int .i64 0)).setCell ⟨w.heap.size, 1, none⟩ (.int .i64 0))) := Lib.hid ((A0.out.setCell (.inr (Nat.le_refl _)) _).setCell (.inr (Nat.le_refl _)) _)
  go_wp2_with fail
  clear f5 f6 fz fl
  generalize ((w1.setCell ⟨w.heap.size, 0, none⟩ (.int .i64 0)).setCell ⟨w.heap.size, 1, none⟩ (.int .i64 0)) = W5 at *
  have d0 : W5.cell? ⟨w.heap.size, 0, none⟩ = some (.int .i64 0) := BP4.out.cell 0
  have d2 : W5.cell? ⟨w.heap.size, 1, none⟩ = some (.int .i64 0) := BP4.out.cell 1
  refine bodyPost_ret (v := .tuple #[.agg #[.int .i64 0, .int .i64 0], .bool false]) (by simp [results, Try.results23, go_sem, d0, d2]) rfl ?_
  exact ⟨rfl, U5.out⟩
def lenV2 : Value → Nat
  | .slice _ n _ => n
  | _ => 0
def RangePost (r : PL) (a b : Int) (w : World) (e : Ending) (w' : World) : Prop := ∃ v, e = .returned v ∧ Ow encPr 42 w' w.heap.size v (rangeF r a b) ∧ Upd [] w w'
set_option maxRecDepth 100000 in
set_option maxHeartbeats 4000000 in
theorem s_range (B sb : Nat) (r : PL) (from_ to_ : Int) (w : World) (h : SnapIs B sb w r) : Calls Try.prog 24 #[.pointer (some ⟨sb, 0, none⟩), .int .i64 from_, .int .i64 to_] w fun e w' => RangePost r from_ to_ w e w' := by
  have H := Lib.hid h
  obtain ⟨n, hn⟩ : ∃ n, r.length = n := ⟨_, rfl⟩
  have HN := Lib.hid hn
  have hn1 : n ≤ 1000 := hn ▸ h.small
  obtain ⟨s0, hs0⟩ : ∃ s0, belowN r from_ = s0 := ⟨_, rfl⟩
  have HS := Lib.hid hs0
  have hsn : s0 ≤ n := by rw [← hs0, ← hn]; exact seekN_le r from_
  clear h hn hs0
  go_enter Try.func24, Try.ntmps24
  go_wp2_with fail
  refine (s_iter B sb r w H.out).mono ?_
  rintro e w1 ⟨rfl, i1, u1⟩
  obtain ⟨ib, hib⟩ : ∃ x, w.heap.size = x := ⟨_, rfl⟩
  have HIB := Lib.hid hib
  rw [hib] at i1 ⊢
  have I1 := Lib.hid i1
  have U1 := Lib.hid u1
  clear i1 u1 hib
  go_wp2_with fail
  refine (i_seek B ib sb r 0 from_ w1 I1.out).mono ?_
  rintro e w2 ⟨rfl, i2, u2⟩
  have I2 : Hid (IterIs B ib sb r s0 w2) := Lib.hid (by rw [← HS.out]; exact i2)
  have U2 := Lib.hid (U1.out.trans' u2 (fun x hx => .inr (by have := HIB.out; simp at hx; omega)))
  clear i2 u2 U1 I1
  go_wp2_with fail
  refine (i_next B ib sb r s0 w2 I2.out).mono ?_
  rintro e w3 ⟨rfl, i3, u3⟩
  unfold toldP
  obtain ⟨x3, hx3⟩ : ∃ x, ((r[s0]?).map (·.1)).getD 0 = x := ⟨_, rfl⟩
  obtain ⟨y3, hy3⟩ : ∃ x, ((r[s0]?).map (·.2)).getD 0 = x := ⟨_, rfl⟩
  obtain ⟨b3, hb3⟩ : ∃ x, (r[s0]?).isSome = x := ⟨_, rfl⟩
  rw [hx3, hy3, hb3]
  have HB3 := Lib.hid hb3
  have D3 : Hid (OvS w2 (w3.alloc (.cells #[.int .i64 x3, .int .i64 y3] 42)) ib sb w3.heap.size (nx r s0) r[s0]? (.slice none 0 0) []) := Lib.hid ⟨u3.alloc _, i3.it.upd ((Upd.refl [] w3).alloc _) (by simp), by subst hx3 hy3; exact Blk.new w3 _ _, u3.size, Ow.nil _ _ _ _, by simp [Value.ownBlock]⟩
  clear i3 u3 hx3 hy3 hb3
  go_wp2_with fail
  generalize (w3.alloc (.cells #[.int .i64 x3, .int .i64 y3] 42)) = w4 at *
  generalize w3.heap.size = pb3 at *
  go_loopw [7, 9, 10] (fun v vp vb wr => ∃ (m k : Nat) (A6 : Option Addr) (c6 pb : Nat) (b : Bool), v = .slice A6 m c6 ∧ vp = .pointer (some ⟨pb, 0, none⟩) ∧ vb = .bool b ∧ k = s0 + m ∧ k ≤ n ∧ Hid ((r[k]?).isSome = b) ∧ Hid (∀ i, i < m → (r.getD (s0 + i) default).1 ≤ to_) ∧ Hid (OvS w2 wr ib sb pb (nx r k) r[k]? (.slice A6 m c6) ((r.drop s0).take m))) (fun v _ _ _ => n - lenV2 v)
  case atStart => exact ⟨0, s0, none, 0, pb3, b3, rfl, rfl, rfl, rfl, hsn, HB3, Lib.hid (fun i hi => by omega), D3⟩
  case round =>
    obtain ⟨m, k, A6, c6, pb, b, rfl, rfl, rfl, hkm, hk, HB, HM, D⟩ := hrel
    rename World => wr
    clear D3 HB3
    by_cases hlt : k < n
    · obtain ⟨p, hp⟩ : ∃ p, r[k]? = some p := ⟨_, List.getElem?_eq_getElem (by rw [HN.out]; exact hlt)⟩
      obtain rfl : b = true := by rw [← HB.out, hp]; rfl
      have PB : Hid (Blk wr pb 42 #[.int .i64 p.1, .int .i64 p.2]) := Lib.hid (by have := D.out.p; rw [hp] at this; exact this)
      have c0 : wr.cell? ⟨pb, 0, none⟩ = some (.int .i64 p.1) := PB.out.cell 0
      have c1 : wr.cell? ⟨pb, 1, none⟩ = some (.int .i64 p.2) := PB.out.cell 1
      have HP : Hid (r.getD k default = p) := Lib.hid (by rw [List.getD_eq_getElem?_getD, hp]; rfl)
      by_cases hto : p.1 ≤ to_
      · have dto : decide (p.1 ≤ to_) = true := by simpa using hto
        have DA := Lib.hid (D.out.upd0 ((Upd.refl [] wr).alloc (.cells #[.int .i64 p.1, .int .i64 p.2] 42)))
        have LT : Hid (((r.drop s0).take m).length = m) := Lib.hid (by rw [List.length_take, List.length_drop, HN.out]; omega)
        have OA : Hid ((wr.alloc (.cells #[.int .i64 p.1, .int .i64 p.2] 42)).ownsRow w2.heap.size 42 2 (.slice A6 m c6) m (flat encPr ((r.drop s0).take m))) := Lib.hid (by have := DA.out.out; unfold Ow at this; rw [LT.out] at this; exact this)
        have TK : Hid ((r.drop s0).take m ++ [p] = (r.drop s0).take (m + 1)) := Lib.hid (by rw [List.take_add_one, List.getElem?_drop, ← hkm, hp]; rfl)
        have HM2 : Hid (∀ i, i < m + 1 → (r.getD (s0 + i) default).1 ≤ to_) := Lib.hid (fun i hi => by
          rcases Nat.lt_or_ge i m with h3 | h3
          · exact HM.out i h3
          · obtain rfl : i = m := by omega
            rw [← hkm, HP.out]; exact hto)
        have HP2 := Lib.hid hp
        clear hp HB D hto
        go_wp2_with (at_builtin; refine stopped ?_)
        refine Lib.hid ?_
        refine wpList_app _ (by rfl) (.tmp 33) (.tmp 35) _ (by rfl) elem_pair (.slice A6 m c6) _ (by rfl) (by rfl) OA.out (.of_blk (Blk.new _ _ _) (m := 1) 1 rfl) (by intro u hu; simp at hu; rcases hu with rfl | rfl <;> rfl) (by simp only [maxLen]; omega) (by omega) DA.out.u.size ?_
        intro v7 w7 o7 u7 b7
        have D7 : Hid (OvS w2 w7 ib sb pb (nx r k) r[k]? v7 ((r.drop s0).take (m + 1))) := Lib.hid (by rw [← TK.out]; exact DA.out.push (by unfold Ow; rw [List.length_append, LT.out, flat_append, flat_one_]; exact o7) u7 b7)
        obtain ⟨A7, c7, rfl, _, _⟩ := own_slice o7
        have PB7 : Hid (Blk w7 pb 42 #[.int .i64 p.1, .int .i64 p.2]) := Lib.hid (by have := D7.out.p; rw [HP2.out] at this; exact this)
        have e0 : w7.cell? ⟨pb, 0, none⟩ = some (.int .i64 p.1) := PB7.out.cell 0
        have e1 : w7.cell? ⟨pb, 1, none⟩ = some (.int .i64 p.2) := PB7.out.cell 1
        have KN : Hid (nx r k = k + 1) := Lib.hid (by unfold nx; rw [if_pos (by rw [HN.out]; exact hlt)])
        have U8 : Hid (Upd [ib] w2 (w7.alloc (.cells #[.int .i64 p.1, .int .i64 p.2] 42))) := Lib.hid (D7.out.u.alloc _)
        have I8 : Hid (IterIs B ib sb r (k + 1) (w7.alloc (.cells #[.int .i64 p.1, .int .i64 p.2] 42))) := Lib.hid ⟨by have := D7.out.it.upd ((Upd.refl [] w7).alloc (.cells #[.int .i64 p.1, .int .i64 p.2] 42)) (by simp); rwa [KN.out] at this, I2.out.s.off I2.out.it (by decide) (by decide) U8.out, by rw [HN.out]; omega⟩
        clear o7 u7 b7 c0 c1 OA DA PB PB7
        go_wp2_with fail
        refine (i_next _ ib sb r (k + 1) _ I8.out).mono ?_
        rintro e w8 ⟨rfl, i8, u8⟩
        unfold toldP
        obtain ⟨x2, hx2⟩ : ∃ x, ((r[k + 1]?).map (·.1)).getD 0 = x := ⟨_, rfl⟩
        obtain ⟨y2, hy2⟩ : ∃ x, ((r[k + 1]?).map (·.2)).getD 0 = x := ⟨_, rfl⟩
        obtain ⟨b2, hb2⟩ : ∃ x, (r[k + 1]?).isSome = x := ⟨_, rfl⟩
        rw [hx2, hy2, hb2]
        have HB2 := Lib.hid hb2
        have D9 := Lib.hid (D7.out.told p.1 p.2 i8.it u8 x2 y2 hx2 hy2)
        have BP8 : Hid (Blk w8 w7.heap.size 42 #[.int .i64 p.1, .int .i64 p.2]) := Lib.hid ((Blk.new w7 _ _).upd u8 (by have := D7.out.it.lt; simp; omega))
        have f0 : w8.cell? ⟨w7.heap.size, 0, none⟩ = some (.int .i64 p.1) := BP8.out.cell 0
        have f1 : w8.cell? ⟨w7.heap.size, 1, none⟩ = some (.int .i64 p.2) := BP8.out.cell 1
        have fz : ∀ k, w8.frozen? ⟨w7.heap.size, k, none⟩ = false := fun k => BP8.out.frozen k
        have fl : w7.heap.size < w8.heap.size := BP8.out.lt
        clear i8 u8 hx2 hy2 hb2 e0 e1 D7 BP8
        go_wp2_with fail
        go_roundw
        case rel => exact ⟨m + 1, k + 1, A7, c7, _, b2, rfl, rfl, rfl, by omega, by omega, HB2, HM2, D9⟩
        case measure => simp [lenV2]; omega
      · have dto : decide (p.1 ≤ to_) = false := by simpa using hto
        have DN : Hid ((r.drop s0).take m = rangeF r from_ to_) := Lib.hid (by
          rw [← HS.out]
          refine range_done H.out.srt (fun i hi => by rw [HS.out]; exact HM.out i hi) (.inr ?_) (by rw [HS.out, HN.out]; omega)
          rw [HS.out, ← hkm, HP.out]; omega)
        have OT : Hid (Ow encPr 42 wr w.heap.size (.slice A6 m c6) (rangeF r from_ to_)) := Lib.hid (own_base (by have := D.out.out; rw [DN.out] at this; exact this) (U2.out.size))
        have UF : Hid (Upd [] w wr) := Lib.hid (U2.out.trans' D.out.u (fun x hx => .inr (by have := HIB.out; simp at hx; omega)))
        clear hp hto D
        go_wp2_with fail
        go_ret
        exact ⟨_, rfl, OT.out, UF.out⟩
    · obtain rfl : b = false := by rw [← HB.out, List.getElem?_eq_none (by rw [HN.out]; omega)]; rfl
      have DN : Hid ((r.drop s0).take m = rangeF r from_ to_) := Lib.hid (by
        rw [← HS.out]
        refine range_done H.out.srt (fun i hi => by rw [HS.out]; exact HM.out i hi) (.inl ?_) (by rw [HS.out, HN.out]; omega)
        rw [HS.out, HN.out]; omega)
      have OT : Hid (Ow encPr 42 wr w.heap.size (.slice A6 m c6) (rangeF r from_ to_)) := Lib.hid (own_base (by have := D.out.out; rw [DN.out] at this; exact this) (U2.out.size))
      have UF : Hid (Upd [] w wr) := Lib.hid (U2.out.trans' D.out.u (fun x hx => .inr (by have := HIB.out; simp at hx; omega)))
      clear D
      go_wp2_with fail
      go_ret
      exact ⟨_, rfl, OT.out, UF.out⟩
set_option maxRecDepth 100000 in
set_option maxHeartbeats 1000000 in
theorem s_range_nil (from_ to_ : Int) (w : World) : Calls Try.prog 24 #[.pointer none, .int .i64 from_, .int .i64 to_] w fun e w' => e = .returned (.slice none 0 0) ∧ Upd [] w w' := by
  go_enter Try.func24, Try.ntmps24
  go_wp2_with fail
  refine (s_iter_nil w).mono ?_
  rintro e w1 ⟨rfl, rfl⟩
  go_wp2_with fail
  refine (i_seek_nil from_ w).mono ?_
  rintro e w1 ⟨rfl, rfl⟩
  go_wp2_with fail
  refine (i_next_nil w).mono ?_
  rintro e w1 ⟨rfl, u1⟩
  have U1 := Lib.hid u1
  unfold toldP
  clear u1
  have UA : Hid (Upd [] w (w1.alloc (.cells #[.int .i64 0, .int .i64 0] 42))) := Lib.hid (U1.out.alloc _)
  go_wp2_with fail
  generalize (w1.alloc (.cells #[.int .i64 0, .int .i64 0] 42)) = w4 at *
  generalize w1.heap.size = pb3 at *
  go_loopw [7, 10] (fun v vb wr => v = .slice none 0 0 ∧ vb = .bool false ∧ Hid (Upd [] w wr)) (fun _ _ _ => 0)
  case atStart => exact ⟨rfl, rfl, UA⟩
  case round =>
    obtain ⟨rfl, rfl, UR⟩ := hrel
    go_wp2_with fail
    go_ret
    exact ⟨rfl, UR.out⟩
end Go.Proofs.Ythdjbflbhgbckaa

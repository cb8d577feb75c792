/-
  stats.Bars.
-/
import Derived.Test.YtiahnlaplkeiaaaDoorStSm
set_option linter.unusedVariables false
namespace Go.Proofs.YtiahnlaplkeiaaaDoor
open Go.RowKit St
attribute [local go_sem] litStep_value

theorem stopped {p : Prop} (h : Hid p) : p := h.out
theorem elem_int : Elem Tryd.prog 29 3 1 8 := .mk' (z := ((Tryd.prog.info? 3).bind (·.zero)).getD undef) Tryd.underlying29 (by kernel_rfl) (by kernel_rfl) (by decide)
/-- Ints that the call owns. -/
abbrev OwI (w : World) (B : Nat) (v : Value) (n : Nat) (xs : List Int) : Prop := w.ownsRow B 3 1 v n (xs.map (Value.int .i64))
def padTo (s : List Int) (m : Nat) : List Int := s ++ List.replicate (m - s.length) 0
theorem pad_self (s : List Int) : padTo s s.length = s := by simp [padTo]
theorem pad_len (s : List Int) (m : Nat) : (padTo s m).length = max s.length m := by unfold padTo; simp; omega
theorem pad_step {s : List Int} {m : Nat} (h : s.length ≤ m) : padTo s (m + 1) = padTo s m ++ [0] := by
  unfold padTo
  rw [show m + 1 - s.length = (m - s.length) + 1 by omega, List.replicate_succ', List.append_assoc]
theorem pad_inc (s : List Int) (b : Nat) : incAt s b = (padTo s (max s.length (b + 1))).set b ((padTo s (max s.length (b + 1))).getD b 0 + 1) := by
  unfold incAt padTo
  split
  · rename_i h
    rw [show max s.length (b + 1) - s.length = 0 by omega]
    simp
  · rename_i h
    rw [show max s.length (b + 1) - s.length = (b - s.length) + 1 by omega, List.replicate_succ', ← List.append_assoc]
    have hl : b = (s ++ List.replicate (b - s.length) (0 : Int)).length := by simp; omega
    rw [List.getD_eq_getElem?_getD, List.getElem?_append_right (by omega), ← hl, Nat.sub_self]
    rw [List.set_append_right b _ (by omega), ← hl, Nat.sub_self]
    simp
theorem pad_get (s : List Int) (m j : Nat) : (padTo s m).getD j 0 = s.getD j 0 := by
  unfold padTo
  simp only [List.getD_eq_getElem?_getD]
  by_cases h : j < s.length
  · rw [List.getElem?_append_left h]
  · rw [List.getElem?_append_right (by omega), List.getElem?_eq_none (by omega : s.length ≤ j), List.getElem?_replicate]
    split <;> rfl
theorem bars_rng (l : List En) (j : Nat) : 0 ≤ (barsL l).getD j 0 ∧ (barsL l).getD j 0 ≤ l.length := by
  have h := fold_bars_get j l []
  have e : (barsL l).getD j 0 = ((l.filter (fun x => St.bits (took x) == j)).length : Int) := by
    unfold barsL
    rw [h]
    simp
  rw [e]
  have := List.length_filter_le (fun x => St.bits (took x) == j) l
  omega
theorem bits_pos {t : Int} (h : 0 < t) : St.bits t = St.bits (t / 2) + 1 := by
  unfold St.bits
  rw [bitsN_pos (by omega)]
  congr 2
  omega
theorem bits_non {t : Int} (h : ¬ 0 < t) : St.bits t = 0 := by
  unfold St.bits
  rw [show t.toNat = 0 by omega, bitsN_zero]
def slLen : Value → Nat
  | .slice _ n _ => n
  | _ => 0
theorem run_lenS {v : Value} {m : Nat} (h : ∃ A c, v = .slice A m c) (W : World) : (Builtin.len_ #[29] 3 #[v]).run Tryd.prog W = .ok (.int .i64 m) W := by
  obtain ⟨A, c, rfl⟩ := h
  simp [Builtin.len_, run_underlying Tryd.underlying29, Builtin.lenOf, goInt]
set_option maxRecDepth 100000 in
set_option maxHeartbeats 4000000 in
theorem bars_ok (A : Option Addr) (n c : Nat) (L : List En) (w : World) (h : Rd encE w (.slice A n c) L) (hn : L.length = n) (hl : n ≤ 200) (he : ∀ x ∈ L, EB x) :
    Calls Tryd.prog 14 #[.slice A n c] w fun e w' => ∃ v, e = .returned v ∧ OwI w' w.heap.size v (barsL L).length (barsL L) ∧ Upd [] w w' := by
  have H := Lib.hid h
  have HN := Lib.hid hn
  have HE := Lib.hid he
  clear h hn he
  go_enter Tryd.func14, Tryd.ntmps14
  go_wp2_with fail
  go_loopw [3, 10] (fun vl v wr => ∃ k : Nat, v = .int .i64 k ∧ k ≤ n ∧ Hid (OwI wr w.heap.size vl (barsL (L.take k)).length (barsL (L.take k)) ∧ Upd [] w wr)) (fun _ v _ => n - (intOf v).toNat)
  case atStart => exact ⟨0, rfl, by omega, Lib.hid ⟨own_nil _ _ _ _, .refl _ _⟩⟩
  case round =>
    obtain ⟨k, rfl, hk, HK⟩ := hrel
    obtain ⟨ho, hu⟩ := HK.out
    obtain ⟨Al, cl, rfl, _, _⟩ := own_slice ho
    by_cases hkn : k < n
    · obtain ⟨x, hx⟩ : ∃ x, L[k]? = some x := ⟨_, List.getElem?_eq_getElem (by rw [HN.out]; exact hkn)⟩
      have EX := Lib.hid (HE.out _ (List.mem_of_getElem? hx))
      have BS := Lib.hid (bits_small EX.out)
      have HT := Lib.hid (take_snoc hx)
      have HB22 : Hid ((barsL (L.take k)).length ≤ 22) := Lib.hid (barsL_len (fun y hy => HE.out y (List.mem_of_mem_take hy)))
      obtain ⟨ad, rfl, hlt, e0, e1, e2, e3, e4, e5, e6, e7, e8⟩ := en_cells (H.out.upd0 hu) hx
      obtain ⟨th, ix, st, wr', be, en, kd, er, ta, tn, tc⟩ := x
      obtain ⟨f1, f2, f3, f4⟩ := EX.out
      simp only at f1 f2 f3 f4
      have q1 : (0 : Int) ≤ (k : Int) := by omega
      have q2 : (k : Int) < (n : Int) := by omega
      obtain ⟨s, hs⟩ : ∃ s, barsL (L.take k) = s := ⟨_, rfl⟩
      obtain ⟨b, hb⟩ : ∃ b, St.bits (en - be) = b := ⟨_, rfl⟩
      have HS : Hid (barsL (L.take (k + 1)) = incAt s b) := Lib.hid (by rw [HT.out, barsL_snoc, hs]; show incAt s (St.bits (en - be)) = _; rw [hb])
      have HBB := Lib.hid hb
      have B21 : b ≤ 21 := by have := BS.out; unfold took at this; simp only at this; omega
      have HYB : Hid (∀ j, 0 ≤ s.getD j 0 ∧ s.getD j 0 ≤ 200) := Lib.hid (fun j => by
        have := bars_rng (L.take k) j
        rw [hs] at this
        have h2 : (L.take k).length ≤ L.length := List.length_take_le' _ _
        have h3 := HN.out
        omega)
      rw [hs] at ho HB22
      have O0 := Lib.hid ho
      have U0 := Lib.hid hu
      obtain ⟨q, hq⟩ : ∃ q, s.length = q := ⟨_, rfl⟩
      rw [hs, hq]
      rw [hq] at O0 HB22
      have HQ := Lib.hid hq
      have q22 : q ≤ 22 := HB22.out
      clear hx ho hu hs hb hq HK BS
      go_wp2_with fail
      have U1 : Hid (Upd [] w (wr.alloc (.cells #[.int .i64 th, .int .i64 ix, .int .i64 st, .bool wr', .int .i64 be, .int .i64 en, .int .i64 kd, .slice ta tn tc, .int .i64 er] 45))) := Lib.hid (U0.out.alloc _)
      have O1 := Lib.hid (own_upd0 O0.out ((Upd.refl [] wr).alloc (.cells #[.int .i64 th, .int .i64 ix, .int .i64 st, .bool wr', .int .i64 be, .int .i64 en, .int .i64 kd, .slice ta tn tc, .int .i64 er] 45)))
      generalize (wr.alloc (.cells #[.int .i64 th, .int .i64 ix, .int .i64 st, .bool wr', .int .i64 be, .int .i64 en, .int .i64 kd, .slice ta tn tc, .int .i64 er] 45)) = w5 at *
      clear e0 e1 e2 e3 e4 e5 e6 e7 e8 hlt
      go_loopw [6, 7] (fun vj vt wi => ∃ (j : Nat) (t : Int), vj = .int .i64 j ∧ vt = .int .i64 t ∧ -2000000 ≤ t ∧ t ≤ 2000000 ∧ j ≤ 21 ∧ Hid (j + St.bits t = b) ∧ Hid (Upd [] w5 wi)) (fun _ v _ => (intOf v).toNat)
      case atStart => exact ⟨0, en - be, rfl, by go_num, by omega, by omega, by omega, Lib.hid (by rw [HBB.out, Nat.zero_add]), Lib.hid (.refl _ _)⟩
      case round =>
        obtain ⟨j, t, rfl, rfl, t1, t2, hj, HJ, UJ⟩ := hrel
        rename World => wj
        by_cases ht : 0 < t
        · have d : decide (0 < t) = true := by simpa using ht
          have HJ2 : Hid (j + 1 + St.bits (t / 2) = b) := Lib.hid (by rw [← HJ.out, bits_pos ht]; omega)
          have hj2 : j + 1 ≤ 21 := by have := HJ2.out; omega
          go_wp2_with fail
          go_roundw
          case rel => exact ⟨j + 1, t / 2, by go_num, by go_num, by omega, by omega, hj2, HJ2, UJ⟩
          case measure => simp [intOf]; omega
        · have d : decide (0 < t) = false := by simpa using ht
          have HJ2 : j = b := by have := HJ.out; rw [bits_non ht] at this; omega
          subst HJ2
          have O2 := Lib.hid (own_upd0 O1.out UJ.out)
          have U2 := Lib.hid (U1.out.trans UJ.out)
          clear HJ t1 t2 ht
          have PQ : Hid (q ≤ max q (j + 1)) := Lib.hid (by omega)
          go_wp2_with fail
          go_loopw [3] (fun vl wi => ∃ m, m ≤ 23 ∧ q ≤ m ∧ Hid (m ≤ max q (j + 1)) ∧ Hid (OwI wi w.heap.size vl m (padTo s m) ∧ Upd [] w wi)) (fun v _ => 23 - slLen v)
          case atStart => exact ⟨q, by omega, Nat.le_refl _, PQ, Lib.hid ⟨by rw [← HQ.out, pad_self, HQ.out]; exact O2.out, U2.out⟩⟩
          case round =>
            obtain ⟨m, m23, hqm, HM, HO⟩ := hrel
            rename World => wk
            have ES : Hid (∃ A c, u3 = .slice A m c) := Lib.hid (by obtain ⟨A, c, h, _⟩ := own_slice HO.out.1; exact ⟨A, c, h⟩)
            have ln : ∀ W, (Builtin.len_ #[29] 3 #[u3]).run Tryd.prog W = .ok (.int .i64 m) W := run_lenS ES.out
            by_cases hmj : m ≤ j
            · have PS : Hid (padTo s (m + 1) = padTo s m ++ [0]) := Lib.hid (pad_step (by rw [HQ.out]; exact hqm))
              go_wp2_with (at_builtin; refine stopped ?_)
              refine Lib.hid ?_
              refine wpList_app _ (by rfl) (.tmp 31) (.tmp 32) _ (by rfl) elem_int u3 _ (by rfl) (by rfl) (own_upd0 HO.out.1 ((Upd.refl [] wk).alloc _)) (.of_blk (Blk.new _ _ _) (m := 1) 1 rfl) (by intro u hu; simp at hu; subst hu; rfl) (by simp only [maxLen]; omega) (by omega) (Nat.le_trans HO.out.2.size (by simp)) ?_
              intro v7 w7 o7 u7 b7
              obtain ⟨A7, c7, rfl, _, _⟩ := own_slice o7
              have U7 : Hid (Upd [] w w7) := Lib.hid (HO.out.2.trans' (((Upd.refl _ wk).alloc _).trans u7) (fun k hk => .inr (own_lt HO.out.1 (by simpa using hk)).1))
              have O7 : Hid (OwI w7 w.heap.size (.slice A7 (m + 1) c7) (m + 1) (padTo s (m + 1))) := Lib.hid (by
                rw [PS.out]
                unfold OwI
                rw [List.map_append]
                exact o7)
              clear o7 u7 b7
              go_wp2_with fail
              go_roundw
              case rel => exact ⟨m + 1, by omega, by omega, Lib.hid (by omega), Lib.hid ⟨O7.out, U7.out⟩⟩
              case measure => obtain ⟨_, _, rfl⟩ := ES.out; simp [slLen]; omega
            · have hme : m = max q (j + 1) := by have := HM.out; omega
              have PI := Lib.hid (pad_inc s j)
              have O9 := Lib.hid HO.out.1
              have U9 := Lib.hid HO.out.2
              rw [HQ.out, ← hme] at PI
              obtain ⟨g, cg, cur, rfl, hg, _⟩ := own_form O9.out (by omega)
              obtain ⟨y, hy⟩ : ∃ y, (padTo s m)[j]? = some y := ⟨_, List.getElem?_eq_getElem (by rw [pad_len, HQ.out]; omega)⟩
              have y0 : wk.cell? ⟨g, j, none⟩ = some (.int .i64 y) := own_cell O9.out j _ (by rw [List.getElem?_map, hy]; rfl)
              have z0 : wk.frozen? ⟨g, j, none⟩ = false := own_frozen O9.out j
              have PJ : Hid (incAt s j = (padTo s m).set j (y + 1)) := Lib.hid (by rw [PI.out, List.getD_eq_getElem?_getD, hy]; rfl)
              have YB : Hid (0 ≤ y ∧ y ≤ 200) := Lib.hid (by
                have h1 : y = (padTo s m).getD j 0 := by rw [List.getD_eq_getElem?_getD, hy]; rfl
                rw [pad_get] at h1
                rw [h1]
                exact ⟨(HYB.out j).1, by have := (HYB.out j).2; omega⟩)
              have y1 : 0 ≤ y := YB.out.1
              have y2 : y ≤ 200 := YB.out.2
              have p1 : (0 : Int) ≤ (j : Int) := by omega
              have p2 : (j : Int) < (m : Int) := by omega
              have hg2 : g < wk.heap.size := (own_lt O9.out rfl).2
              clear HO HM PI hy
              go_wp2_with fail
              go_roundw
              case rel =>
                refine ⟨k + 1, by go_num, by omega, Lib.hid ⟨?_, ?_⟩⟩
                · have o := own_set O9.out j (.int .i64 (y + 1))
                  rw [HS.out, PJ.out, List.length_set, pad_len, HQ.out]
                  unfold OwI
                  rw [List.map_set]
                  rw [show max q m = m by omega]
                  exact o
                · exact U9.out.setCell (.inr hg) _
              case measure => simp [intOf]; omega
    · obtain rfl : k = n := by omega
      have FT : Hid (L.take k = L) := Lib.hid (List.take_of_length_le (by rw [HN.out]; exact Nat.le_refl _))
      go_wp2_with fail
      go_ret
      rw [FT.out] at ho
      exact ⟨_, rfl, by rw [FT.out]; exact ho, hu⟩
end Go.Proofs.YtiahnlaplkeiaaaDoor

/-
  stats.Overlap.
-/
import Derived.Test.YtiahnlaplkeiaaaDoorStPt
import Derived.Test.YtiahnlaplkeiaaaDoorStO
set_option linter.unusedVariables false
namespace Go.Proofs.YtiahnlaplkeiaaaDoor
open Go.RowKit St
attribute [local go_sem] litStep_value

theorem elem_pt : Elem Tryd.prog 54 56 2 16 := .mk' (z := ((Tryd.prog.info? 56).bind (·.zero)).getD undef) Tryd.underlying54 (by kernel_rfl) (by kernel_rfl) (by decide)
set_option maxRecDepth 100000 in
set_option maxHeartbeats 4000000 in
theorem overlap_ok (A : Option Addr) (n c : Nat) (L : List En) (w : World) (h : Rd encE w (.slice A n c) L) (hn : L.length = n) (hl : n ≤ 100) :
    Calls Tryd.prog 12 #[.slice A n c] w fun e w' => e = .returned (.int .i64 (overL L)) ∧ Upd [] w w' := by
  have H := Lib.hid h
  have HN := Lib.hid hn
  clear h hn
  go_enter Tryd.func12, Tryd.ntmps12
  go_wp2_with fail
  go_loopw [3, 12] (fun vl v wr => ∃ k : Nat, v = .int .i64 k ∧ k ≤ n ∧ Hid (Ow encP 56 wr w.heap.size vl (pts (L.take k)) ∧ Upd [] w wr)) (fun _ v _ => n - (intOf v).toNat)
  case atStart => exact ⟨0, rfl, by omega, Lib.hid ⟨Ow.nil _ _ _ _, .refl _ _⟩⟩
  case round =>
    obtain ⟨k, rfl, hk, HK⟩ := hrel
    by_cases hkn : k < n
    · obtain ⟨x, hx⟩ : ∃ x, L[k]? = some x := ⟨_, List.getElem?_eq_getElem (by rw [HN.out]; exact hkn)⟩
      have HT := Lib.hid (take_snoc hx)
      obtain ⟨ad, rfl, hlt, e0, e1, e2, e3, e4, e5, e6, e7, e8⟩ := en_cells (H.out.upd0 HK.out.2) hx
      obtain ⟨th, ix, st, wr', be, en, kd, er, ta, tn, tc⟩ := x
      simp only at e0 e1 e2 e3 e4 e5 e6 e7 e8
      have q1 : (0 : Int) ≤ (k : Int) := by omega
      have q2 : (k : Int) < (n : Int) := by omega
      clear hx
      by_cases hb : be ≤ en
      · have HP : Hid (pts (L.take (k + 1)) = pts (L.take k) ++ [(be, -1), (en, 1)]) := Lib.hid (by rw [HT.out, pts_snoc]; unfold ptOf; rw [if_pos hb])
        have db : decide (be ≤ en) = true := by simpa using hb
        obtain ⟨q, hq⟩ : ∃ q, (pts (L.take k)).length = q := ⟨_, rfl⟩
        have hq2 : q ≤ 200 := by
          have h1 := pts_len (L.take k)
          have h2 : (L.take k).length ≤ L.length := List.length_take_le' _ _
          have h3 := HN.out
          omega
        have O1 : Hid (wr.ownsRow w.heap.size 56 2 u3 q (flat encP (pts (L.take k)))) := Lib.hid (by have := HK.out.1; unfold Ow at this; rw [hq] at this; exact this)
        have HQ := Lib.hid hq
        clear hq
        go_wp2_with (at_builtin; refine stopped ?_)
        refine Lib.hid ?_
        refine wpList_app _ (by rfl) (.tmp 23) (.tmp 32) _ (by rfl) elem_pt u3 _ (by rfl) (by rfl) (own_upd0 (own_upd0 O1.out ((Upd.refl [] wr).alloc _)) ((Upd.refl [] _).alloc _)) (.of_blk (q := wr.heap.size + 1) (by have := Blk.new (wr.alloc (.cells #[.int .i64 th, .int .i64 ix, .int .i64 st, .bool wr', .int .i64 be, .int .i64 en, .int .i64 kd, .slice ta tn tc, .int .i64 er] 45)) 56 #[.int .i64 be, .int .i64 (-1), .int .i64 en, .int .i64 1]; simpa using this) (m := 2) 2 rfl) (by intro u hu; simp at hu; rcases hu with rfl | rfl | rfl | rfl <;> rfl) (by simp only [maxLen]; omega) (by omega) (Nat.le_trans HK.out.2.size (by simp; omega)) ?_
        intro v7 w7 o7 u7 b7
        have U7 : Hid (Upd [] w w7) := Lib.hid (HK.out.2.trans' ((((Upd.refl _ wr).alloc _).alloc _).trans u7) (fun k hk => .inr (own_lt O1.out (by simpa using hk)).1))
        have O7 : Hid (Ow encP 56 w7 w.heap.size v7 (pts (L.take (k + 1)))) := Lib.hid (by
          rw [HP.out]
          unfold Ow
          rw [List.length_append, HQ.out, flat_append]
          exact o7)
        clear o7 u7 b7 e0 e1 e2 e3 e4 e5 e6 e7 e8
        go_wp2_with fail
        go_roundw
        case rel => exact ⟨k + 1, by go_num, by omega, Lib.hid ⟨O7.out, U7.out⟩⟩
        case measure => simp [intOf]; omega
      · have HP : Hid (pts (L.take (k + 1)) = pts (L.take k)) := Lib.hid (by rw [HT.out, pts_snoc]; unfold ptOf; rw [if_neg hb, List.append_nil])
        have db : decide (be ≤ en) = false := by simpa using hb
        go_wp2_with fail
        go_roundw
        case rel => exact ⟨k + 1, by go_num, by omega, Lib.hid ⟨by rw [HP.out]; exact HK.out.1.upd0 ((Upd.refl [] wr).alloc _), HK.out.2.alloc _⟩⟩
        case measure => simp [intOf]; omega
    · obtain rfl : k = n := by omega
      have FT : Hid (L.take k = L) := Lib.hid (List.take_of_length_le (by rw [HN.out]; exact Nat.le_refl _))
      rw [FT.out] at HK
      obtain ⟨q, hq⟩ : ∃ q, (pts L).length = q := ⟨_, rfl⟩
      have hq2 : q ≤ 200 := by
        have h1 := pts_len L
        have h3 := HN.out
        omega
      have SQ : Hid ((sortP (pts L)).length = q) := Lib.hid ((sortP_perm _).length_eq.trans hq)
      have HPM : Hid (∀ p ∈ sortP (pts L), p.2 = 1 ∨ p.2 = -1) := Lib.hid (fun p hp => (mem_pts ((sortP_perm _).mem_iff.1 hp)).imp id (fun h => h.1))
      have OQ : Hid (Ow encP 56 wr w.heap.size u3 (pts L)) := Lib.hid HK.out.1
      have KU : Hid (Upd [] w wr) := Lib.hid HK.out.2
      clear HK
      obtain ⟨A3, c3, rfl, _, _⟩ := own_slice OQ.out
      have HQ := Lib.hid hq
      rw [hq] at OQ ⊢
      clear hq
      go_wp2_with fail
      have SC : Calls Tryd.prog 26 #[.slice A3 q c3, .func (.func 27) #[] #[]] wr fun e w' => e = .returned (.tuple #[]) ∧ Ow encP 56 w' w.heap.size (.slice A3 q c3) (sortP (pts L)) ∧ Upd [] w w' := by
        by_cases h0 : q = 0
        · have h1 : pts L = [] := List.eq_nil_of_length_eq_zero (by rw [HQ.out]; exact h0)
          subst h0
          refine (sortFuncP_none A3 c3 wr).mono ?_
          rintro e w' ⟨rfl, rfl⟩
          refine ⟨rfl, ?_, KU.out⟩
          have := OQ.out
          rw [h1] at this ⊢
          rw [show sortP [] = [] by simp [sortP]]
          exact this
        · obtain ⟨g, cg, cur, eg, hg, _⟩ := own_form OQ.out (by rw [HQ.out]; omega)
          rw [HQ.out] at eg
          injection eg with eg _ eg'
          subst eg eg'
          refine (sortFuncP w.heap.size g q _ (pts L) wr OQ.out HQ.out (by omega)).mono ?_
          rintro e w' ⟨rfl, o, u⟩
          exact ⟨rfl, o, KU.out.trans' u (by simp; exact hg)⟩
      refine SC.mono ?_
      rintro e w2 ⟨rfl, o2, u2⟩
      have O2 := Lib.hid o2.rd
      have U2 := Lib.hid u2
      clear o2 u2 SC OQ KU
      go_wp2_with fail
      go_loopw [6, 7, 39] (fun vn vm v wr => ∃ (j : Nat) (a m : Int), v = .int .i64 j ∧ vn = .int .i64 a ∧ vm = .int .i64 m ∧ j ≤ q ∧ -(j : Int) ≤ a ∧ a ≤ j ∧ Hid (sweep ((sortP (pts L)).drop j) a m = overL L) ∧ Hid (Upd [] w2 wr)) (fun _ _ v _ => q - (intOf v).toNat)
      case atStart => exact ⟨0, 0, 0, rfl, rfl, rfl, by omega, by omega, by omega, Lib.hid rfl, Lib.hid (.refl _ _)⟩
      case round =>
        obtain ⟨j, a, m, rfl, rfl, rfl, hj, a1, a2, HS, HU⟩ := hrel
        rename World => wj
        by_cases hjq : j < q
        · obtain ⟨⟨pa, pb⟩, hx⟩ : ∃ x, (sortP (pts L))[j]? = some x := ⟨_, List.getElem?_eq_getElem (by rw [SQ.out]; exact hjq)⟩
          obtain ⟨ad3, eA, _, hcl⟩ := (O2.out.upd0 HU.out).at_ hx
          subst eA
          have e0 : wj.cell? (ad3.add (j * 2)) = some (.int .i64 pa) := hcl 0 _ rfl
          have e1 : wj.cell? ⟨(ad3.add (j * 2)).block, (ad3.add (j * 2)).off + 1, none⟩ = some (.int .i64 pb) := by
            have := hcl 1 _ rfl; rwa [show j * encP.s + 1 = j * 2 + (0 + 1) from rfl, add_more] at this
          have hpb := HPM.out _ (List.mem_of_getElem? hx)
          simp only at hpb
          have b1 : -1 ≤ pb := by omega
          have b2 : pb ≤ 1 := by omega
          have HS2 : Hid (sweep ((sortP (pts L)).drop (j + 1)) (a - pb) (max m (a - pb)) = overL L) := Lib.hid (by
            obtain ⟨hk2, e⟩ := List.getElem?_eq_some_iff.1 hx
            have h1 := HS.out
            rw [List.drop_eq_getElem_cons hk2, e] at h1
            exact h1)
          have q1 : (0 : Int) ≤ (j : Int) := by omega
          have q2 : (j : Int) < (q : Int) := by omega
          clear hx hcl hpb
          go_wp2_with fail
          go_roundw
          case rel => exact ⟨j + 1, a - pb, max m (a - pb), by go_num, by go_num, by go_num, by omega, by omega, by omega, HS2, Lib.hid (HU.out.alloc _)⟩
          case measure => simp [intOf]; omega
        · obtain rfl : j = q := by omega
          have HR : Hid (overL L = m) := Lib.hid (by have := HS.out; rw [List.drop_eq_nil_of_le (by rw [SQ.out]; exact Nat.le_refl _)] at this; exact this.symm)
          go_wp2_with fail
          go_ret
          rw [HR.out]
          exact ⟨rfl, U2.out.trans HU.out⟩
end Go.Proofs.YtiahnlaplkeiaaaDoor

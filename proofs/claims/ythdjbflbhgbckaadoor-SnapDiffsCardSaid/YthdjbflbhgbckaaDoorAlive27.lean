/-
  concordlaw27.alive.
-/
import Derived.Test.YthdjbflbhgbckaaDoorMerge
import Derived.Test.YthdjbflbhgbckaaDoorPairs27
import Derived.Test.YthdjbflbhgbckaaDoorErrN
set_option linter.unusedVariables false
namespace Go.Proofs.YthdjbflbhgbckaaDoor
open Go.RowKit Stab Snap Mrg
attribute [local go_sem] litStep_value

theorem of_good {l r : PL} (hs : Assoc.Srt r) (hp : r.Perm l) : OfR l r 0 0 := .inl ⟨fun k h => srt_nodup hs k ((dup_perm hp k).2 h), rfl, rfl, hs, hp⟩
/-- Of a list of which no key stands twice. -/
theorem of_made {l r : PL} {w w' : World} {e : Ending} (h : OfPost l w e w') (hr : OfR l r 0 0) : ∃ sb, e = .returned (.tuple #[.pointer (some ⟨sb, 0, none⟩), .nilIface]) ∧ SnapIs w.heap.size sb w' r ∧ Upd [] w w' := by
  obtain ⟨hu, ⟨g, k, _, _, h3⟩ | ⟨sb, r', h1, h2, h3⟩⟩ := h
  · have := (of_both h3 hr).2.1
    omega
  · have := (of_both h3 hr).1
    subst this
    exact ⟨sb, h1, h2, hu⟩
theorem SnapV.of {B sb : Nat} {w : World} {r : PL} (h : SnapIs B sb w r) : SnapV w (spV (some sb)) r := .inr ⟨B, sb, rfl, h⟩
set_option maxRecDepth 100000 in
set_option maxHeartbeats 4000000 in
theorem alive27 (w : World) : Calls Tryd.prog 5 #[] w fun e w' => e = .returned (.bool true) ∧ Upd [] w w' := by
  have SA : Hid (Assoc.Srt [((1 : Int), (5 : Int))]) := Lib.hid (List.pairwise_singleton ..)
  have SB : Hid (Assoc.Srt [((1 : Int), (6 : Int)), (2, 7)]) := Lib.hid (by simp [Assoc.Srt])
  have OA : Hid (OfR [((1 : Int), (5 : Int))] [(1, 5)] 0 0) := Lib.hid (of_good SA.out (.refl _))
  have OB : Hid (OfR [((2 : Int), (7 : Int)), (1, 6)] [(1, 6), (2, 7)] 0 0) := Lib.hid (of_good SB.out (.swap _ _ _))
  have DF : Hid (diffL [((1 : Int), (5 : Int))] [(1, 6), (2, 7)] = [(3, 1, 5, 6), (1, 2, -1, 7)]) := Lib.hid (by rw [diff_eq (show ((1 : Int), (5 : Int)).1 = ((1 : Int), (6 : Int)).1 from rfl), diff_right, diff_nil]; rfl)
  have UM : Hid (Uni [[((1 : Int), (5 : Int))], [(1, 6), (2, 7)]] [(1, 5), (2, 7)]) := Lib.hid ⟨by simp [Assoc.Srt], fun k => by
    simp only [List.flatten_cons, List.flatten_nil, List.cons_append, List.nil_append, List.append_nil, Assoc.get_cons, Assoc.get_nil]
    split <;> simp⟩
  go_enter Tryd.func5, Tryd.ntmps5
  go_wp2_with fail
  have R1 : Hid (Rd encPr (w.alloc (.cells #[.int .i64 1, .int .i64 5] 39)) (.slice (some ⟨w.heap.size, 0, none⟩) 1 1) [(1, 5)]) := Lib.hid (.of_blk (Blk.new w _ _) (m := 1) 1 rfl)
  have U1 : Hid (Upd [] w (w.alloc (.cells #[.int .i64 1, .int .i64 5] 39))) := Lib.hid ((Upd.refl [] w).alloc _)
  generalize (w.alloc (.cells #[.int .i64 1, .int .i64 5] 39)) = w1 at *
  refine (s_of _ 1 1 [(1, 5)] w1 R1.out rfl (by omega)).mono ?_
  intro e w2 h2
  obtain ⟨sa, rfl, h2, u2⟩ := of_made h2 OA.out
  have S2 := Lib.hid h2
  have U2 := Lib.hid (U1.out.trans u2)
  clear h2 u2 R1 U1
  have R3 : Hid (Rd encPr (w2.alloc (.cells #[.int .i64 2, .int .i64 7, .int .i64 1, .int .i64 6] 39)) (.slice (some ⟨w2.heap.size, 0, none⟩) 2 2) [(2, 7), (1, 6)]) := Lib.hid (.of_blk (Blk.new w2 _ _) (m := 2) 2 rfl)
  have A3 : Hid (Upd [] w2 (w2.alloc (.cells #[.int .i64 2, .int .i64 7, .int .i64 1, .int .i64 6] 39))) := Lib.hid ((Upd.refl [] w2).alloc _)
  go_wp2_with fail
  generalize (w2.alloc (.cells #[.int .i64 2, .int .i64 7, .int .i64 1, .int .i64 6] 39)) = w3 at *
  refine (s_of _ 2 2 [(2, 7), (1, 6)] w3 R3.out rfl (by omega)).mono ?_
  intro e w4 h4
  obtain ⟨sb, rfl, h4, u4⟩ := of_made h4 OB.out
  have T4 := Lib.hid h4
  have S4 := Lib.hid (S2.out.upd0 (A3.out.trans u4))
  have U4 := Lib.hid (U2.out.trans (A3.out.trans u4))
  clear h4 u4 R3 A3 S2 U2
  go_wp2_with fail
  refine (no_nil _).mono ?_; rintro e w' ⟨rfl, rfl⟩
  go_wp2_with fail
  refine (no_nil _).mono ?_; rintro e w' ⟨rfl, rfl⟩
  go_wp2_with fail
  refine (s_diff (spV (some sa)) (spV (some sb)) _ _ w4 (.of S4.out) (.of T4.out)).mono ?_
  rintro e w5 ⟨v, rfl, o5, u5⟩
  rw [DF.out] at o5
  obtain ⟨A5, c5, rfl, _, _⟩ := own_slice o5
  have O5 := Lib.hid o5
  have S5 := Lib.hid (S4.out.upd0 u5)
  have T5 := Lib.hid (T4.out.upd0 u5)
  have U5 := Lib.hid (U4.out.trans u5)
  clear o5 u5 S4 T4 U4
  have A6 : Hid (Upd [] w5 (w5.alloc (.cells #[.int .i64 3, .int .i64 1, .int .i64 5, .int .i64 6, .int .i64 1, .int .i64 2, .int .i64 (-1), .int .i64 7] 51))) := Lib.hid ((Upd.refl [] w5).alloc _)
  have R6 : Hid (Rd encTn (w5.alloc (.cells #[.int .i64 3, .int .i64 1, .int .i64 5, .int .i64 6, .int .i64 1, .int .i64 2, .int .i64 (-1), .int .i64 7] 51)) (.slice (some ⟨w5.heap.size, 0, none⟩) 2 2) [(3, 1, 5, 6), (1, 2, -1, 7)]) := Lib.hid (.of_blk (Blk.new w5 _ _) (m := 2) 2 rfl)
  go_wp2_with fail
  generalize (w5.alloc (.cells #[.int .i64 3, .int .i64 1, .int .i64 5, .int .i64 6, .int .i64 1, .int .i64 2, .int .i64 (-1), .int .i64 7] 51)) = w6 at *
  refine (turns_rd A5 _ 2 c5 2 2 _ _ w6 (O5.out.rd.upd0 A6.out) R6.out rfl rfl (by omega) (by omega)).mono ?_
  rintro e w7 ⟨rfl, u7⟩
  rw [decide_eq_true rfl]
  have S7 := Lib.hid (S5.out.upd0 (A6.out.trans u7))
  have T7 := Lib.hid (T5.out.upd0 (A6.out.trans u7))
  have U7 := Lib.hid (U5.out.trans (A6.out.trans u7))
  clear u7 S5 T5 U5 O5 R6 A6
  have A8 : Hid (Upd [] w7 (w7.alloc (.cells #[spV (some sa), spV (some sb)] 24))) := Lib.hid ((Upd.refl [] w7).alloc _)
  have R8 : Hid (Rd encSp (w7.alloc (.cells #[spV (some sa), spV (some sb)] 24)) (.slice (some ⟨w7.heap.size, 0, none⟩) 2 2) [some sa, some sb]) := Lib.hid (.of_blk (Blk.new w7 _ _) (m := 2) 2 rfl)
  have A8' : Hid (Upd [] w7 (w7.alloc (.cells #[.pointer (some ⟨sa, 0, none⟩), .pointer (some ⟨sb, 0, none⟩)] 24))) := A8
  have R8' : Hid (Rd encSp (w7.alloc (.cells #[.pointer (some ⟨sa, 0, none⟩), .pointer (some ⟨sb, 0, none⟩)] 24)) (.slice (some ⟨w7.heap.size, 0, none⟩) 2 2) [some sa, some sb]) := R8
  clear A8 R8
  go_wp2_with fail
  generalize (w7.alloc (.cells #[.pointer (some ⟨sa, 0, none⟩), .pointer (some ⟨sb, 0, none⟩)] 24)) = w8 at *
  refine (s_merge _ 2 2 [some sa, some sb] [[(1, 5)], [(1, 6), (2, 7)]] w8 R8'.out rfl rfl (by omega) (fun i hi => ?_) (by simp)).mono ?_
  · match i, hi with
    | 0, _ => exact (SnapV.of S7.out).upd0 A8'.out
    | 1, _ => exact (SnapV.of T7.out).upd0 A8'.out
  rintro e w9 ⟨M, sm, rfl, um, sm9, u9⟩
  obtain rfl := um.eq UM.out
  have S9 := Lib.hid sm9
  have U9 := Lib.hid (U7.out.trans (A8'.out.trans u9))
  clear um sm9 u9 S7 T7 U7 R8' A8'
  go_wp2_with fail
  refine (s_len _ sm _ w9 S9.out).mono ?_
  rintro e w' ⟨rfl, rfl⟩
  go_wp2_with fail
  go_ret
  exact ⟨rfl, U9.out⟩
end Go.Proofs.YthdjbflbhgbckaaDoor

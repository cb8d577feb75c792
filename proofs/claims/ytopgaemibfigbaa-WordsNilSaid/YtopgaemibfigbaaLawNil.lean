/-
  WordsNil, the walk: an arena that is none answers ErrNil, and nothing.
-/
import Derived.Test.YtopgaemibfigbaaWords3
namespace Go.Proofs.Ytopgaemibfigbaa
open Go.RowKit

set_option maxHeartbeats 400000 in
theorem last_nil (w : World) : Calls Try.prog 14 #[.pointer none] w fun e w' => e = .returned (.tuple #[.agg #[.int .i64 0, .int .i64 0, .int .u64 0, .int .u64 0, .bool false], .bool false]) ∧ Upd [] w w' := by
  go_enter Try.func14, Try.ntmps14
  go_wp2_with fail
  refine (count_nil _).mono ?_; rintro e w' ⟨rfl, rfl⟩
  go_wp2_with fail
  refine bodyPost_ret (v := .tuple #[.agg #[.int .i64 0, .int .i64 0, .int .u64 0, .int .u64 0, .bool false], .bool false]) (by simp [results, Try.results14, go_sem]) rfl ⟨rfl, ?_⟩
  exact (Upd.refl _ _).alloc _

set_option maxHeartbeats 1000000 in
theorem law_nil (i x y : Int) (w : World) : Calls Try.prog 5 #[.int .i64 i, .int .u64 x, .int .u64 y] w fun e w' => e = .returned (.bool true) ∧ Upd [] w w' := by
  go_enter Try.func5, Try.ntmps5
  go_wp2_with fail
  refine (load_nil _ _).mono ?_; rintro e w' ⟨rfl, rfl⟩
  go_wp2_with fail
  refine (cas_nil _ _ _ _).mono ?_; rintro e w' ⟨rfl, rfl⟩
  go_wp2_with fail
  refine (last_nil _).mono ?_; rintro e w1 ⟨rfl, u1⟩
  go_wp2_with fail
  refine (no_errno 1 (by omega) (by omega) _).mono ?_; rintro e w' ⟨rfl, rfl⟩
  go_wp2_with fail
  refine (no_errno 1 (by omega) (by omega) _).mono ?_; rintro e w' ⟨rfl, rfl⟩
  go_wp2_with fail
  refine (store_nil _ _ _).mono ?_; rintro e w' ⟨rfl, rfl⟩
  go_wp2_with fail
  refine (no_errno 1 (by omega) (by omega) _).mono ?_; rintro e w' ⟨rfl, rfl⟩
  go_wp2_with fail
  refine (len_nil _).mono ?_; rintro e w' ⟨rfl, rfl⟩
  go_wp2_with fail
  refine (count_nil _).mono ?_; rintro e w' ⟨rfl, rfl⟩
  go_wp2_with fail
  refine (words_nil _).mono ?_; rintro e w' ⟨rfl, rfl⟩
  go_wp2_with fail
  refine (copy_nil _).mono ?_; rintro e w' ⟨rfl, rfl⟩
  go_wp2_with fail
  refine (alive_ok _).mono ?_; rintro e w2 ⟨rfl, u2⟩
  go_wp2_with fail
  go_ret
  exact ⟨rfl, (u1.alloc _).trans u2⟩
end Go.Proofs.Ytopgaemibfigbaa

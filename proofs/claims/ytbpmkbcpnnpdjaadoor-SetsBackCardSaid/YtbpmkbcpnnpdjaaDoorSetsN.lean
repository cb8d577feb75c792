/-
  sets.Sets that are none; sets.New.
-/
import Derived.Test.YtbpmkbcpnnpdjaaDoorSets
set_option linter.unusedVariables false
namespace Go.Proofs.YtbpmkbcpnnpdjaaDoor
open Go.RowKit Assoc SP
attribute [local go_sem] litStep_value

set_option maxRecDepth 100000 in
theorem s_made_nil (w : World) : Calls Tryd.prog 21 #[.pointer none] w fun e w' => e = .returned (.bool false) ∧ w = w' := by
  go_enter Tryd.func21, Tryd.ntmps21
  go_wp2_with fail
  go_ret
  exact ⟨rfl, rfl⟩
theorem s_get_nil (c : Int) (w : World) : Calls Tryd.prog 34 #[.pointer none, .int .u64 c] w fun e w' => e = .returned (.tuple #[.int .u64 0, .bool false]) ∧ Upd [] w w' := by
  go_enter Tryd.func34, Tryd.ntmps34
  go_wp2_with fail
  refine (s_made_nil w).mono ?_; rintro e w1 ⟨rfl, rfl⟩
  go_wp2_with fail
  go_ret2
  exact ⟨rfl, .refl _ _⟩
theorem s_version_nil (c : Int) (w : World) : Calls Tryd.prog 36 #[.pointer none, .int .u64 c] w fun e w' => e = .returned (.tuple #[.int .i64 0, .bool false]) ∧ Upd [] w w' := by
  go_enter Tryd.func36, Tryd.ntmps36
  go_wp2_with fail
  refine (s_made_nil w).mono ?_; rintro e w1 ⟨rfl, rfl⟩
  go_wp2_with fail
  go_ret2
  exact ⟨rfl, .refl _ _⟩
theorem s_mark_nil  (w : World) : Calls Tryd.prog 9 #[.pointer none] w fun e w' => e = .returned (.tuple #[.int .i64 0, .iface 66 (.int .i64 1)]) ∧ Upd [] w w' := by
  go_enter Tryd.func9, Tryd.ntmps9
  go_wp2_with fail
  refine (s_made_nil w).mono ?_; rintro e w1 ⟨rfl, rfl⟩
  go_wp2_with fail
  go_ret2
  exact ⟨rfl, .refl _ _⟩
theorem s_find_nil (m : Int) (w : World) : Calls Tryd.prog 33 #[.pointer none, .int .i64 m] w fun e w' => e = .returned (.tuple #[.int .i64 0, .iface 66 (.int .i64 1)]) ∧ Upd [] w w' := by
  go_enter Tryd.func33, Tryd.ntmps33
  go_wp2_with fail
  refine (s_made_nil w).mono ?_; rintro e w1 ⟨rfl, rfl⟩
  go_wp2_with fail
  go_ret2
  exact ⟨rfl, .refl _ _⟩
theorem s_read_nil (c n : Int) (w : World) : Calls Tryd.prog 20 #[.pointer none, .int .u64 c, .int .i64 n] w fun e w' => e = .returned (.iface 66 (.int .i64 1)) ∧ Upd [] w w' := by
  go_enter Tryd.func20, Tryd.ntmps20
  go_wp2_with fail
  refine (s_made_nil w).mono ?_; rintro e w1 ⟨rfl, rfl⟩
  go_wp2_with fail
  go_ret
  exact ⟨rfl, .refl _ _⟩
theorem s_write_nil (c x : Int) (w : World) : Calls Tryd.prog 16 #[.pointer none, .int .u64 c, .int .u64 x] w fun e w' => e = .returned (.iface 66 (.int .i64 1)) ∧ Upd [] w w' := by
  go_enter Tryd.func16, Tryd.ntmps16
  go_wp2_with fail
  refine (s_made_nil w).mono ?_; rintro e w1 ⟨rfl, rfl⟩
  go_wp2_with fail
  go_ret
  exact ⟨rfl, .refl _ _⟩
theorem s_reads_nil  (w : World) : Calls Tryd.prog 12 #[.pointer none] w fun e w' => e = .returned (.slice none 0 0) ∧ Upd [] w w' := by
  go_enter Tryd.func12, Tryd.ntmps12
  go_wp2_with fail
  refine (s_made_nil w).mono ?_; rintro e w1 ⟨rfl, rfl⟩
  go_wp2_with fail
  go_ret
  exact ⟨rfl, .refl _ _⟩
theorem s_writes_nil  (w : World) : Calls Tryd.prog 8 #[.pointer none] w fun e w' => e = .returned (.slice none 0 0) ∧ Upd [] w w' := by
  go_enter Tryd.func8, Tryd.ntmps8
  go_wp2_with fail
  refine (s_made_nil w).mono ?_; rintro e w1 ⟨rfl, rfl⟩
  go_wp2_with fail
  go_ret
  exact ⟨rfl, .refl _ _⟩
set_option maxRecDepth 100000 in
theorem s_keep_nil (m : Int) (w : World) : Calls Tryd.prog 17 #[.pointer none, .int .i64 m] w fun e w' => e = .returned (.iface 66 (.int .i64 1)) ∧ Upd [] w w' := by
  go_enter Tryd.func17, Tryd.ntmps17
  go_wp2_with fail
  refine (s_find_nil m w).mono ?_; rintro e w1 ⟨rfl, u1⟩
  have U1 := Lib.hid u1
  clear u1
  go_wp2_with fail
  go_ret
  exact ⟨rfl, U1.out⟩
set_option maxRecDepth 100000 in
theorem s_back_nil (m : Int) (w : World) : Calls Tryd.prog 13 #[.pointer none, .int .i64 m] w fun e w' => e = .returned (.iface 66 (.int .i64 1)) ∧ Upd [] w w' := by
  go_enter Tryd.func13, Tryd.ntmps13
  go_wp2_with fail
  refine (s_find_nil m w).mono ?_; rintro e w1 ⟨rfl, u1⟩
  have U1 := Lib.hid u1
  clear u1
  go_wp2_with fail
  go_ret
  exact ⟨rfl, U1.out⟩
/-- New ones. -/
def NewPost (w : World) (e : Ending) (w' : World) : Prop := ∃ sb am wm F, e = .returned (.pointer (some ⟨sb, 0, none⟩)) ∧ Sets w.heap.size sb am wm F w' ⟨[], [], [], []⟩ ∧ Upd [] w w'
set_option maxRecDepth 100000 in
theorem s_new (w : World) : Calls Tryd.prog 18 #[] w fun e w' => NewPost w e w' := by
  have hm1 : ∀ w, (Instr.makeMap 57 none).run Tryd.prog w = .ok (.map (some w.heap.size)) (w.alloc (.map #[] 0)) := fun _ => by kernel_rfl
  have hm2 : ∀ w, (Instr.makeMap 58 none).run Tryd.prog w = .ok (.map (some w.heap.size)) (w.alloc (.map #[] 0)) := fun _ => by kernel_rfl
  go_enter Tryd.func18, Tryd.ntmps18
  go_wp2_with fail
  go_ret
  unfold NewPost
  have U1 : Upd [] w (w.alloc (.map #[] 0)) := (Upd.refl [] w).alloc _
  have U2 : Upd [] w ((w.alloc (.map #[] 0)).alloc (.map #[] 0)) := U1.alloc _
  have U3 := U2.alloc (.cells #[.slice none 0 0, .map (some w.heap.size), .map (some (w.heap.size + 1)), .slice none 0 0, .slice none 0 0] 62)
  have h2 : ((w.alloc (.map #[] 0)).alloc (.map #[] 0)).heap.size = w.heap.size + 2 := by simp
  have M1 : IMap (w.alloc (.map #[] 0)) .u64 w.heap.size (fun _ => none) 0 := IMap.new w _
  have M2 : IMap ((w.alloc (.map #[] 0)).alloc (.map #[] 0)) .u64 (w.heap.size + 1) (fun _ => none) 0 := by have := IMap.new (w.alloc (.map #[] 0)) .u64; rwa [show (w.alloc (.map #[] 0)).heap.size = w.heap.size + 1 by simp] at this
  refine ⟨w.heap.size + 2, w.heap.size, w.heap.size + 1, _, by simp, ⟨good_new, _, _, _, rfl, ⟨Blk.newAt 62 _ h2, Ow.nil _ _ _ _, Ow.nil _ _ _ _, Ow.nil _ _ _ _, ?_, ?_, by omega, by omega, by omega, by omega⟩⟩, U3⟩
  · exact (M1.upd ((Upd.refl [] _).alloc _) (by simp)).upd ((Upd.refl [] _).alloc _) (by simp)
  · exact M2.upd ((Upd.refl [] _).alloc _) (by simp)
end Go.Proofs.YtbpmkbcpnnpdjaaDoor

/-
  concordlaw08.alive.
-/
import Derived.Test.YtjlpogmoebmkdaaDoorMdl4
import Derived.Test.YtjlpogmoebmkdaaDoorMNew
set_option linter.unusedVariables false
namespace Go.Proofs.YtjlpogmoebmkdaaDoor
open Go.RowKit Assoc MP
attribute [local go_sem] litStep_value

theorem ErrV.nils {w : World} {v : Value} {a : Int} (h : ErrV w v 0 a) : v = .nilIface := by
  rcases h with h | h | ⟨g, _, _, h, _⟩
  · exact h.1
  · obtain ⟨_, ⟨h, _⟩, _⟩ := h; omega
  · omega
theorem Mdl.rest {w0 w w' : World} {sb : Nat} {F : List Nat} {s : MS} (h : Mdl w0.heap.size sb F w s) (hu : Upd [] w0 w) (f : Upd F w w') : Upd [] w0 w' := f.rest hu (fun k hk => (h.lt k hk).1)
set_option maxRecDepth 100000 in
set_option maxHeartbeats 4000000 in
theorem m_alive (w : World) : Calls Tryd.prog 8 #[] w fun e w' => e = .returned (.bool true) ∧ Upd [] w w' := by
  have UA : Hid (Upd [] w (w.alloc (.cells #[.int .i64 1, .int .i64 3] 3))) := Lib.hid ((Upd.refl [] w).alloc _)
  have YA : Hid (Rd encK (w.alloc (.cells #[.int .i64 1, .int .i64 3] 3)) (.slice (some ⟨w.heap.size, 0, none⟩) 2 2) [1, 3]) := Lib.hid (Src.of_blk (s := 1) (m := 2) (Blk.new w 3 #[.int .i64 1, .int .i64 3]) 2 rfl)
  go_enter Tryd.func8, Tryd.ntmps8
  go_wp2_with fail
  generalize (w.alloc (.cells #[.int .i64 1, .int .i64 3] 3)) = w1 at *
  refine (m_new _ 2 2 [1, 3] w1 YA.out rfl (by omega)).mono ?_
  rintro e w2 ⟨u2, ⟨i, g, hb, _⟩ | ⟨_, h8, _⟩ | ⟨_, _, sb, F, rfl, h2⟩⟩
  · rw [show badK [1, 3] = none by decide] at hb
    cases hb
  · simp at h8
  have S2 : Hid (Mdl w1.heap.size sb F w2 ⟨[1, 3], [[], []]⟩) := Lib.hid h2
  have U2 := Lib.hid u2
  clear u2 h2
  go_wp2_with fail
  refine (no_nil _).mono ?_; rintro e w' ⟨rfl, rfl⟩
  go_wp2_with fail
  refine (m_put w1.heap.size sb F ⟨[1, 3], [[], []]⟩ 1 5 7 w2 S2.out (by unfold kB; omega)).mono ?_
  rintro e w3 ⟨va, rfl, ea, h3, u3⟩
  rw [show (if isC ⟨[1, 3], [[], []]⟩ 1 = true then putE (coll ⟨[1, 3], [[], []]⟩ (1 : Int).toNat) 5 else 3) = 0 by decide] at ea
  obtain rfl := ea.nils
  have S3 : Hid (Mdl w1.heap.size sb F w3 ⟨[1, 3], [[], [(5, 7)]]⟩) := Lib.hid h3
  have U3 := Lib.hid (S2.out.rest U2.out u3)
  clear ea h3 u3
  go_wp2_with fail
  refine (no_nil _).mono ?_; rintro e w' ⟨rfl, rfl⟩
  go_wp2_with fail
  refine (m_ceil w1.heap.size sb F ⟨[1, 3], [[], [(5, 7)]]⟩ 1 3 w3 S3.out).mono ?_
  rintro e w4 ⟨vb, rfl, eb, u4⟩
  rw [show oErr ⟨[1, 3], [[], [(5, 7)]]⟩ 1 = 0 by decide] at eb
  obtain rfl := eb.nils
  rw [show ceilC ⟨[1, 3], [[], [(5, 7)]]⟩ 1 3 = some 5 by decide]
  have S4 := Lib.hid (S3.out.upd0 u4)
  have U4 := Lib.hid (U3.out.trans u4)
  clear eb u4
  simp only [Option.getD_some, Option.isSome_some]
  go_wp2_with fail
  refine (m_range w1.heap.size sb F ⟨[1, 3], [[], [(5, 7)]]⟩ 1 0 9 w4 S4.out).mono ?_
  rintro e w5 ⟨vc, rfl, ec, u5⟩
  rw [show oErr ⟨[1, 3], [[], [(5, 7)]]⟩ 1 = 0 by decide] at ec
  obtain rfl := ec.nils
  rw [show rangeC ⟨[1, 3], [[], [(5, 7)]]⟩ 1 0 9 = 1 by decide]
  have S5 := Lib.hid (S4.out.upd0 u5)
  have U5 := Lib.hid (U4.out.trans u5)
  clear ec u5
  go_wp2_with fail
  refine (m_ceil w1.heap.size sb F ⟨[1, 3], [[], [(5, 7)]]⟩ 0 3 w5 S5.out).mono ?_
  rintro e w6 ⟨vd, rfl, ed, u6⟩
  rw [show oErr ⟨[1, 3], [[], [(5, 7)]]⟩ 0 = 17 by decide] at ed
  rw [show ceilC ⟨[1, 3], [[], [(5, 7)]]⟩ 0 3 = none by decide]
  have ED := Lib.hid ed
  have U6 := Lib.hid (U5.out.trans u6)
  clear ed u6
  simp only [Option.getD_none, Option.isSome_none]
  go_wp2_with fail
  refine (no_nil _).mono ?_; rintro e w' ⟨rfl, rfl⟩
  go_wp2_with fail
  refine (no_nil _).mono ?_; rintro e w' ⟨rfl, rfl⟩
  go_wp2_with fail
  refine (no_err ED.out).mono ?_; rintro e w' ⟨rfl, rfl⟩
  go_wp2_with fail
  go_ret
  exact ⟨rfl, UA.out.trans U6.out⟩
end Go.Proofs.YtjlpogmoebmkdaaDoor

/-
  concordlaw07.alive.
-/
import Derived.Test.YtbpmkbcpnnpdjaaDoorSets6
import Derived.Test.YtbpmkbcpnnpdjaaDoorSetsN
import Derived.Test.YtbpmkbcpnnpdjaaDoorSameWr
import Derived.Test.YtbpmkbcpnnpdjaaDoorNo
set_option linter.unusedVariables false
namespace Go.Proofs.YtbpmkbcpnnpdjaaDoor
open Go.RowKit Assoc SP
attribute [local go_sem] litStep_value

theorem ErrV.nils {w : World} {v : Value} {a : Int} (h : ErrV w v 0 a) : v = .nilIface := by
  rcases h with h | h | ⟨g, _, _, h, _⟩
  · exact h.1
  · obtain ⟨_, ⟨h, _⟩, _⟩ := h; omega
  · omega
theorem Sets.rest {w0 w w' : World} {sb am wm : Nat} {F F' : List Nat} {s : SS} (h : Sets w0.heap.size sb am wm F w s) (hu : Upd [] w0 w) (f : Frm F F' w w') : Upd [] w0 w' := f.rest hu (fun k hk => (h.lt k hk).1)
theorem own_lit {w : World} {g B n s : Nat} {e : TypeId} {cs : Array Value} {xs : List Value} (h : Blk w g e cs) (hc : cs.toList = xs) (hs : cs.size = n * s) (hn : n ≤ 1000000) (hB : B ≤ g) : w.ownsRow B e s (.slice (some ⟨g, 0, none⟩) n n) n xs := by
  subst hc
  exact ⟨by simpa using hs, .inr ⟨g, n, cs, rfl, hB, h, Nat.le_refl _, by simp only [maxLen]; omega, hs, List.take_of_length_le (by rw [Array.length_toList, hs]; exact Nat.le_refl _)⟩⟩
set_option maxRecDepth 100000 in
set_option maxHeartbeats 4000000 in
theorem s_alive (w : World) : Calls Tryd.prog 7 #[] w fun e w' => e = .returned (.bool true) ∧ Upd [] w w' := by
  go_enter Tryd.func7, Tryd.ntmps7
  go_wp2_with fail
  refine (s_new w).mono ?_; rintro e w1 ⟨sb, am, wm, F1, rfl, h1, u1⟩
  have S1 := Lib.hid h1
  have U1 := Lib.hid u1
  clear h1 u1
  go_wp2_with fail
  refine (s_write w.heap.size sb am wm F1 ⟨[], [], [], []⟩ 8 1 w1 S1.out U1.out.size (by simp)).mono ?_
  rintro e w2 ⟨va, F2, rfl, ea, h2, f2⟩
  rw [show wErr _ _ = 0 by decide] at ea
  obtain rfl := ea.nils
  have S2 : Hid (Sets w.heap.size sb am wm F2 w2 ⟨[], [(8, 1)], [], []⟩) := Lib.hid h2
  have U2 := Lib.hid (S1.out.rest U1.out f2)
  clear ea h2 f2
  go_wp2_with fail
  refine (no_nil _).mono ?_; rintro e w' ⟨rfl, rfl⟩
  go_wp2_with fail
  refine (s_mark w.heap.size sb am wm F2 ⟨[], [(8, 1)], [], []⟩ w2 S2.out U2.out.size).mono ?_
  rintro e w3 ⟨vb, F3, rfl, eb, h3, f3⟩
  rw [if_neg (by simp)] at eb ⊢
  obtain rfl := eb.nils
  have S3 : Hid (Sets w.heap.size sb am wm F3 w3 ⟨[], [(8, 1)], [], [0]⟩) := Lib.hid h3
  have U3 := Lib.hid (S2.out.rest U2.out f3)
  clear eb h3 f3
  simp only [List.length_nil, Nat.zero_add]
  go_wp2_with fail
  refine (s_write w.heap.size sb am wm F3 ⟨[], [(8, 1)], [], [0]⟩ 8 2 w3 S3.out U3.out.size (by simp)).mono ?_
  rintro e w4 ⟨va, F4, rfl, ea, h2, f2⟩
  rw [show wErr _ _ = 0 by decide] at ea
  obtain rfl := ea.nils
  have S4 : Hid (Sets w.heap.size sb am wm F4 w4 ⟨[], [(8, 2)], [⟨8, 1, true⟩], [0]⟩) := Lib.hid h2
  have U4 := Lib.hid (S3.out.rest U3.out f2)
  clear ea h2 f2
  go_wp2_with fail
  refine (s_write w.heap.size sb am wm F4 ⟨[], [(8, 2)], [⟨8, 1, true⟩], [0]⟩ 9 3 w4 S4.out U4.out.size (by simp)).mono ?_
  rintro e w5 ⟨va, F5, rfl, ea, h2, f2⟩
  rw [show wErr _ _ = 0 by decide] at ea
  obtain rfl := ea.nils
  have S5 : Hid (Sets w.heap.size sb am wm F5 w5 ⟨[], [(8, 2), (9, 3)], [⟨8, 1, true⟩, ⟨9, 0, false⟩], [0]⟩) := Lib.hid h2
  have U5 := Lib.hid (S4.out.rest U4.out f2)
  clear ea h2 f2
  go_wp2_with fail
  refine (s_back w.heap.size sb am wm F5 ⟨[], [(8, 2), (9, 3)], [⟨8, 1, true⟩, ⟨9, 0, false⟩], [0]⟩ 1 w5 S5.out (by simp)).mono ?_
  rintro e w6 ⟨vc, F6, rfl, ec, h6, f6⟩
  rw [show isM _ _ = true by decide] at ec h6
  rw [if_pos rfl] at ec h6
  obtain rfl := ec.nils
  have S6 : Hid (Sets w.heap.size sb am wm F6 w6 ⟨[], [(8, 1)], [], []⟩) := Lib.hid h6
  have U6 := Lib.hid (S5.out.rest U5.out f6)
  clear ec h6 f6
  go_wp2_with fail
  go_wp2_with fail
  refine (no_nil _).mono ?_; rintro e w' ⟨rfl, rfl⟩
  go_wp2_with fail
  refine (no_nil _).mono ?_; rintro e w' ⟨rfl, rfl⟩
  go_wp2_with fail
  refine (no_nil _).mono ?_; rintro e w' ⟨rfl, rfl⟩
  go_wp2_with fail
  refine (no_nil _).mono ?_; rintro e w' ⟨rfl, rfl⟩
  go_wp2_with fail
  refine (s_writes w.heap.size sb am wm F6 ⟨[], [(8, 1)], [], []⟩ w6 S6.out).mono ?_
  rintro e w7 ⟨vd, rfl, o7, u7⟩
  have O7 : Hid (Ow encW 55 w7 w6.heap.size vd [(8, 1)]) := Lib.hid o7
  have S7 := Lib.hid (S6.out.upd0 u7)
  have U7 := Lib.hid (U6.out.trans u7)
  clear o7 u7
  go_wp2_with fail
  have UA : Hid (Upd [] w7 (w7.alloc (.cells #[.int .u64 8, .int .u64 1] 55))) := Lib.hid ((Upd.refl [] w7).alloc _)
  have YA : Hid (Blk (w7.alloc (.cells #[.int .u64 8, .int .u64 1] 55)) w7.heap.size 55 #[.int .u64 8, .int .u64 1]) := Lib.hid (Blk.new w7 _ _)
  generalize (w7.alloc (.cells #[.int .u64 8, .int .u64 1] 55)) = w8 at *
  refine (sameW_ok w6.heap.size 0 [(8, 1)] [(8, 1)] vd (.slice (some ⟨w7.heap.size, 0, none⟩) 1 1) w8 (O7.out.upd0 UA.out) (own_lit YA.out rfl rfl (by simp) (Nat.zero_le _)) (by simp) (by simp)).mono ?_
  rintro e w9 ⟨rfl, u9⟩
  rw [decide_eq_true rfl]
  have S9 := Lib.hid (S7.out.upd0 (UA.out.trans u9))
  have U9 := Lib.hid (U7.out.trans (UA.out.trans u9))
  clear u9
  go_wp2_with fail
  refine (s_read w.heap.size sb am wm F6 ⟨[], [(8, 1)], [], []⟩ 8 1 w9 S9.out U9.out.size).mono ?_
  rintro e wa ⟨ve, Fa, rfl, ee, ha, fa⟩
  rw [show rRead [] 8 1 = (0, 0, [(8, 1)]) by decide] at ee ha
  obtain rfl := ee.nils
  have SA : Hid (Sets w.heap.size sb am wm Fa wa ⟨[(8, 1)], [(8, 1)], [], []⟩) := Lib.hid ha
  have UB := Lib.hid (S9.out.rest U9.out fa)
  clear ee ha fa
  go_wp2_with fail
  refine (no_nil _).mono ?_; rintro e w' ⟨rfl, rfl⟩
  go_wp2_with fail
  refine (s_read w.heap.size sb am wm Fa ⟨[(8, 1)], [(8, 1)], [], []⟩ 8 2 wa SA.out UB.out.size).mono ?_
  rintro e wb ⟨vf, Fb, rfl, ef, hb, fb⟩
  rw [show rRead [(8, 1)] 8 2 = (12, 1, [(8, 1)]) by decide] at ef hb
  have EF : Hid (ErrV wb vf 12 1) := Lib.hid ef
  have UC := Lib.hid (SA.out.rest UB.out fb)
  clear ef hb fb
  go_wp2_with fail
  refine (no_err EF.out).mono ?_; rintro e w' ⟨rfl, rfl⟩
  go_wp2_with fail
  go_ret
  exact ⟨rfl, UC.out⟩
end Go.Proofs.YtbpmkbcpnnpdjaaDoor

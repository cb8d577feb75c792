/-
  SetsPlay, the walk.
-/
import Derived.Test.YtbpmkbcpnnpdjaaDoorPlayS
import Derived.Test.YtbpmkbcpnnpdjaaDoorSSame
import Derived.Test.YtbpmkbcpnnpdjaaDoorSAlive
set_option linter.unusedVariables false
namespace Go.Proofs.YtbpmkbcpnnpdjaaDoor
open Go.RowKit Assoc SP
attribute [local go_sem] litStep_value

set_option maxRecDepth 100000 in
set_option maxHeartbeats 8000000 in
theorem law_splay (A : Option Addr) (n c : Nat) (L : List SAct) (cell : Int) (w : World) (hA : Rd encA w (.slice A n c) L) (hn : L.length = n) (hg : Typed w) :
    Calls Tryd.prog 5 #[.slice A n c, .int .u64 cell] w fun e w' => e = .returned (.bool true) ∧ Upd [] w w' := by
  have HG := Lib.hid hg
  have HA := Lib.hid hA
  have HN := Lib.hid hn
  clear hg hA hn
  go_enter Tryd.func5, Tryd.ntmps5
  go_wp2_with fail
  refine (s_new w).mono ?_; rintro e w1 ⟨sb, am, wm, F, rfl, s1, u1⟩
  have S0 := Lib.hid s1
  have U0 := Lib.hid u1
  clear s1 u1
  go_wp2_with fail
  refine (s_alive w1).mono ?_; rintro e w2 ⟨rfl, u2⟩
  have S1 := Lib.hid (S0.out.upd0 u2)
  have U1 := Lib.hid (U0.out.trans u2)
  clear u2 S0 U0
  by_cases h8 : 80 < n
  · have d : decide ((80 : Int) < (n : Int)) = true := by simp; omega
    go_wp2_with fail
    go_ret
    exact ⟨rfl, U1.out⟩
  · have d : decide ((80 : Int) < (n : Int)) = false := by simp; omega
    go_wp2_with fail
    have U2 : Hid (Upd [] w2 (w2.alloc (.cells #[.slice none 0 0, .slice none 0 0, .slice none 0 0] 37))) := Lib.hid ((Upd.refl [] w2).alloc _)
    have R2 := Lib.hid (refS_new w2 w.heap.size U1.out.size)
    have LT := Lib.hid S1.out.lt
    obtain ⟨rb, hrb⟩ : ∃ rb, w2.heap.size = rb := ⟨_, rfl⟩
    rw [hrb] at R2 LT ⊢
    clear hrb
    generalize (w2.alloc (.cells #[.slice none 0 0, .slice none 0 0, .slice none 0 0] 37)) = w3 at *
    have B2 : Hid (Both w.heap.size sb am wm rb w3 (runS (L.take 0)) (runD (L.take 0))) := Lib.hid ⟨F, [rb], S1.out.upd0 U2.out, R2.out, fun k hk => by have := (LT.out k hk).2; simp; omega⟩
    have U3 := Lib.hid (U1.out.trans U2.out)
    clear S1 U1 U2 R2 LT
    go_loopw [23] (fun v wr => ∃ k : Nat, v = .int .i64 k ∧ k ≤ n ∧ Hid (Both w.heap.size sb am wm rb wr (runS (L.take k)) (runD (L.take k))) ∧ Hid (Upd [] w wr)) (fun v _ => n - (intOf v).toNat)
    case atStart => exact ⟨0, rfl, by omega, B2, U3⟩
    case round =>
      obtain ⟨k, rfl, hk, BK, UK⟩ := hrel
      by_cases hkn : k < n
      · obtain ⟨⟨ak, ac, ax, an⟩, hx⟩ : ∃ x, L[k]? = some x := ⟨_, List.getElem?_eq_getElem (by rw [HN.out]; exact hkn)⟩
        obtain ⟨ad, rfl, hlt, e0, e1, e2, e3⟩ := act_cells (HA.out.upd0 UK.out) hx
        have TK := Lib.hid (take_snoc hx)
        have q1 : (0 : Int) ≤ (k : Int) := by omega
        have q2 : (k : Int) < (n : Int) := by omega
        clear hx
        go_wp2_with fail
        have UA : Hid (Upd [] wr (wr.alloc (.cells #[.int .i64 ak, .int .u64 ac, .int .u64 ax, .int .i64 an] 40))) := Lib.hid ((Upd.refl [] wr).alloc _)
        have YA : Hid (Blk (wr.alloc (.cells #[.int .i64 ak, .int .u64 ac, .int .u64 ax, .int .i64 an] 40)) wr.heap.size 40 #[.int .i64 ak, .int .u64 ac, .int .u64 ax, .int .i64 an]) := Lib.hid (Blk.new wr _ _)
        generalize (wr.alloc (.cells #[.int .i64 ak, .int .u64 ac, .int .u64 ax, .int .i64 an] 40)) = w5 at *
        refine (do_ok w.heap.size sb am wm rb (runS (L.take k)) (runD (L.take k)) ak ac ax an w w5 (BK.out.upd0 UA.out) ?_ HG.out (Nat.le_refl _) (UK.out.trans UA.out) (UK.out.trans UA.out).size).mono ?_
        · have := log_run (L.take k); rw [List.length_take] at this; omega
        rintro e w6 ⟨b, rfl, hb, b6, u6, ka6⟩
        obtain rfl : b = true := hb (of_run _)
        have B6 : Hid (Both w.heap.size sb am wm rb w6 (runS (L.take (k + 1))) (ofSS (runS (L.take (k + 1))))) := Lib.hid (by rw [of_run, TK.out, runS_snoc, runD_snoc]; exact b6)
        have U6 := Lib.hid u6
        have y1 : w6.cell? ⟨wr.heap.size, 1, none⟩ = some (.int .u64 ac) := (ka6 _ _ YA.out).cell 1
        clear b6 u6 ka6 hb e0 e1 e2 e3
        go_wp2_with fail
        refine (lsame_ok w.heap.size sb am wm rb (runS (L.take (k + 1))) ac w6 B6.out).mono ?_
        rintro e w7 ⟨rfl, u7⟩
        have B7 := Lib.hid (B6.out.upd0 u7)
        have U7 := Lib.hid (U6.out.trans u7)
        clear u7 y1
        go_wp2_with fail
        refine (lsame_ok w.heap.size sb am wm rb (runS (L.take (k + 1))) cell w7 B7.out).mono ?_
        rintro e w8 ⟨rfl, u8⟩
        have B8 : Hid (Both w.heap.size sb am wm rb w8 (runS (L.take (k + 1))) (runD (L.take (k + 1)))) := Lib.hid (by rw [← of_run]; exact B7.out.upd0 u8)
        have U8 := Lib.hid (U7.out.trans u8)
        clear u8
        go_wp2_with fail
        go_roundw
        case rel => exact ⟨k + 1, by go_num, by omega, B8, U8⟩
        case measure => simp [intOf]; omega
      · go_wp2_with fail
        go_ret
        exact ⟨rfl, UK.out⟩
end Go.Proofs.YtbpmkbcpnnpdjaaDoor

/-
  order.pile: its methods by contracts.
-/
import Derived.Test.YtegpfhldbdegbaaDoorAtts
import Derived.Test.YtegpfhldbdegbaaDoorHeapBPile
import Derived.Deep.AppendLies
import Derived.BigRegion
import Derived.Deep.RegionHeld3
import Derived.StillTailTactics
set_option linter.unusedVariables false
namespace Go.Proofs.YtegpfhldbdegbaaDoor
open Go.RowKit HeapPlain

/-- The value of the pile's closure. -/
def lessF (g : Nat) : Value := .func (.func 19) #[] #[.pointer (some ⟨g, 0, none⟩)]
/-- Places as Go's ints. -/
def ints (xs : List Nat) : List Value := xs.map fun (x : Nat) => Value.int .i64 x

theorem less_clo (A : Option Addr) (n c : Nat) (L : List Att) (w : World) (g : Nat) (hg : w.cell? ⟨g, 0, none⟩ = some (.slice A n c)) (h : Atts w A L) (hn : L.length = n) (i j : Nat) (hi : i < n) (hj : j < n) :
    Calls Tryd.prog 19 #[.int .i64 i, .int .i64 j, .pointer (some ⟨g, 0, none⟩)] w fun e w' => e = .returned (.bool (ahd L i j)) ∧ Upd [] w w' := by
  have HA := Lib.hid h
  have HN := Lib.hid hn
  have HI := Lib.hid hi
  have HJ := Lib.hid hj
  clear h hn hi hj
  go_enter Tryd.func19, Tryd.ntmps19
  go_wp2_with fail
  refine (ahead_at A n c L _ HA.out HN.out i j HI.out HJ.out).mono ?_; rintro e w1 ⟨rfl, u1⟩
  have U1 := Lib.hid u1
  clear u1
  go_wp2_with fail
  go_ret
  exact ⟨rfl, U1.out⟩

theorem pile_less (p g : Nat) (a : Nat) (c n nn cc : Nat) (A : Option Addr) (L : List Att) (w : World) (i j x y : Nat) (hi : (i : Int) < n) (hj : (j : Int) < n) (h : Blk w p 42 #[.slice (some ⟨a, 0, none⟩) n c, lessF g]) (hx : w.cell? ⟨a, i, none⟩ = some (.int .i64 x)) (hy : w.cell? ⟨a, j, none⟩ = some (.int .i64 y))
    (hg : w.cell? ⟨g, 0, none⟩ = some (.slice A nn cc)) (hgl : g < w.heap.size) (hal : a < w.heap.size) (hA : Atts w A L) (hn : L.length = nn) (hxn : x < nn) (hyn : y < nn) :
    Calls Tryd.prog 59 #[.pointer (some ⟨p, 0, none⟩), .int .i64 i, .int .i64 j] w fun e w' => e = .returned (.bool (ahd L x y)) ∧ Upd [] w w' := by
  have f0 : w.cell? ⟨p, 0, none⟩ = some (.slice (some ⟨a, 0, none⟩) n c) := by rw [h.cell]; rfl
  have f1 : w.cell? ⟨p, 1, none⟩ = some (.func (.func 19) #[] #[.pointer (some ⟨g, 0, none⟩)]) := by rw [h.cell]; rfl
  have HW := Lib.hid (show ∀ W, Upd [] w W → W.cell? ⟨g, 0, none⟩ = some (.slice A nn cc) ∧ Atts W A L from fun W hu => ⟨(upd_cell hu (p := ⟨g, 0, none⟩) hgl).trans hg, hA.upd hu⟩)
  have HN := Lib.hid hn
  have HX := Lib.hid hxn
  have HY := Lib.hid hyn
  have V0 := Lib.hid ((Upd.refl [] w).drew)
  have KP := Lib.hid (show ∀ W, Upd [] w W → W.cell? ⟨p, 0, none⟩ = some (.slice (some ⟨a, 0, none⟩) n c) ∧ W.cell? ⟨p, 1, none⟩ = some (.func (.func 19) #[] #[.pointer (some ⟨g, 0, none⟩)]) ∧ W.cell? ⟨a, i, none⟩ = some (.int .i64 x) ∧ W.cell? ⟨a, j, none⟩ = some (.int .i64 y) from fun W hu =>
    ⟨(upd_cell hu (p := ⟨p, 0, none⟩) h.lt).trans f0, (upd_cell hu (p := ⟨p, 1, none⟩) h.lt).trans f1, (upd_cell hu (p := ⟨a, i, none⟩) hal).trans hx, (upd_cell hu (p := ⟨a, j, none⟩) hal).trans hy⟩)
  have hi0 : (0 : Int) ≤ i := by omega
  have hj0 : (0 : Int) ≤ j := by omega
  clear h hA hn hg hxn hyn hgl hal
  go_enter Tryd.func59, Tryd.ntmps59
  go_wp2_with fail
  go_region_held3 (fun W => W.cell? ⟨p, 0, none⟩ = some (.slice (some ⟨a, 0, none⟩) n c) ∧ W.cell? ⟨p, 1, none⟩ = some (.func (.func 19) #[] #[.pointer (some ⟨g, 0, none⟩)]) ∧ W.cell? ⟨a, i, none⟩ = some (.int .i64 x) ∧ W.cell? ⟨a, j, none⟩ = some (.int .i64 y)) (first | exact KP.out _ (V0.out.trans u1) | go_keep) (first | (go_at_call 19; refine (less_clo A nn cc L _ g (HW.out _ V0.out).1 (HW.out _ V0.out).2 HN.out x y HX.out HY.out).mono ?_; rintro e w1 ⟨rfl, u1⟩))
  go_wp2_with fail
  go_ret
  exact ⟨rfl, V0.out.trans u1⟩

set_option maxHeartbeats 2000000 in
theorem pile_swap (p g : Nat) (a : Nat) (c n : Nat) (w : World) (i j : Nat) (x y : Int) (hi : (i : Int) < n) (hj : (j : Int) < n) (hap : a ≠ p) (h : Blk w p 42 #[.slice (some ⟨a, 0, none⟩) n c, lessF g]) (hx : w.cell? ⟨a, i, none⟩ = some (.int .i64 x)) (hy : w.cell? ⟨a, j, none⟩ = some (.int .i64 y)) (hfi : w.frozen? ⟨a, i, none⟩ = false) (hfj : w.frozen? ⟨a, j, none⟩ = false) :
    Calls Tryd.prog 62 #[.pointer (some ⟨p, 0, none⟩), .int .i64 i, .int .i64 j] w fun e w' => e = .returned (.tuple #[]) ∧ ∃ W, w' = W.drew ∧ W = (w.setCell ⟨a, i, none⟩ (.int .i64 y)).setCell ⟨a, j, none⟩ (.int .i64 x) := by
  have f1 : w.cell? ⟨p, 0, none⟩ = some (.slice (some ⟨a, 0, none⟩) n c) := by rw [h.cell]; rfl
  clear h
  have hy2 : (w.setCell ⟨a, i, none⟩ (.int .i64 y)).cell? ⟨a, j, none⟩ = some (.int .i64 y) := by
    by_cases e : i = j
    · subst e; exact World.cell?_setCell_same' _ _ _ (by rw [hx]; rfl)
    · exact (World.cell?_setCell_other _ _ _ _ (by simp)).trans hy
  go_enter Tryd.func62, Tryd.ntmps62
  go_wp2_with fail
  go_region
  all_goals go_wp2_with fail
  all_goals (go_end0; exact ⟨rfl, _, rfl, rfl⟩)
end Go.Proofs.YtegpfhldbdegbaaDoor

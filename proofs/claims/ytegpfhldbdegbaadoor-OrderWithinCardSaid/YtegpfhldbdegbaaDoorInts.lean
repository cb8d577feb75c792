/-
  concordref08.Ints: two lists of the same numbers are the same.
-/
import Derived.Test.YtegpfhldbdegbaaDoorApp
import Derived.Test.YtegpfhldbdegbaaDoorProg
import Derived.Deep.QuietTactic
import Derived.BigQuiet
set_option linter.unusedVariables false
namespace Go.Proofs.YtegpfhldbdegbaaDoor
open Go.RowKit

theorem ints_ok (a b : Value) (n : Nat) (xs : List Int) (w : World) (ha : Src w 1 a n (xs.map (Value.int .i64))) (hb : Src w 1 b n (xs.map (Value.int .i64))) (hn : n ≤ 1000000) :
    Calls Tryd.prog 11 #[a, b] w fun e w' => e = .returned (.bool true) ∧ Upd [] w w' := by
  have hl : xs.length = n := by simpa using ha.1
  obtain ⟨_, A, ca, rfl, h1⟩ := ha
  obtain ⟨_, B, cb, rfl, h2⟩ := hb
  have H1 := Lib.hid h1
  have H2 := Lib.hid h2
  have HL := Lib.hid hl
  clear h1 h2 hl
  go_enter Tryd.func11, Tryd.ntmps11
  go_wp2_with fail
  go_loopw [5] (fun i wr => ∃ k : Nat, i = .int .i64 k ∧ k ≤ n ∧ Hid (Upd [] w wr)) (fun i _ => n - (intOf i).toNat)
  case atStart => exact ⟨0, rfl, by omega, Lib.hid (.refl _ _)⟩
  case round =>
    obtain ⟨k, rfl, hk, HU⟩ := hrel
    by_cases hlt : k < n
    · obtain ⟨x, hx⟩ : ∃ x, xs[k]? = some x := ⟨_, List.getElem?_eq_getElem (by rw [HL.out]; exact hlt)⟩
      obtain ⟨ad, rfl, l1, c1⟩ := H1.out k (.int .i64 x) (by simp [hx])
      obtain ⟨bd, rfl, l2, c2⟩ := H2.out k (.int .i64 x) (by simp [hx])
      have f1 : wr.cell? (ad.add k) = some (.int .i64 x) := ((HU.out.below (Nat.le_refl _) (by simp)).cell (by rw [block_add]; exact l1)).trans c1
      have f2 : wr.cell? (bd.add k) = some (.int .i64 x) := ((HU.out.below (Nat.le_refl _) (by simp)).cell (by rw [block_add]; exact l2)).trans c2
      have g1 : (0 : Int) ≤ k := by omega
      have g2 : (k : Int) < n := by omega
      clear hx c1 c2 l1 l2 H1 H2
      go_wp2_with fail
      go_quiet (fail)
      go_wp2_with fail
      go_roundw
      case rel => exact ⟨k + 1, by go_num, by omega, Lib.hid (HU.out.drewN _)⟩
      case measure => simp [intOf]; omega
    · go_wp2_with fail
      go_ret
      exact ⟨rfl, HU.out⟩
end Go.Proofs.YtegpfhldbdegbaaDoor

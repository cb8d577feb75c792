/-
  What Of tells, in two cases.
-/
import Derived.Test.YthdjbflbhgbckaaDoorSnap
set_option linter.unusedVariables false
namespace Go.Proofs.YthdjbflbhgbckaaDoor
open Go.RowKit Stab Snap
/-- What Of tells of a list that is good, or not. -/
theorem of_cases {l r : PL} {f a : Int} {w w' : World} {e : Ending} (h : OfPost l w e w') : Upd [] w w' ∧ ((∃ g k, e = .returned (.tuple #[.pointer none, .iface 58 (.pointer (some ⟨g, 0, none⟩))]) ∧ ErrV w' (.iface 58 (.pointer (some ⟨g, 0, none⟩))) 7 k ∧ OfR l [] 7 k) ∨
   (∃ sb r, e = .returned (.tuple #[.pointer (some ⟨sb, 0, none⟩), .nilIface]) ∧ SnapIs w.heap.size sb w' r ∧ OfR l r 0 0)) := by
  obtain ⟨hu, ⟨g, k, h1, h2, h3⟩ | h⟩ := h
  · exact ⟨hu, .inl ⟨g, k, h1, .fault h2 (by omega) (by omega), h3⟩⟩
  · exact ⟨hu, .inr h⟩
end Go.Proofs.YthdjbflbhgbckaaDoor

/-
  A law's argument: transactions that ended.
-/
import Derived.Test.YtiahnlaplkeiaaaDoorEnds
set_option linter.unusedVariables false
namespace Go.Proofs.YtiahnlaplkeiaaaDoor
open Go.RowKit Go.WideShapes Go.ChangeShapes St

section
variable {H : Type} {enc : TypeId × Value → H} {W : World} {base b0 : Nat} {spare : Nat → Bool} {held : Bool} {v : Value} {d : DataW H} {ps : List MemPlace} {r : Reach}
set_option maxRecDepth 100000 in
theorem ends_of (hok : Value.okWide Tryd.prog W r b0 22 v) (h : DataW.Trod enc Tryd.prog W base spare held 22 v d ps) :
    ∃ (L : List En) (A : Option Addr) (c : Nat), v = .slice A L.length c ∧ L.length ≤ c ∧ c ≤ 9223372036854775807 ∧ Rd encE W v L ∧ (∀ x ∈ L, inK .i64 x.th) := by
  obtain ⟨L, A, c, h1, h2, h3, h4, h5⟩ := rd_arg Tryd.underlying22 reads_en hok h
  exact ⟨L, A, c, h1, h2, by simpa [maxLen] using h3, h4, h5⟩
end
end Go.Proofs.YtiahnlaplkeiaaaDoor

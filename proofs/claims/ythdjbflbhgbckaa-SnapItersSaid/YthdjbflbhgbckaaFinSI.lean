/-
  SnapIters holds: whatever is called of an iterator: it answers, and stands, as the document says. No condition.
-/
import Derived.Test.YthdjbflbhgbckaaRows
import Derived.Test.YthdjbflbhgbckaaLawSI
import Derived.Test.YthdjbflbhgbckaaActs27b
import Derived.Test.YthdjbflbhgbckaaPost
namespace Go.Proofs.Ythdjbflbhgbckaa.lawSI
open Go.ChangeShapes Go.WideShapes Go.ChangeAt Go.RowKit

theorem own : ownKnob Try.prog.godebug = none := by kernel_rfl
theorem laidOut : laidOutB Try.prog = true := by kernel_rfl

set_option maxRecDepth 100000 in
theorem lifted (os : Os) (started : os.Started) (H : Type) (enc : TypeId × Value → H) :
    ReturnsInHanded {} Try.checked os 5 .any (Rows.snapItersSpec.pre6 enc Try.prog Try.f5 Rows.snapItersRow.domain false) (Rows.snapItersSpec.post enc Try.prog Try.f5 false true false false) := by
  refine returnsInHanded_of_change (C := Try.checked) own started (by kernel_rfl) Try.func5
    (ChangeSpec.witness6 (enc := enc) (C := Try.checked) false ⟨#[], #[.slice none 0 0, .slice none 0 0], []⟩ 8 (by kernel_rfl) (by kernel_rfl) (by kernel_rfl) (by kernel_rfl)) ?_
  intro W base args ds gs before hval0 hW _ _
  have hval : ∀ (j : Nat) t v, Try.f5.params[j]? = some t → args[j]? = some v → Value.okWide Try.prog W .any base t v := hval0
  have hW' := hW
  obtain ⟨p, q, hA0, hV, rfl, hfz, hnd⟩ := hW
  have hA : DataW.TrodAll enc Try.prog W 0 (fun _ => true) true Try.f5.params.toList args.toList ds p := hA0
  rw [Try.params5] at hA hval
  obtain ⟨v0, vs0, d0, ds0, p0, q0, hargs, rfl, rfl, h0, r0⟩ := trodAll_cons hA
  obtain ⟨v1, vs1, d1, ds1, p1, q1, rfl, rfl, rfl, h1, r1⟩ := trodAll_cons r0
  obtain ⟨rfl, rfl, rfl⟩ := trodAll_nil r1
  obtain rfl : args = #[v0, v1] := by cases args; simp_all
  obtain ⟨L0, A0, k0, rfl, ha0⟩ := prs27_of (hval 0 25 v0 rfl rfl) h0
  obtain ⟨L1, A1, k1, rfl, ha1⟩ := acts27_of (hval 1 46 v1 rfl rfl) h1
  refine (law_siters A0 L0.length k0 L0 A1 L1.length k1 L1 W ha0 rfl ha1 rfl).mono fun e W' ⟨he, hu⟩ => ?_
  subst he
  exact ⟨_, rfl, law_post laidOut (by kernel_rfl) rfl rfl Try.underlying4 rfl hW' (hu.below (Nat.le_refl _) (by simp))⟩

theorem over : Rows.snapItersRow.holds Try.pinned (OpenSpec.ofChange Rows.snapItersSpec) :=
  OpenClaim.holds_of_wide 5 Try.f5 rfl rfl rfl rfl rfl rfl rfl ⟨rfl, rfl, rfl, rfl, rfl⟩ rfl rfl rfl rfl rfl (by kernel_rfl) Try.func5 (by kernel_rfl)
    (of_decide_eq_true (by kernel_rfl)) (by unfold Func.isWrapper; first | (rw [if_pos (by decide +kernel)]; kernel_rfl) | (rw [if_neg (by decide +kernel)]; exact ⟨rfl, rfl⟩))
    (fun os started H enc _ => lifted os started H enc)

theorem proved : Rows.SnapItersSaid :=
  over
end Go.Proofs.Ythdjbflbhgbckaa.lawSI

/-
  WordsOnce holds: for any accesses of 8 words, any word and any three numbers, of two CAS that expect the same behind one another the second one is done just if the first one was not, or stored the same. No condition.
-/
import Derived.Test.YtopgaemibfigbaaRows
import Derived.Test.YtopgaemibfigbaaLawOnce
namespace Go.Proofs.Ytopgaemibfigbaa.lawOnce
open Go.ChangeShapes Go.WideShapes Go.ChangeAt Go.RowKit

theorem own : ownKnob Try.prog.godebug = none := by kernel_rfl
theorem laidOut : laidOutB Try.prog = true := by kernel_rfl

/-- An argument that is a list of accesses. -/
theorem acts_of {H : Type} {enc : TypeId × Value → H} {W : World} {base b0 : Nat} {spare : Nat → Bool} {held : Bool} {v : Value} {d : DataW H} {ps : List MemPlace} {r : Reach}
    (hok : Value.okWide Try.prog W r b0 22 v) (h : DataW.Trod enc Try.prog W base spare held 22 v d ps) :
    ∃ A n c, v = .slice A n c ∧ n ≤ 9223372036854775807 ∧ Acts W A n := by
  obtain ⟨A, n, c, rfl, h1, h2, h3⟩ := rows_of_slice Try.underlying22 Try.underlying50 (by kernel_rfl) (by kernel_rfl) hok h
  refine ⟨A, n, c, rfl, by simp only [maxLen] at h2; omega, fun i hi => ?_⟩
  obtain ⟨a, rfl, vs, hl, hc, hf⟩ := h3 i hi
  obtain ⟨u0, y0, k0, e0, t0⟩ := hf 0 _ rfl
  obtain ⟨u1, y1, k1, e1, t1⟩ := hf 1 _ rfl
  obtain ⟨u2, y2, k2, e2, t2⟩ := hf 2 _ rfl
  obtain ⟨u3, y3, k3, e3, t3⟩ := hf 3 _ rfl
  obtain ⟨x0, g0, _, _⟩ := DataW.trod_int Try.underlying3 t0
  obtain ⟨x1, g1, _, _⟩ := DataW.trod_int Try.underlying3 t1
  obtain ⟨x2, g2, _, _⟩ := DataW.trod_int Try.underlying23 t2
  obtain ⟨x3, g3, _, _⟩ := DataW.trod_int Try.underlying23 t3
  simp only [List.cons.injEq, and_true] at g0 g1 g2 g3
  subst g0 g1 g2 g3
  have c0 := hc 0 _ e0
  have c1 := hc 1 _ e1
  have c2 := hc 2 _ e2
  have c3 := hc 3 _ e3
  simp only [List.size_toArray, List.length_cons, List.length_nil, Nat.zero_add, Nat.reduceAdd, Nat.add_zero] at c0 c1 c2 c3
  rw [add_more a (i * 4) 0] at c1
  rw [add_more a (i * 4) 1] at c2
  rw [add_more a (i * 4) 2] at c3
  exact ⟨a, x0, x1, x2, x3, rfl, c0, c1, c2, c3, World.block_lt_of_cell? _ _ c0⟩

set_option maxRecDepth 100000 in
theorem lifted (os : Os) (started : os.Started) (H : Type) (enc : TypeId × Value → H) :
    ReturnsInHanded {} Try.checked os 3 .any (Rows.wordsOnceSpec.pre6 enc Try.prog Try.f3 Rows.wordsOnceRow.domain false) (Rows.wordsOnceSpec.post enc Try.prog Try.f3 false true false false) := by
  refine returnsInHanded_of_change (C := Try.checked) own started (by kernel_rfl) Try.func3
    (ChangeSpec.witness6 (enc := enc) (C := Try.checked) false ⟨#[], #[.slice none 0 0, .int .i64 0, .int .u64 0, .int .u64 0, .int .u64 0], []⟩ 8 (by kernel_rfl) (by kernel_rfl) (by kernel_rfl) (by kernel_rfl)) ?_
  intro W base args ds gs before hval0 hW _ _
  have hval : ∀ (j : Nat) t v, Try.f3.params[j]? = some t → args[j]? = some v → Value.okWide Try.prog W .any base t v := hval0
  have hW' := hW
  obtain ⟨p, q, hA0, hV, rfl, hfz, hnd⟩ := hW
  have hA : DataW.TrodAll enc Try.prog W 0 (fun _ => true) true Try.f3.params.toList args.toList ds p := hA0
  rw [Try.params3] at hA hval
  obtain ⟨v0, vs0, d0, ds0, p0, q0, hargs, rfl, rfl, h0, r0⟩ := trodAll_cons hA
  obtain ⟨v1, vs1, d1, ds1, p1, q1, rfl, rfl, rfl, h1, r1⟩ := trodAll_cons r0
  obtain ⟨v2, vs2, d2, ds2, p2, q2, rfl, rfl, rfl, h2, r2⟩ := trodAll_cons r1
  obtain ⟨v3, vs3, d3, ds3, p3, q3, rfl, rfl, rfl, h3, r3⟩ := trodAll_cons r2
  obtain ⟨v4, vs4, d4, ds4, p4, q4, rfl, rfl, rfl, h4, r4⟩ := trodAll_cons r3
  obtain ⟨rfl, rfl, rfl⟩ := trodAll_nil r4
  obtain rfl : args = #[v0, v1, v2, v3, v4] := by cases args; simp_all
  obtain ⟨A, n, c, rfl, hn, hacts⟩ := acts_of (hval 0 22 v0 rfl rfl) h0
  obtain ⟨a1, rfl, _, _, _⟩ := open_int Try.underlying3 (hval 1 3 v1 rfl rfl) h1
  obtain ⟨a2, rfl, _, _, _⟩ := open_int Try.underlying23 (hval 2 23 v2 rfl rfl) h2
  obtain ⟨a3, rfl, _, _, _⟩ := open_int Try.underlying23 (hval 3 23 v3 rfl rfl) h3
  obtain ⟨a4, rfl, _, _, _⟩ := open_int Try.underlying23 (hval 4 23 v4 rfl rfl) h4
  refine (law_once A n c a1 a2 a3 a4 W hacts hn).mono fun e W' ⟨he, hu⟩ => ?_
  subst he
  exact ⟨_, rfl, law_post laidOut (by kernel_rfl) rfl rfl Try.underlying4 rfl hW' (hu.below (Nat.le_refl _) (by simp))⟩

theorem over : Rows.wordsOnceRow.holds Try.pinned (OpenSpec.ofChange Rows.wordsOnceSpec) :=
  OpenClaim.holds_of_wide 3 Try.f3 rfl rfl rfl rfl rfl rfl rfl ⟨rfl, rfl, rfl, rfl, rfl⟩ rfl rfl rfl rfl rfl (by kernel_rfl) Try.func3 (by kernel_rfl)
    (of_decide_eq_true (by kernel_rfl)) (by unfold Func.isWrapper; first | (rw [if_pos (by decide +kernel)]; kernel_rfl) | (rw [if_neg (by decide +kernel)]; exact ⟨rfl, rfl⟩))
    (fun os started H enc _ => lifted os started H enc)

theorem proved : Rows.WordsOnceSaid :=
  over
end Go.Proofs.Ytopgaemibfigbaa.lawOnce

/-
  container/heap over one kind of thing: Fix, Remove, by contracts.
-/
import Derived.Test.YthdjbflbhgbckaaDoorHeapStrs
namespace Go.Proofs.YthdjbflbhgbckaaDoor
open Go.RowKit HeapPlain

section
variable {α : Type} [Inhabited α] {lt : α → α → Bool} {St : World → List α → Prop} {Fr : World → World → Prop} {p : Nat}

/-- What down tells, and up may have to mend. -/
theorem mend {n i : Nat} {xs ys : List α} {b : Bool} (hx : Ex lt n xs i) (h : b = false → ys = xs ∧ ∀ k, 0 < k → k < n → (k - 1) / 2 = i → lt (xs.getD k default) (xs.getD i default) = false) (hb : b = false) : Up lt n ys i := by
  obtain ⟨rfl, h2⟩ := h hb
  exact hx.up h2

set_option maxHeartbeats 1000000 in
theorem heap_fix (H : Heaped α 39 88 91 (.pointer (some ⟨p, 0, none⟩)) lt St Fr) (o : Ord lt) (n i : Nat) (xs : List α) (w : World) (hs : St w xs) (hn : xs.length = n) (hi : i < n) (hu : Ex lt n xs i) :
    Calls Tryd.prog 41 #[.iface 79 (.pointer (some ⟨p, 0, none⟩)), .int .i64 i] w fun e w' => e = .returned (.tuple #[]) ∧ ∃ ys, St w' ys ∧ ys.Perm xs ∧ Hp lt n ys ∧ Fr w w' := by
  have HH := Lib.hid H
  have HO := Lib.hid o
  have HL := Lib.hid hn
  have HU := Lib.hid hu
  have HS := Lib.hid hs
  clear hs hu H o hn
  go_enter Tryd.func41, Tryd.ntmps41
  go_wp2_with fail
  have hc := HH.out.len w _ HS.out
  have hsm := HH.out.small w _ HS.out
  rw [HL.out] at hc hsm
  refine hc.mono ?_; clear hc; rintro e w1 ⟨rfl, s1, f1⟩
  have S1 := Lib.hid s1
  have F1 := Lib.hid f1
  clear s1 f1
  go_wp2_with fail
  refine (heap_down HH.out HO.out n n xs i w1 S1.out HL.out (Nat.le_refl _) hi HU.out).mono ?_; rintro e w3 ⟨b, zs, rfl, s3, p3, k3, ⟨h3, h3'⟩, f3⟩
  have S3 := Lib.hid s3
  have F3 := Lib.hid f3
  have P3 := Lib.hid p3
  have H3 := Lib.hid h3
  have G3 := Lib.hid (mend HU.out h3')
  clear s3 f3 h3 h3' p3 k3
  cases b with
  | true =>
    go_wp2_with fail
    go_end0
    exact ⟨rfl, zs, S3.out, P3.out, H3.out (by trivial), HH.out.trans _ _ _ F1.out F3.out⟩
  | false =>
    go_wp2_with fail
    refine (heap_up HH.out HO.out n zs i w3 S3.out (by rw [P3.out.length_eq, HL.out]) hi (G3.out (by trivial))).mono ?_; rintro e w4 ⟨rfl, ys, s4, p4, h4, f4⟩
    have S4 := Lib.hid s4
    have F4 := Lib.hid f4
    have H4 := Lib.hid h4
    have P4 := Lib.hid p4
    clear s4 f4 h4 p4
    go_wp2_with fail
    go_end0
    exact ⟨rfl, ys, S4.out, P4.out.trans P3.out, H4.out, HH.out.trans _ _ _ (HH.out.trans _ _ _ F1.out F3.out) F4.out⟩

end
end Go.Proofs.YthdjbflbhgbckaaDoor

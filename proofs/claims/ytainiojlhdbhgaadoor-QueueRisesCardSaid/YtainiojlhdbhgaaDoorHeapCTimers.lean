/-
  container/heap over one kind of thing: Fix, Remove, by contracts.
-/
import Derived.Test.YtainiojlhdbhgaaDoorHeapTimers
namespace Go.Proofs.YtainiojlhdbhgaaDoor
open Go.RowKit HeapPlain

section
variable {α : Type} [Inhabited α] {lt : α → α → Bool} {St : World → List α → Prop} {Fr : World → World → Prop} {p : Nat}

/-- What down tells, and up may have to mend. -/
theorem mend {n i : Nat} {xs ys : List α} {b : Bool} (hx : Ex lt n xs i) (h : b = false → ys = xs ∧ ∀ k, 0 < k → k < n → (k - 1) / 2 = i → lt (xs.getD k default) (xs.getD i default) = false) (hb : b = false) : Up lt n ys i := by
  obtain ⟨rfl, h2⟩ := h hb
  exact hx.up h2

set_option maxHeartbeats 1000000 in
theorem heap_fix (H : Heaped α 24 94 97 (.pointer (some ⟨p, 0, none⟩)) lt St Fr) (o : Ord lt) (n i : Nat) (xs : List α) (w : World) (hs : St w xs) (hn : xs.length = n) (hi : i < n) (hu : Ex lt n xs i) :
    Calls Tryd.prog 37 #[.iface 55 (.pointer (some ⟨p, 0, none⟩)), .int .i64 i] w fun e w' => e = .returned (.tuple #[]) ∧ ∃ ys, St w' ys ∧ ys.Perm xs ∧ Hp lt n ys ∧ Fr w w' := by
  have HH := Lib.hid H
  have HO := Lib.hid o
  have HL := Lib.hid hn
  have HU := Lib.hid hu
  have HS := Lib.hid hs
  clear hs hu H o hn
  go_enter Tryd.func37, Tryd.ntmps37
  go_wp2_with fail
  have hc := HH.out.len w _ HS.out
  have hsm := HH.out.small w _ HS.out
  rw [HL.out] at hc hsm
  refine hc.mono ?_; clear hc; rintro e w1 ⟨rfl, s1, f1⟩
  have S1 := Lib.hid s1
  have F1 := Lib.hid f1
  clear s1 f1
  go_wp2_with fail
  refine (heap_down HH.out HO.out n n xs i w1 S1.out HL.out (Nat.le_refl _) hi HU.out).mono ?_; rintro e w3 ⟨b, zs, rfl, s3, p3, k3, ⟨h3, h3'⟩, f3⟩
  have S3 := Lib.hid s3
  have F3 := Lib.hid f3
  have P3 := Lib.hid p3
  have H3 := Lib.hid h3
  have G3 := Lib.hid (mend HU.out h3')
  clear s3 f3 h3 h3' p3 k3
  cases b with
  | true =>
    go_wp2_with fail
    go_end0
    exact ⟨rfl, zs, S3.out, P3.out, H3.out (by trivial), HH.out.trans _ _ _ F1.out F3.out⟩
  | false =>
    go_wp2_with fail
    refine (heap_up HH.out HO.out n zs i w3 S3.out (by rw [P3.out.length_eq, HL.out]) hi (G3.out (by trivial))).mono ?_; rintro e w4 ⟨rfl, ys, s4, p4, h4, f4⟩
    have S4 := Lib.hid s4
    have F4 := Lib.hid f4
    have H4 := Lib.hid h4
    have P4 := Lib.hid p4
    clear s4 f4 h4 p4
    go_wp2_with fail
    go_end0
    exact ⟨rfl, ys, S4.out, P4.out.trans P3.out, H4.out, HH.out.trans _ _ _ (HH.out.trans _ _ _ F1.out F3.out) F4.out⟩

/-- A heap of which one goes to the end. -/
theorem hp_ex (o : Ord lt) {n i : Nat} {xs : List α} (h : Hp lt (n + 1) xs) (hl : xs.length = n + 1) (hi : i < n) : Ex lt n (swp xs i n) i := by
  constructor
  · intro k k0 kn ke ke'
    rw [swp_getD _ _ _ _ (by omega) (by omega), swp_getD _ _ _ _ (by omega) (by omega)]
    rw [if_neg (by omega), if_neg ke, if_neg (by omega), if_neg ke']
    exact h k k0 (by omega)
  · intro k k0 kn ke i0
    rw [swp_getD _ _ _ _ (by omega) (by omega), swp_getD _ _ _ _ (by omega) (by omega)]
    rw [if_neg (by omega), if_neg (by omega), if_neg (by omega), if_neg (by omega)]
    have h1 := h k k0 (by omega)
    rw [ke] at h1
    exact o.tran _ _ _ (h i i0 (by omega)) h1
theorem rem_perm {n : Nat} {xs zs : List α} {x : α} (hl : xs.length = n + 1) (hp : zs.Perm xs) (hz : zs.getD n default = x) : (x :: zs.take n).Perm xs := by
  have hzl : zs.length = n + 1 := by rw [hp.length_eq, hl]
  have h2 : zs = zs.take n ++ [x] := by
    have hg : zs.getD n default = zs[n]'(by omega) := by simp [List.getD_eq_getElem?_getD, List.getElem?_eq_getElem (show n < zs.length by omega)]
    rw [← hz, hg]
    have := List.take_append_drop n zs
    rw [List.drop_eq_getElem_cons (by omega), List.drop_eq_nil_of_le (by omega)] at this
    exact this.symm
  have h3 : (x :: zs.take n).Perm zs := by
    conv => rhs; rw [h2]
    exact (List.perm_append_comm (l₁ := zs.take n) (l₂ := [x])).symm
  exact h3.trans hp

set_option maxHeartbeats 2000000 in
theorem heap_remove (H : Heaped α 24 94 97 (.pointer (some ⟨p, 0, none⟩)) lt St Fr) (o : Ord lt) (n i : Nat) (xs : List α) (V : α → Value) (w : World) (hs : St w xs) (hn : xs.length = n + 1) (hi : i < n + 1) (hu : Hp lt (n + 1) xs)
    (hp : ∀ w ys, St w ys → ys.length = n + 1 → Calls Tryd.prog 95 #[.pointer (some ⟨p, 0, none⟩)] w fun e w' => e = .returned (V (ys.getD n default)) ∧ St w' (ys.take n) ∧ Fr w w') :
    Calls Tryd.prog 27 #[.iface 55 (.pointer (some ⟨p, 0, none⟩)), .int .i64 i] w fun e w' => e = .returned (V (xs.getD i default)) ∧ ∃ ys, St w' ys ∧ (xs.getD i default :: ys).Perm xs ∧ Hp lt n ys ∧ Fr w w' := by
  have HH := Lib.hid H
  have HO := Lib.hid o
  have HP := Lib.hid hp
  have HL := Lib.hid hn
  have HU := Lib.hid hu
  have HS := Lib.hid hs
  clear hs hu H o hp hn
  go_enter Tryd.func27, Tryd.ntmps27
  go_wp2_with fail
  have hc := HH.out.len w _ HS.out
  have hsm := HH.out.small w _ HS.out
  rw [HL.out] at hc hsm
  refine hc.mono ?_; clear hc; rintro e w1 ⟨rfl, s1, f1⟩
  have S1 := Lib.hid s1
  have F1 := Lib.hid f1
  clear s1 f1
  have hq : ((n + 1 : Nat) : Int) = (n : Int) + 1 := by omega
  rw [hq]
  clear hq
  by_cases hin : n = i
  · subst hin
    go_wp2_with fail
    refine (HP.out w1 xs S1.out HL.out).mono ?_; rintro e w4 ⟨rfl, s4, f4⟩
    have S4 := Lib.hid s4
    have F4 := Lib.hid f4
    clear s4 f4
    go_wp2_with fail
    go_ret
    exact ⟨rfl, xs.take n, S4.out, rem_perm HL.out (.refl _) rfl, (HU.out.mono (Nat.le_succ n)).take, HH.out.trans _ _ _ F1.out F4.out⟩
  · have hin' : ¬ (n : Int) = i := by omega
    go_wp2_with fail
    refine (HH.out.swap w1 xs i n S1.out (by rw [HL.out]; omega) (by rw [HL.out]; omega)).mono ?_; rintro e w2 ⟨rfl, s2, f2⟩
    have S2 := Lib.hid s2
    have F2 := Lib.hid f2
    clear s2 f2
    have EX := Lib.hid (hp_ex HO.out HU.out HL.out (show i < n by omega))
    go_wp2_with fail
    refine (heap_down HH.out HO.out n (n + 1) (swp xs i n) i w2 S2.out (by rw [swp_length, HL.out]) (by omega) (by omega) EX.out).mono ?_; rintro e w3 ⟨b, zs, rfl, s3, p3, k3, ⟨h3, h3'⟩, f3⟩
    have S3 := Lib.hid s3
    have F3 := Lib.hid f3
    have P3 := Lib.hid (p3.trans (swp_perm xs i n (by rw [HL.out]; omega) (by rw [HL.out]; omega)))
    have X3 := Lib.hid (show zs.getD n default = xs.getD i default by rw [k3 n (Nat.le_refl _), swp_getD _ _ _ _ (by rw [HL.out]; omega) (by rw [HL.out]; omega), if_pos rfl])
    have H3 := Lib.hid h3
    have G3 := Lib.hid (mend EX.out h3')
    clear s3 f3 h3 h3' p3 k3
    cases b with
    | true =>
      go_wp2_with fail
      refine (HP.out w3 zs S3.out (by rw [P3.out.length_eq, HL.out])).mono ?_; rintro e w4 ⟨rfl, s4, f4⟩
      rw [X3.out]
      have S4 := Lib.hid s4
      have F4 := Lib.hid f4
      clear s4 f4
      go_wp2_with fail
      go_ret
      exact ⟨rfl, zs.take n, S4.out, rem_perm HL.out P3.out X3.out, (H3.out (by trivial)).take, HH.out.trans _ _ _ (HH.out.trans _ _ _ (HH.out.trans _ _ _ F1.out F2.out) F3.out) F4.out⟩
    | false =>
      go_wp2_with fail
      refine (heap_up' HH.out HO.out n (n + 1) zs i w3 S3.out (by rw [P3.out.length_eq, HL.out]) (by omega) (by omega) (G3.out (by trivial))).mono ?_; rintro e w5 ⟨rfl, ys, s5, p5, k5, h5, f5⟩
      have S5 := Lib.hid s5
      have F5 := Lib.hid f5
      have P5 := Lib.hid (p5.trans P3.out)
      have X5 := Lib.hid ((k5 n (Nat.le_refl _)).trans X3.out)
      have H5 := Lib.hid h5
      clear s5 f5 p5 k5 h5
      go_wp2_with fail
      refine (HP.out w5 ys S5.out (by rw [P5.out.length_eq, HL.out])).mono ?_; rintro e w4 ⟨rfl, s4, f4⟩
      rw [X5.out]
      have S4 := Lib.hid s4
      have F4 := Lib.hid f4
      clear s4 f4
      go_wp2_with fail
      go_ret
      exact ⟨rfl, ys.take n, S4.out, rem_perm HL.out P5.out X5.out, H5.out.take, HH.out.trans _ _ _ (HH.out.trans _ _ _ (HH.out.trans _ _ _ (HH.out.trans _ _ _ F1.out F2.out) F3.out) F5.out) F4.out⟩
end
end Go.Proofs.YtainiojlhdbhgaaDoor

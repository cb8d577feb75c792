/-
  container/heap over one kind of thing: Push, Pop, by contracts.
-/
import Derived.Test.YthdjbflbhgbckaaDoorHeapStrs
namespace Go.Proofs.YthdjbflbhgbckaaDoor
open Go.RowKit HeapPlain

section
variable {α : Type} [Inhabited α] {lt : α → α → Bool} {St : World → List α → Prop} {Fr : World → World → Prop} {p : Nat}

set_option maxHeartbeats 1000000 in
theorem heap_push (H : Heaped α 39 88 91 (.pointer (some ⟨p, 0, none⟩)) lt St Fr) (o : Ord lt) (n : Nat) (xs : List α) (x : α) (ty : TypeId) (v : Value) (w : World) (_hs : St w xs) (hn : xs.length = n) (hu : Hp lt n xs)
    (hp : Calls Tryd.prog 90 #[.pointer (some ⟨p, 0, none⟩), .iface ty v] w fun e w' => e = .returned (.tuple #[]) ∧ St w' (xs ++ [x]) ∧ Fr w w') :
    Calls Tryd.prog 38 #[.iface 79 (.pointer (some ⟨p, 0, none⟩)), .iface ty v] w fun e w' => e = .returned (.tuple #[]) ∧ ∃ ys, St w' ys ∧ ys.Perm (x :: xs) ∧ Hp lt (n + 1) ys ∧ Fr w w' := by
  have HH := Lib.hid H
  have HO := Lib.hid o
  have HP := Lib.hid hp
  subst hn
  have HU := Lib.hid (hu.up x)
  obtain ⟨n, hn⟩ : ∃ n, xs.length = n := ⟨_, rfl⟩
  have hl : (xs ++ [x]).length = n + 1 := by simp [hn]
  rw [hn] at HU ⊢
  have HL := Lib.hid hl
  clear _hs hu H o hp hn hl
  go_enter Tryd.func38, Tryd.ntmps38
  go_wp2_with fail
  refine HP.out.mono ?_; rintro e w1 ⟨rfl, s1, f1⟩
  have S1 := Lib.hid s1
  have F1 := Lib.hid f1
  clear s1 f1
  go_wp2_with fail
  have hc := HH.out.len w1 _ S1.out
  have hsm := HH.out.small w1 _ S1.out
  rw [HL.out] at hc hsm
  refine hc.mono ?_; clear hc; rintro e w2 ⟨rfl, s2, f2⟩
  have S2 := Lib.hid s2
  have F2 := Lib.hid f2
  clear s2 f2
  have hq : ((n + 1 : Nat) : Int) = (n : Int) + 1 := by omega
  rw [hq]
  clear hq
  go_wp2_with fail
  refine (heap_up HH.out HO.out (n + 1) (xs ++ [x]) n w2 S2.out HL.out (by omega) HU.out).mono ?_; rintro e w3 ⟨rfl, ys, s3, p3, h3, f3⟩
  have S3 := Lib.hid s3
  have F3 := Lib.hid f3
  have H3 := Lib.hid h3
  clear s3 f3 h3
  go_wp2_with fail
  go_end0
  exact ⟨rfl, ys, S3.out, p3.trans (List.perm_append_comm (l₁ := xs) (l₂ := [x])), H3.out, HH.out.trans _ _ _ (HH.out.trans _ _ _ F1.out F2.out) F3.out⟩

theorem pop_hp {n : Nat} {xs zs : List α} {b : Bool} (hu : Hp lt (n + 1) xs) (hl : xs.length = n + 1) (hb : b = true → Hp lt n zs)
    (hf : b = false → zs = swp xs 0 n ∧ ∀ k, 0 < k → k < n → (k - 1) / 2 = 0 → lt ((swp xs 0 n).getD k default) ((swp xs 0 n).getD 0 default) = false) : Hp lt n zs := by
  cases b with
  | true => exact hb rfl
  | false =>
    obtain ⟨rfl, h⟩ := hf rfl
    exact (hu.dn hl).stop h
theorem pop_perm {n : Nat} {xs zs : List α} (hl : xs.length = n + 1) (hp : zs.Perm (swp xs 0 n)) (hz : zs.getD n default = (swp xs 0 n).getD n default) : (xs.getD 0 default :: zs.take n).Perm xs := by
  have h1 : (swp xs 0 n).getD n default = xs.getD 0 default := by rw [swp_getD _ _ _ _ (by omega) (by omega), if_pos rfl]
  have hzl : zs.length = n + 1 := by rw [hp.length_eq, swp_length, hl]
  have h2 : zs = zs.take n ++ [xs.getD 0 default] := by
    have hg : zs.getD n default = zs[n]'(by omega) := by simp [List.getD_eq_getElem?_getD, List.getElem?_eq_getElem (show n < zs.length by omega)]
    rw [← h1, ← hz, hg]
    have := List.take_append_drop n zs
    rw [List.drop_eq_getElem_cons (by omega), List.drop_eq_nil_of_le (by omega)] at this
    exact this.symm
  have h3 : (xs.getD 0 default :: zs.take n).Perm zs := by
    conv => rhs; rw [h2]
    exact (List.perm_append_comm (l₁ := zs.take n) (l₂ := [xs.getD 0 default])).symm
  exact (h3.trans hp).trans (swp_perm xs 0 n (by omega) (by omega))

set_option maxHeartbeats 1000000 in
theorem heap_pop (H : Heaped α 39 88 91 (.pointer (some ⟨p, 0, none⟩)) lt St Fr) (o : Ord lt) (n : Nat) (xs : List α) (V : α → Value) (w : World) (hs : St w xs) (hn : xs.length = n + 1) (hu : Hp lt (n + 1) xs)
    (hp : ∀ w ys, St w ys → ys.length = n + 1 → Calls Tryd.prog 89 #[.pointer (some ⟨p, 0, none⟩)] w fun e w' => e = .returned (V (ys.getD n default)) ∧ St w' (ys.take n) ∧ Fr w w') :
    Calls Tryd.prog 40 #[.iface 79 (.pointer (some ⟨p, 0, none⟩))] w fun e w' => e = .returned (V (xs.getD 0 default)) ∧ ∃ ys, St w' ys ∧ (xs.getD 0 default :: ys).Perm xs ∧ Hp lt n ys ∧ Fr w w' := by
  have HH := Lib.hid H
  have HO := Lib.hid o
  have HP := Lib.hid hp
  have HL := Lib.hid hn
  have HU := Lib.hid hu
  have HS := Lib.hid hs
  clear hs hu H o hp hn
  go_enter Tryd.func40, Tryd.ntmps40
  go_wp2_with fail
  have hc := HH.out.len w _ HS.out
  have hsm := HH.out.small w _ HS.out
  rw [HL.out] at hc hsm
  refine hc.mono ?_; clear hc; rintro e w1 ⟨rfl, s1, f1⟩
  have S1 := Lib.hid s1
  have F1 := Lib.hid f1
  clear s1 f1
  have hq : ((n + 1 : Nat) : Int) = (n : Int) + 1 := by omega
  rw [hq]
  clear hq
  go_wp2_with fail
  refine (HH.out.swap w1 xs 0 n S1.out (by rw [HL.out]; omega) (by rw [HL.out]; omega)).mono ?_; rintro e w2 ⟨rfl, s2, f2⟩
  have S2 := Lib.hid s2
  have F2 := Lib.hid f2
  clear s2 f2
  go_wp2_with fail
  refine (heap_down HH.out HO.out n (n + 1) (swp xs 0 n) 0 w2 S2.out (by rw [swp_length, HL.out]) (by omega) (by omega) (HU.out.dn HL.out).ex).mono ?_; rintro e w3 ⟨b, zs, rfl, s3, p3, k3, ⟨h3, h3'⟩, f3⟩
  have S3 := Lib.hid s3
  have F3 := Lib.hid f3
  have P3 := Lib.hid (pop_perm HL.out p3 (k3 n (Nat.le_refl _)))
  have Z3 := Lib.hid (show zs.length = n + 1 by rw [p3.length_eq, swp_length, HL.out])
  have X3 := Lib.hid (show zs.getD n default = xs.getD 0 default by rw [k3 n (Nat.le_refl _), swp_getD _ _ _ _ (by rw [HL.out]; omega) (by rw [HL.out]; omega), if_pos rfl])
  have H3 := Lib.hid (pop_hp HU.out HL.out h3 h3')
  clear s3 f3 h3 h3' p3 k3
  go_wp2_with fail
  refine (HP.out w3 zs S3.out Z3.out).mono ?_; rintro e w4 ⟨rfl, s4, f4⟩
  rw [X3.out]
  have S4 := Lib.hid s4
  have F4 := Lib.hid f4
  clear s4 f4
  go_wp2_with fail
  go_ret
  exact ⟨rfl, zs.take n, S4.out, P3.out, H3.out.take, HH.out.trans _ _ _ (HH.out.trans _ _ _ (HH.out.trans _ _ _ F1.out F2.out) F3.out) F4.out⟩
end
end Go.Proofs.YthdjbflbhgbckaaDoor

/-
  container/heap over one kind of thing: up, down, by contracts. What the things are is said by St; the methods come in as contracts.
-/
import Derived.Test.YthdjbflbhgbckaaDoorBase
import Derived.Test.YthdjbflbhgbckaaDoorProg
import Derived.Test.YthdjbflbhgbckaaDoorHeapPlain
namespace Go.Proofs.YthdjbflbhgbckaaDoor
open Go.RowKit HeapPlain

theorem half (k : Nat) (h : ¬ k = 0) : (((k - 1) / 2 : Nat) : Int) = ((k : Int) - 1) / 2 := by omega

/-- What the walks ask of the methods: T the dynamic type, pv the value. -/
structure Heaped (α : Type) [Inhabited α] (fLen fLess fSwap : FuncId) (pv : Value) (lt : α → α → Bool) (St : World → List α → Prop) (Fr : World → World → Prop) : Prop where
  refl : ∀ w, Fr w w
  trans : ∀ a b c, Fr a b → Fr b c → Fr a c
  len : ∀ w xs, St w xs → Calls Tryd.prog fLen #[pv] w fun e w' => e = .returned (.int .i64 xs.length) ∧ St w' xs ∧ Fr w w'
  less : ∀ w xs (i j : Nat), St w xs → i < xs.length → j < xs.length → Calls Tryd.prog fLess #[pv, .int .i64 i, .int .i64 j] w fun e w' => e = .returned (.bool (lt (xs.getD i default) (xs.getD j default))) ∧ St w' xs ∧ Fr w w'
  swap : ∀ w xs (i j : Nat), St w xs → i < xs.length → j < xs.length → Calls Tryd.prog fSwap #[pv, .int .i64 i, .int .i64 j] w fun e w' => e = .returned (.tuple #[]) ∧ St w' (swp xs i j) ∧ Fr w w'
  small : ∀ w xs, St w xs → xs.length ≤ 1000000

section
variable {α : Type} [Inhabited α] {lt : α → α → Bool} {St : World → List α → Prop} {Fr : World → World → Prop} {p : Nat}

set_option maxHeartbeats 1000000 in
theorem heap_up' (H : Heaped α 39 88 91 (.pointer (some ⟨p, 0, none⟩)) lt St Fr) (o : Ord lt) (n l : Nat) (xs : List α) (j : Nat) (w : World) (hs : St w xs) (hn : xs.length = l) (hnl : n ≤ l) (hj : j < n) (hu : Up lt n xs j) :
    Calls Tryd.prog 55 #[.iface 79 (.pointer (some ⟨p, 0, none⟩)), .int .i64 j] w fun e w' => e = .returned (.tuple #[]) ∧ ∃ ys, St w' ys ∧ ys.Perm xs ∧ (∀ k, n ≤ k → ys.getD k default = xs.getD k default) ∧ Hp lt n ys ∧ Fr w w' := by
  have hsm : l ≤ 1000000 := hn ▸ H.small w xs hs
  have HH := Lib.hid H
  have HS := Lib.hid hs
  have HU := Lib.hid hu
  have HN := Lib.hid hn
  have HO := Lib.hid o
  clear hs hu H hn o
  go_enter Tryd.func55, Tryd.ntmps55
  go_wp2_with fail
  go_loopw [1] (fun v wr => ∃ (k : Nat) (ys : List α), v = .int .i64 k ∧ k < n ∧ Hid (St wr ys ∧ ys.Perm xs ∧ ys.length = l ∧ (∀ m, n ≤ m → ys.getD m default = xs.getD m default) ∧ Up lt n ys k ∧ Fr w wr)) (fun v _ => (intOf v).toNat)
  case atStart => exact ⟨j, xs, rfl, hj, Lib.hid ⟨HS.out, .refl _, HN.out, fun _ _ => rfl, HU.out, HH.out.refl _⟩⟩
  case round =>
    obtain ⟨k, ys, rfl, hk, HY⟩ := hrel
    by_cases h0 : k = 0
    · subst h0
      go_wp2_with fail
      go_end0
      obtain ⟨y1, y2, y3, y6, y4, y5⟩ := HY.out
      exact ⟨rfl, ys, y1, y2, y6, y4.stop (.inl rfl), y5⟩
    · cases hl : lt (ys.getD k default) (ys.getD ((k - 1) / 2) default) with
      | false =>
        have HL := Lib.hid hl
        clear hl
        go_wp2_with fail
        have hc := HH.out.less wr ys k ((k - 1) / 2) HY.out.1 (by rw [HY.out.2.2.1]; omega) (by rw [HY.out.2.2.1]; omega)
        rw [half k h0] at hc
        refine hc.mono ?_; clear hc; rintro e w1 ⟨he, s1, f1⟩
        rw [HL.out] at he
        subst he
        have S1 := Lib.hid s1
        have F1 := Lib.hid f1
        clear s1 f1
        go_wp2_with fail
        go_end0
        obtain ⟨y1, y2, y3, y6, y4, y5⟩ := HY.out
        exact ⟨rfl, ys, S1.out, y2, y6, y4.stop (.inr HL.out), HH.out.trans _ _ _ y5 F1.out⟩
      | true =>
        have HL := Lib.hid hl
        clear hl
        go_wp2_with fail
        have hc := HH.out.less wr ys k ((k - 1) / 2) HY.out.1 (by rw [HY.out.2.2.1]; omega) (by rw [HY.out.2.2.1]; omega)
        rw [half k h0] at hc
        refine hc.mono ?_; clear hc; rintro e w1 ⟨he, s1, f1⟩
        rw [HL.out] at he
        subst he
        have S1 := Lib.hid s1
        have F1 := Lib.hid f1
        clear s1 f1
        go_wp2_with fail
        have hc := HH.out.swap w1 ys ((k - 1) / 2) k S1.out (by rw [HY.out.2.2.1]; omega) (by rw [HY.out.2.2.1]; omega)
        rw [half k h0] at hc
        refine hc.mono ?_; clear hc; rintro e w2 ⟨rfl, s2, f2⟩
        have S2 := Lib.hid s2
        have F2 := Lib.hid f2
        clear s2 f2
        go_wp2_with fail
        go_roundw
        case rel =>
          obtain ⟨y1, y2, y3, y6, y4, y5⟩ := HY.out
          exact ⟨(k - 1) / 2, _, by rw [half k h0], by omega, Lib.hid ⟨S2.out, (swp_perm ys _ _ (by omega) (by omega)).trans y2, by rw [swp_length]; exact y3, fun m hm => (by rw [swp_getD _ _ _ _ (by omega) (by omega), if_neg (by omega), if_neg (by omega)]; exact y6 m hm), y4.step HO.out (by omega) (by omega) (by omega) HL.out, HH.out.trans _ _ _ (HH.out.trans _ _ _ y5 F1.out) F2.out⟩⟩
        case measure => simp [intOf]; omega
theorem heap_up (H : Heaped α 39 88 91 (.pointer (some ⟨p, 0, none⟩)) lt St Fr) (o : Ord lt) (n : Nat) (xs : List α) (j : Nat) (w : World) (hs : St w xs) (hn : xs.length = n) (hj : j < n) (hu : Up lt n xs j) :
    Calls Tryd.prog 55 #[.iface 79 (.pointer (some ⟨p, 0, none⟩)), .int .i64 j] w fun e w' => e = .returned (.tuple #[]) ∧ ∃ ys, St w' ys ∧ ys.Perm xs ∧ Hp lt n ys ∧ Fr w w' := by
  refine (heap_up' H o n n xs j w hs hn (Nat.le_refl _) hj hu).mono ?_
  rintro e w' ⟨rfl, ys, h1, h2, _, h3, h4⟩
  exact ⟨rfl, ys, h1, h2, h3, h4⟩
/-- What down tells where it stops. -/
theorem down_stop {n k i0 : Nat} {ys xs : List α} (hd : (k = i0 ∧ ys = xs) ∨ (i0 < k ∧ Dn lt n ys k)) (hc : ∀ m, 0 < m → m < n → (m - 1) / 2 = k → lt (ys.getD m default) (ys.getD k default) = false) {b : Bool} (hb : b = decide (i0 < k)) :
    (b = true → Hp lt n ys) ∧ (b = false → ys = xs ∧ ∀ k, 0 < k → k < n → (k - 1) / 2 = i0 → lt (xs.getD k default) (xs.getD i0 default) = false) := by
  subst hb
  rcases hd with ⟨rfl, rfl⟩ | ⟨h1, h2⟩
  · exact ⟨fun h => by simp at h, fun _ => ⟨rfl, hc⟩⟩
  · exact ⟨fun _ => h2.stop hc, fun h => by simp at h; omega⟩
/-- None of the two below k stands ahead of the one that is chosen. -/
theorem down_kids (o : Ord lt) {n k j : Nat} {ys : List α} (hj : j = 2 * k + 1 ∨ j = 2 * k + 2) (h1 : j = 2 * k + 1 → 2 * k + 2 < n → lt (ys.getD (2 * k + 2) default) (ys.getD (2 * k + 1) default) = false)
    (h2 : j = 2 * k + 2 → lt (ys.getD (2 * k + 2) default) (ys.getD (2 * k + 1) default) = true) : ∀ m, 0 < m → m < n → (m - 1) / 2 = k → lt (ys.getD m default) (ys.getD j default) = false := by
  intro m m0 mn mk
  have irr : ∀ a, lt a a = false := fun a => by
    cases h : lt a a with
    | false => rfl
    | true => exact (o.asym a a h).symm.trans h |>.symm ▸ rfl
  have hm : m = 2 * k + 1 ∨ m = 2 * k + 2 := by omega
  rcases hm with rfl | rfl <;> rcases hj with rfl | rfl
  · exact irr _
  · exact o.asym _ _ (h2 rfl)
  · exact h1 rfl mn
  · exact irr _

set_option maxHeartbeats 4000000 in
theorem heap_down (H : Heaped α 39 88 91 (.pointer (some ⟨p, 0, none⟩)) lt St Fr) (o : Ord lt) (n l : Nat) (xs : List α) (i0 : Nat) (w : World) (hs : St w xs) (hn : xs.length = l) (hnl : n ≤ l) (hi : i0 < l) (hu : Ex lt n xs i0) :
    Calls Tryd.prog 56 #[.iface 79 (.pointer (some ⟨p, 0, none⟩)), .int .i64 i0, .int .i64 n] w fun e w' => ∃ (b : Bool) (ys : List α), e = .returned (.bool b) ∧ St w' ys ∧ ys.Perm xs ∧ (∀ k, n ≤ k → ys.getD k default = xs.getD k default) ∧ ((b = true → Hp lt n ys) ∧ (b = false → ys = xs ∧ ∀ k, 0 < k → k < n → (k - 1) / 2 = i0 → lt (xs.getD k default) (xs.getD i0 default) = false)) ∧ Fr w w' := by
  have hsm : l ≤ 1000000 := hn ▸ H.small w xs hs
  have HH := Lib.hid H
  have HS := Lib.hid hs
  have HU := Lib.hid hu
  have HN := Lib.hid hn
  have HO := Lib.hid o
  clear hs hu H hn o
  go_enter Tryd.func56, Tryd.ntmps56
  go_wp2_with fail
  go_loopw [7] (fun v wr => ∃ (k : Nat) (ys : List α), v = .int .i64 k ∧ k < l ∧ Hid (St wr ys ∧ ys.Perm xs ∧ ys.length = l ∧ (∀ m, n ≤ m → ys.getD m default = xs.getD m default) ∧ Ex lt n ys k ∧ ((k = i0 ∧ ys = xs) ∨ (i0 < k ∧ Dn lt n ys k)) ∧ Fr w wr)) (fun v _ => l - (intOf v).toNat)
  case atStart => exact ⟨i0, xs, rfl, hi, Lib.hid ⟨HS.out, .refl _, HN.out, fun _ _ => rfl, HU.out, .inl ⟨rfl, rfl⟩, HH.out.refl _⟩⟩
  case round =>
    obtain ⟨k, ys, rfl, hk, HY⟩ := hrel
    have hq1 : ((2 * k + 1 : Nat) : Int) = 2 * (k : Int) + 1 := by omega
    have hq2 : ((2 * k + 2 : Nat) : Int) = 2 * (k : Int) + 1 + 1 := by omega
    have HQ1 := Lib.hid hq1
    have HQ2 := Lib.hid hq2
    clear hq1 hq2
    by_cases h1 : n ≤ 2 * k + 1
    · have h1' : (2 * (k : Int) + 1) ≥ n := by omega
      go_wp2_with fail
      go_ret
      obtain ⟨y1, y2, y3, y4, y5, y6, y7⟩ := HY.out
      exact ⟨_, ys, rfl, y1, y2, y4, down_stop y6 (fun m m0 mn mk => by omega) rfl, y7⟩
    · have h1' : ¬ (2 * (k : Int) + 1) ≥ n := by omega
      have h1'' : ¬ (2 * (k : Int) + 1) < 0 := by omega
      by_cases h2 : 2 * k + 2 < n
      · have h2' : (2 * (k : Int) + 1 + 1) < n := by omega
        cases hb : lt (ys.getD (2 * k + 2) default) (ys.getD (2 * k + 1) default) with
        | true =>
          have HB := Lib.hid hb
          clear hb
          cases hl : lt (ys.getD (2 * k + 2) default) (ys.getD k default) with
          | false =>
            have HL := Lib.hid hl
            clear hl
            go_wp2_with fail
            have hc := HH.out.less wr ys (2 * k + 2) (2 * k + 1) HY.out.1 (by rw [HY.out.2.2.1]; omega) (by rw [HY.out.2.2.1]; omega)
            rw [HQ2.out, HQ1.out] at hc
            refine hc.mono ?_; clear hc; rintro e w1 ⟨he, s1, f1⟩
            rw [HB.out] at he
            subst he
            have S1 := Lib.hid s1
            have F1 := Lib.hid f1
            clear s1 f1
            go_wp2_with fail
            have hc := HH.out.less w1 ys (2 * k + 2) (k) S1.out (by rw [HY.out.2.2.1]; omega) (by rw [HY.out.2.2.1]; omega)
            rw [HQ2.out] at hc
            refine hc.mono ?_; clear hc; rintro e w2 ⟨he, s2, f2⟩
            rw [HL.out] at he
            subst he
            have S2 := Lib.hid s2
            have F2 := Lib.hid f2
            clear s2 f2
            go_wp2_with fail
            go_ret
            obtain ⟨y1, y2, y3, y4, y5, y6, y7⟩ := HY.out
            have kd := down_kids HO.out (n := n) (k := k) (ys := ys) (.inr rfl) (fun h => by omega) (fun _ => HB.out)
            exact ⟨_, ys, rfl, S2.out, y2, y4, down_stop y6 (fun m m0 mn mk => HO.out.tran _ _ _ HL.out (kd m m0 mn mk)) rfl, (HH.out.trans _ _ _ (HH.out.trans _ _ _ y7 F1.out) F2.out)⟩
          | true =>
            have HL := Lib.hid hl
            clear hl
            go_wp2_with fail
            have hc := HH.out.less wr ys (2 * k + 2) (2 * k + 1) HY.out.1 (by rw [HY.out.2.2.1]; omega) (by rw [HY.out.2.2.1]; omega)
            rw [HQ2.out, HQ1.out] at hc
            refine hc.mono ?_; clear hc; rintro e w1 ⟨he, s1, f1⟩
            rw [HB.out] at he
            subst he
            have S1 := Lib.hid s1
            have F1 := Lib.hid f1
            clear s1 f1
            go_wp2_with fail
            have hc := HH.out.less w1 ys (2 * k + 2) (k) S1.out (by rw [HY.out.2.2.1]; omega) (by rw [HY.out.2.2.1]; omega)
            rw [HQ2.out] at hc
            refine hc.mono ?_; clear hc; rintro e w2 ⟨he, s2, f2⟩
            rw [HL.out] at he
            subst he
            have S2 := Lib.hid s2
            have F2 := Lib.hid f2
            clear s2 f2
            go_wp2_with fail
            have hc := HH.out.swap w2 ys k (2 * k + 2) S2.out (by rw [HY.out.2.2.1]; omega) (by rw [HY.out.2.2.1]; omega)
            rw [HQ2.out] at hc
            refine hc.mono ?_; clear hc; rintro e w3 ⟨rfl, s3, f3⟩
            have S3 := Lib.hid s3
            have F3 := Lib.hid f3
            clear s3 f3
            go_wp2_with fail
            go_roundw
            case rel =>
              obtain ⟨y1, y2, y3, y4, y5, y6, y7⟩ := HY.out
              have kd := down_kids HO.out (n := n) (k := k) (ys := ys) (.inr rfl) (fun h => by omega) (fun _ => HB.out)
              have dn := y5.step HO.out (by omega) (by omega) (by omega) (by omega) HL.out kd
              refine ⟨2 * k + 2, _, by rw [HQ2.out], by omega, Lib.hid ⟨S3.out, (swp_perm ys _ _ (by omega) (by omega)).trans y2, by rw [swp_length]; exact y3, fun m hm => ?_, dn.ex, .inr ⟨by rcases y6 with h | h <;> omega, dn⟩, HH.out.trans _ _ _ (HH.out.trans _ _ _ (HH.out.trans _ _ _ y7 F1.out) F2.out) F3.out⟩⟩
              rw [swp_getD _ _ _ _ (by omega) (by omega), if_neg (by omega), if_neg (by omega)]
              exact y4 m hm
            case measure => simp [intOf]; omega
        | false =>
          have HB := Lib.hid hb
          clear hb
          cases hl : lt (ys.getD (2 * k + 1) default) (ys.getD k default) with
          | false =>
            have HL := Lib.hid hl
            clear hl
            go_wp2_with fail
            have hc := HH.out.less wr ys (2 * k + 2) (2 * k + 1) HY.out.1 (by rw [HY.out.2.2.1]; omega) (by rw [HY.out.2.2.1]; omega)
            rw [HQ2.out, HQ1.out] at hc
            refine hc.mono ?_; clear hc; rintro e w1 ⟨he, s1, f1⟩
            rw [HB.out] at he
            subst he
            have S1 := Lib.hid s1
            have F1 := Lib.hid f1
            clear s1 f1
            go_wp2_with fail
            have hc := HH.out.less w1 ys (2 * k + 1) (k) S1.out (by rw [HY.out.2.2.1]; omega) (by rw [HY.out.2.2.1]; omega)
            rw [HQ1.out] at hc
            refine hc.mono ?_; clear hc; rintro e w2 ⟨he, s2, f2⟩
            rw [HL.out] at he
            subst he
            have S2 := Lib.hid s2
            have F2 := Lib.hid f2
            clear s2 f2
            go_wp2_with fail
            go_ret
            obtain ⟨y1, y2, y3, y4, y5, y6, y7⟩ := HY.out
            have kd := down_kids HO.out (n := n) (k := k) (ys := ys) (.inl rfl) (fun _ _ => HB.out) (fun h => by omega)
            exact ⟨_, ys, rfl, S2.out, y2, y4, down_stop y6 (fun m m0 mn mk => HO.out.tran _ _ _ HL.out (kd m m0 mn mk)) rfl, (HH.out.trans _ _ _ (HH.out.trans _ _ _ y7 F1.out) F2.out)⟩
          | true =>
            have HL := Lib.hid hl
            clear hl
            go_wp2_with fail
            have hc := HH.out.less wr ys (2 * k + 2) (2 * k + 1) HY.out.1 (by rw [HY.out.2.2.1]; omega) (by rw [HY.out.2.2.1]; omega)
            rw [HQ2.out, HQ1.out] at hc
            refine hc.mono ?_; clear hc; rintro e w1 ⟨he, s1, f1⟩
            rw [HB.out] at he
            subst he
            have S1 := Lib.hid s1
            have F1 := Lib.hid f1
            clear s1 f1
            go_wp2_with fail
            have hc := HH.out.less w1 ys (2 * k + 1) (k) S1.out (by rw [HY.out.2.2.1]; omega) (by rw [HY.out.2.2.1]; omega)
            rw [HQ1.out] at hc
            refine hc.mono ?_; clear hc; rintro e w2 ⟨he, s2, f2⟩
            rw [HL.out] at he
            subst he
            have S2 := Lib.hid s2
            have F2 := Lib.hid f2
            clear s2 f2
            go_wp2_with fail
            have hc := HH.out.swap w2 ys k (2 * k + 1) S2.out (by rw [HY.out.2.2.1]; omega) (by rw [HY.out.2.2.1]; omega)
            rw [HQ1.out] at hc
            refine hc.mono ?_; clear hc; rintro e w3 ⟨rfl, s3, f3⟩
            have S3 := Lib.hid s3
            have F3 := Lib.hid f3
            clear s3 f3
            go_wp2_with fail
            go_roundw
            case rel =>
              obtain ⟨y1, y2, y3, y4, y5, y6, y7⟩ := HY.out
              have kd := down_kids HO.out (n := n) (k := k) (ys := ys) (.inl rfl) (fun _ _ => HB.out) (fun h => by omega)
              have dn := y5.step HO.out (by omega) (by omega) (by omega) (by omega) HL.out kd
              refine ⟨2 * k + 1, _, by rw [HQ1.out], by omega, Lib.hid ⟨S3.out, (swp_perm ys _ _ (by omega) (by omega)).trans y2, by rw [swp_length]; exact y3, fun m hm => ?_, dn.ex, .inr ⟨by rcases y6 with h | h <;> omega, dn⟩, HH.out.trans _ _ _ (HH.out.trans _ _ _ (HH.out.trans _ _ _ y7 F1.out) F2.out) F3.out⟩⟩
              rw [swp_getD _ _ _ _ (by omega) (by omega), if_neg (by omega), if_neg (by omega)]
              exact y4 m hm
            case measure => simp [intOf]; omega
      · have h2' : ¬ (2 * (k : Int) + 1 + 1) < n := by omega
        cases hl : lt (ys.getD (2 * k + 1) default) (ys.getD k default) with
        | false =>
          have HL := Lib.hid hl
          clear hl
          go_wp2_with fail
          have hc := HH.out.less wr ys (2 * k + 1) (k) HY.out.1 (by rw [HY.out.2.2.1]; omega) (by rw [HY.out.2.2.1]; omega)
          rw [HQ1.out] at hc
          refine hc.mono ?_; clear hc; rintro e w2 ⟨he, s2, f2⟩
          rw [HL.out] at he
          subst he
          have S2 := Lib.hid s2
          have F2 := Lib.hid f2
          clear s2 f2
          go_wp2_with fail
          go_ret
          obtain ⟨y1, y2, y3, y4, y5, y6, y7⟩ := HY.out
          have kd := down_kids HO.out (n := n) (k := k) (ys := ys) (.inl rfl) (fun _ h => absurd h h2) (fun h => by omega)
          exact ⟨_, ys, rfl, S2.out, y2, y4, down_stop y6 (fun m m0 mn mk => HO.out.tran _ _ _ HL.out (kd m m0 mn mk)) rfl, (HH.out.trans _ _ _ y7 F2.out)⟩
        | true =>
          have HL := Lib.hid hl
          clear hl
          go_wp2_with fail
          have hc := HH.out.less wr ys (2 * k + 1) (k) HY.out.1 (by rw [HY.out.2.2.1]; omega) (by rw [HY.out.2.2.1]; omega)
          rw [HQ1.out] at hc
          refine hc.mono ?_; clear hc; rintro e w2 ⟨he, s2, f2⟩
          rw [HL.out] at he
          subst he
          have S2 := Lib.hid s2
          have F2 := Lib.hid f2
          clear s2 f2
          go_wp2_with fail
          have hc := HH.out.swap w2 ys k (2 * k + 1) S2.out (by rw [HY.out.2.2.1]; omega) (by rw [HY.out.2.2.1]; omega)
          rw [HQ1.out] at hc
          refine hc.mono ?_; clear hc; rintro e w3 ⟨rfl, s3, f3⟩
          have S3 := Lib.hid s3
          have F3 := Lib.hid f3
          clear s3 f3
          go_wp2_with fail
          go_roundw
          case rel =>
            obtain ⟨y1, y2, y3, y4, y5, y6, y7⟩ := HY.out
            have kd := down_kids HO.out (n := n) (k := k) (ys := ys) (.inl rfl) (fun _ h => absurd h h2) (fun h => by omega)
            have dn := y5.step HO.out (by omega) (by omega) (by omega) (by omega) HL.out kd
            refine ⟨2 * k + 1, _, by rw [HQ1.out], by omega, Lib.hid ⟨S3.out, (swp_perm ys _ _ (by omega) (by omega)).trans y2, by rw [swp_length]; exact y3, fun m hm => ?_, dn.ex, .inr ⟨by rcases y6 with h | h <;> omega, dn⟩, HH.out.trans _ _ _ (HH.out.trans _ _ _ y7 F2.out) F3.out⟩⟩
            rw [swp_getD _ _ _ _ (by omega) (by omega), if_neg (by omega), if_neg (by omega)]
            exact y4 m hm
          case measure => simp [intOf]; omega
end
end Go.Proofs.YthdjbflbhgbckaaDoor

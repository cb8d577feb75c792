/-
  OrderWithin: the walk.
-/
import Derived.Test.YtegpfhldbdegbaaDoorOAlive
set_option linter.unusedVariables false
namespace Go.Proofs.YtegpfhldbdegbaaDoor
open Go.RowKit

theorem wthK_mono (L : List Att) (S : List Nat) (a b : Int) (h : a ≤ b) : ∀ k, wthK L S a k ≤ wthK L S b k
  | 0 => Nat.le_refl _
  | k + 1 => by
    have ih := wthK_mono L S a b h k
    have hb := wthK_le L S a k
    unfold wthK
    split
    · rw [if_pos (by omega)]; exact Nat.le_refl _
    · split
      · omega
      · exact ih
theorem wthK_all (L : List Att) (S : List Nat) (b : Int) (h : ∀ j, (L.getD j default).en < b) : ∀ k, wthK L S b k = k
  | 0 => rfl
  | k + 1 => by unfold wthK; rw [if_pos (h _)]
theorem wth_le (L : List Att) (b : Int) : wth L b ≤ L.length := wthK_le _ _ _ _
theorem wth_mono (L : List Att) (a b : Int) (h : a ≤ b) : wth L a ≤ wth L b := wthK_mono _ _ _ _ h _
theorem wthK_all' (L : List Att) (S : List Nat) (b : Int) : ∀ k, (∀ j, j < k → (L.getD (S.getD j 0) default).en < b) → wthK L S b k = k
  | 0, _ => rfl
  | k + 1, h => by unfold wthK; rw [if_pos (h k (by omega))]
theorem wth_all (L : List Att) (b : Int) (h : ∀ j, j < L.length → (L.getD j default).en < b) : wth L b = L.length :=
  wthK_all' _ _ _ _ fun j hj => h _ (srt_lt L _ j hj)

set_option maxRecDepth 100000 in
set_option maxHeartbeats 2000000 in
theorem owithin_1 (A : Option Addr) (n c : Nat) (L : List Att) (a b : Int) (w : World) (hab : a < b) (hA : Atts w A L) (hn : L.length = n) (hnm : n ≤ 60) (hg : Typed w) :
    Calls Tryd.prog 7 #[.slice A n c, .int .i64 a, .int .i64 b] w fun e w' => e = .returned (.bool true) ∧ Upd [] w w' := by
  have HG := Lib.hid hg
  have HN := Lib.hid hn
  have HA := Lib.hid hA
  have hlo := wth_mono L a b (by omega)
  have hle : wth L b ≤ n := hn ▸ wth_le L b
  have HAL : Hid ((∀ j, j < n → (L.getD j default).en < b) → wth L b = n) := Lib.hid (fun h => by rw [← hn] at h ⊢; exact wth_all L b h)
  obtain ⟨x, hx⟩ : ∃ x, wth L a = x := ⟨_, rfl⟩
  obtain ⟨y, hy⟩ : ∃ y, wth L b = y := ⟨_, rfl⟩
  have HX := Lib.hid hx
  have HY := Lib.hid hy
  have hlo2 : x ≤ y := by rw [← hx, ← hy]; exact hlo
  rw [hy] at hle HAL
  clear hg hA hn hx hy hlo
  go_enter Tryd.func7, Tryd.ntmps7
  go_wp2_with fail
  refine (within_ok A n c L _ _ HA.out HN.out (by omega)).mono ?_; rintro e w1 ⟨rfl, u1⟩
  rw [HX.out]
  have U1 := Lib.hid u1
  clear u1
  go_wp2_with fail
  refine (within_ok A n c L _ _ (HA.out.upd U1.out) HN.out (by omega)).mono ?_; rintro e w2 ⟨rfl, u2⟩
  rw [HY.out]
  have U2 := Lib.hid (U1.out.trans u2)
  clear u2
  go_wp2_with fail
  go_loopw [9, 27] (fun u i wr => ∃ (k : Nat) (m : Int), i = .int .i64 k ∧ k ≤ n ∧ u = .int .i64 m ∧ Hid (∀ j, j < k → (L.getD j default).en ≤ m) ∧ Hid (Upd [] w2 wr)) (fun _ i _ => n - (intOf i).toNat)
  case atStart => exact ⟨0, 0, rfl, by omega, rfl, Lib.hid (by intro j hj; omega), Lib.hid (.refl _ _)⟩
  case round =>
    obtain ⟨k, m, rfl, hk, rfl, HM, HU⟩ := hrel
    by_cases hlt : k < n
    · obtain ⟨ad, rfl, f1⟩ := ((HA.out.upd U2.out).upd HU.out).en k (by rw [HN.out]; exact hlt)
      obtain ⟨z, hz⟩ : ∃ z, (L.getD k default).en = z := ⟨_, rfl⟩
      rw [hz] at f1
      have HZ := Lib.hid hz
      clear hz
      by_cases h0 : k = 0
      · have e0 : ((k : Int) == 0) = true := by simpa using h0
        have h0' : k ≤ 0 := by omega
        clear h0
        go_wp2_with fail
        go_roundw
        case rel => exact ⟨k + 1, z, by go_num, by omega, rfl, Lib.hid (below_succ (fun j hj => by omega) (by rw [HZ.out]; exact Int.le_refl _)), HU⟩
        case measure => simp [intOf]; omega
      · have e0 : ((k : Int) == 0) = false := by
          have : ¬ (k : Int) = 0 := by omega
          simpa using this
        by_cases hm : m < z
        · go_wp2_with fail
          go_roundw
          case rel => exact ⟨k + 1, z, by go_num, by omega, rfl, Lib.hid (below_succ (fun j hj => by have := HM.out j hj; omega) (by rw [HZ.out]; exact Int.le_refl _)), HU⟩
          case measure => simp [intOf]; omega
        · go_wp2_with fail
          go_roundw
          case rel => exact ⟨k + 1, m, by go_num, by omega, rfl, Lib.hid (below_succ HM.out (by rw [HZ.out]; omega)), HU⟩
          case measure => simp [intOf]; omega
    · obtain rfl : n = k := by omega
      by_cases hl : m < b
      · obtain rfl : n = y := (HAL.out (fun j hj => by have := HM.out j hj; omega)).symm
        go_wp2_with fail
        refine (alive_ok _ (HG.out.upd (U2.out.trans HU.out) (by simp))).mono ?_; rintro e w6 ⟨rfl, u6⟩
        go_wp2_with fail
        go_ret
        exact ⟨rfl, (U2.out.trans HU.out).trans u6⟩
      · go_wp2_with fail
        refine (alive_ok _ (HG.out.upd (U2.out.trans HU.out) (by simp))).mono ?_; rintro e w6 ⟨rfl, u6⟩
        go_wp2_with fail
        go_ret
        exact ⟨rfl, (U2.out.trans HU.out).trans u6⟩
set_option maxRecDepth 100000 in
set_option maxHeartbeats 2000000 in
theorem owithin_2 (A : Option Addr) (n c : Nat) (L : List Att) (a b : Int) (w : World) (hab : b < a) (hA : Atts w A L) (hn : L.length = n) (hnm : n ≤ 60) (hg : Typed w) :
    Calls Tryd.prog 7 #[.slice A n c, .int .i64 a, .int .i64 b] w fun e w' => e = .returned (.bool true) ∧ Upd [] w w' := by
  have HG := Lib.hid hg
  have HN := Lib.hid hn
  have HA := Lib.hid hA
  have hlo := wth_mono L b a (by omega)
  have hle : wth L a ≤ n := hn ▸ wth_le L a
  have HAL : Hid ((∀ j, j < n → (L.getD j default).en < a) → wth L a = n) := Lib.hid (fun h => by rw [← hn] at h ⊢; exact wth_all L a h)
  obtain ⟨x, hx⟩ : ∃ x, wth L b = x := ⟨_, rfl⟩
  obtain ⟨y, hy⟩ : ∃ y, wth L a = y := ⟨_, rfl⟩
  have HX := Lib.hid hx
  have HY := Lib.hid hy
  have hlo2 : x ≤ y := by rw [← hx, ← hy]; exact hlo
  rw [hy] at hle HAL
  clear hg hA hn hx hy hlo
  go_enter Tryd.func7, Tryd.ntmps7
  go_wp2_with fail
  refine (within_ok A n c L _ _ HA.out HN.out (by omega)).mono ?_; rintro e w1 ⟨rfl, u1⟩
  rw [HX.out]
  have U1 := Lib.hid u1
  clear u1
  go_wp2_with fail
  refine (within_ok A n c L _ _ (HA.out.upd U1.out) HN.out (by omega)).mono ?_; rintro e w2 ⟨rfl, u2⟩
  rw [HY.out]
  have U2 := Lib.hid (U1.out.trans u2)
  clear u2
  go_wp2_with fail
  go_loopw [9, 27] (fun u i wr => ∃ (k : Nat) (m : Int), i = .int .i64 k ∧ k ≤ n ∧ u = .int .i64 m ∧ Hid (∀ j, j < k → (L.getD j default).en ≤ m) ∧ Hid (Upd [] w2 wr)) (fun _ i _ => n - (intOf i).toNat)
  case atStart => exact ⟨0, 0, rfl, by omega, rfl, Lib.hid (by intro j hj; omega), Lib.hid (.refl _ _)⟩
  case round =>
    obtain ⟨k, m, rfl, hk, rfl, HM, HU⟩ := hrel
    by_cases hlt : k < n
    · obtain ⟨ad, rfl, f1⟩ := ((HA.out.upd U2.out).upd HU.out).en k (by rw [HN.out]; exact hlt)
      obtain ⟨z, hz⟩ : ∃ z, (L.getD k default).en = z := ⟨_, rfl⟩
      rw [hz] at f1
      have HZ := Lib.hid hz
      clear hz
      by_cases h0 : k = 0
      · have e0 : ((k : Int) == 0) = true := by simpa using h0
        have h0' : k ≤ 0 := by omega
        clear h0
        go_wp2_with fail
        go_roundw
        case rel => exact ⟨k + 1, z, by go_num, by omega, rfl, Lib.hid (below_succ (fun j hj => by omega) (by rw [HZ.out]; exact Int.le_refl _)), HU⟩
        case measure => simp [intOf]; omega
      · have e0 : ((k : Int) == 0) = false := by
          have : ¬ (k : Int) = 0 := by omega
          simpa using this
        by_cases hm : m < z
        · go_wp2_with fail
          go_roundw
          case rel => exact ⟨k + 1, z, by go_num, by omega, rfl, Lib.hid (below_succ (fun j hj => by have := HM.out j hj; omega) (by rw [HZ.out]; exact Int.le_refl _)), HU⟩
          case measure => simp [intOf]; omega
        · go_wp2_with fail
          go_roundw
          case rel => exact ⟨k + 1, m, by go_num, by omega, rfl, Lib.hid (below_succ HM.out (by rw [HZ.out]; omega)), HU⟩
          case measure => simp [intOf]; omega
    · obtain rfl : n = k := by omega
      by_cases hl : m < a
      · obtain rfl : n = y := (HAL.out (fun j hj => by have := HM.out j hj; omega)).symm
        go_wp2_with fail
        refine (alive_ok _ (HG.out.upd (U2.out.trans HU.out) (by simp))).mono ?_; rintro e w6 ⟨rfl, u6⟩
        go_wp2_with fail
        go_ret
        exact ⟨rfl, (U2.out.trans HU.out).trans u6⟩
      · go_wp2_with fail
        refine (alive_ok _ (HG.out.upd (U2.out.trans HU.out) (by simp))).mono ?_; rintro e w6 ⟨rfl, u6⟩
        go_wp2_with fail
        go_ret
        exact ⟨rfl, (U2.out.trans HU.out).trans u6⟩
set_option maxRecDepth 100000 in
set_option maxHeartbeats 2000000 in
theorem owithin_3 (A : Option Addr) (n c : Nat) (L : List Att) (a : Int) (w : World) (hab : True) (hA : Atts w A L) (hn : L.length = n) (hnm : n ≤ 60) (hg : Typed w) :
    Calls Tryd.prog 7 #[.slice A n c, .int .i64 a, .int .i64 a] w fun e w' => e = .returned (.bool true) ∧ Upd [] w w' := by
  have HG := Lib.hid hg
  have HN := Lib.hid hn
  have HA := Lib.hid hA
  have hlo := wth_mono L a a (by omega)
  have hle : wth L a ≤ n := hn ▸ wth_le L a
  have HAL : Hid ((∀ j, j < n → (L.getD j default).en < a) → wth L a = n) := Lib.hid (fun h => by rw [← hn] at h ⊢; exact wth_all L a h)
  obtain ⟨x, hx⟩ : ∃ x, wth L a = x := ⟨_, rfl⟩
  obtain ⟨y, hy⟩ : ∃ y, wth L a = y := ⟨_, rfl⟩
  have HX := Lib.hid hx
  have HY := Lib.hid hy
  have hlo2 : x ≤ y := by rw [← hx, ← hy]; exact hlo
  rw [hy] at hle HAL
  clear hg hA hn hx hy hlo
  go_enter Tryd.func7, Tryd.ntmps7
  go_wp2_with fail
  refine (within_ok A n c L _ _ HA.out HN.out (by omega)).mono ?_; rintro e w1 ⟨rfl, u1⟩
  rw [HX.out]
  have U1 := Lib.hid u1
  clear u1
  go_wp2_with fail
  refine (within_ok A n c L _ _ (HA.out.upd U1.out) HN.out (by omega)).mono ?_; rintro e w2 ⟨rfl, u2⟩
  rw [HY.out]
  have U2 := Lib.hid (U1.out.trans u2)
  clear u2
  go_wp2_with fail
  go_loopw [9, 27] (fun u i wr => ∃ (k : Nat) (m : Int), i = .int .i64 k ∧ k ≤ n ∧ u = .int .i64 m ∧ Hid (∀ j, j < k → (L.getD j default).en ≤ m) ∧ Hid (Upd [] w2 wr)) (fun _ i _ => n - (intOf i).toNat)
  case atStart => exact ⟨0, 0, rfl, by omega, rfl, Lib.hid (by intro j hj; omega), Lib.hid (.refl _ _)⟩
  case round =>
    obtain ⟨k, m, rfl, hk, rfl, HM, HU⟩ := hrel
    by_cases hlt : k < n
    · obtain ⟨ad, rfl, f1⟩ := ((HA.out.upd U2.out).upd HU.out).en k (by rw [HN.out]; exact hlt)
      obtain ⟨z, hz⟩ : ∃ z, (L.getD k default).en = z := ⟨_, rfl⟩
      rw [hz] at f1
      have HZ := Lib.hid hz
      clear hz
      by_cases h0 : k = 0
      · have e0 : ((k : Int) == 0) = true := by simpa using h0
        have h0' : k ≤ 0 := by omega
        clear h0
        go_wp2_with fail
        go_roundw
        case rel => exact ⟨k + 1, z, by go_num, by omega, rfl, Lib.hid (below_succ (fun j hj => by omega) (by rw [HZ.out]; exact Int.le_refl _)), HU⟩
        case measure => simp [intOf]; omega
      · have e0 : ((k : Int) == 0) = false := by
          have : ¬ (k : Int) = 0 := by omega
          simpa using this
        by_cases hm : m < z
        · go_wp2_with fail
          go_roundw
          case rel => exact ⟨k + 1, z, by go_num, by omega, rfl, Lib.hid (below_succ (fun j hj => by have := HM.out j hj; omega) (by rw [HZ.out]; exact Int.le_refl _)), HU⟩
          case measure => simp [intOf]; omega
        · go_wp2_with fail
          go_roundw
          case rel => exact ⟨k + 1, m, by go_num, by omega, rfl, Lib.hid (below_succ HM.out (by rw [HZ.out]; omega)), HU⟩
          case measure => simp [intOf]; omega
    · obtain rfl : n = k := by omega
      by_cases hl : m < a
      · obtain rfl : n = y := (HAL.out (fun j hj => by have := HM.out j hj; omega)).symm
        go_wp2_with fail
        refine (alive_ok _ (HG.out.upd (U2.out.trans HU.out) (by simp))).mono ?_; rintro e w6 ⟨rfl, u6⟩
        go_wp2_with fail
        go_ret
        exact ⟨rfl, (U2.out.trans HU.out).trans u6⟩
      · go_wp2_with fail
        refine (alive_ok _ (HG.out.upd (U2.out.trans HU.out) (by simp))).mono ?_; rintro e w6 ⟨rfl, u6⟩
        go_wp2_with fail
        go_ret
        exact ⟨rfl, (U2.out.trans HU.out).trans u6⟩
theorem law_owithin (A : Option Addr) (n c : Nat) (L : List Att) (a b : Int) (w : World) (hA : Atts w A L) (hn : L.length = n) (hc : n ≤ c) (hcm : c ≤ 9223372036854775807) (hg : Typed w) :
    Calls Tryd.prog 7 #[.slice A n c, .int .i64 a, .int .i64 b] w fun e w' => e = .returned (.bool true) ∧ Upd [] w w' := by
  by_cases h60 : 60 < n
  · have HG := Lib.hid hg
    clear hg hA hn
    have hnm : n ≤ 9223372036854775807 := by omega
    go_enter Tryd.func7, Tryd.ntmps7
    go_wp2_with fail
    refine (alive_ok _ HG.out).mono ?_; rintro e w1 ⟨rfl, u1⟩
    go_wp2_with fail
    go_ret
    exact ⟨rfl, u1⟩
  · by_cases hab : a ≤ b
    · by_cases hba : a = b
      · subst hba
        exact owithin_3 A n c L a w trivial hA hn (by omega) hg
      · exact owithin_1 A n c L a b w (by omega) hA hn (by omega) hg
    · exact owithin_2 A n c L a b w (by omega) hA hn (by omega) hg
end Go.Proofs.YtegpfhldbdegbaaDoor

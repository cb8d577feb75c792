/-
  concordref12.Sort: the places, sorted.
-/
import Derived.Test.YtegpfhldbdegbaaDoorRAhead
import Derived.Test.YtegpfhldbdegbaaDoorApp
import Derived.Deep.RegionHeld3
import Derived.Deep.DrawnRows
set_option linter.unusedVariables false
namespace Go.Proofs.YtegpfhldbdegbaaDoor
open Go.RowKit
attribute [local go_sem ↓] Go.wp_at_zero Go.wp_at_succ

theorem int_elem : Elem Tryd.prog 24 3 1 8 := .mk' Tryd.underlying24 int_info rfl (by omega)
theorem ints_one (xs : List Nat) : ∀ u ∈ ints xs, u.oneCell' = true := by
  intro u hu
  simp only [ints, List.mem_map] at hu
  obtain ⟨x, _, rfl⟩ := hu
  rfl

set_option maxRecDepth 100000 in
set_option maxHeartbeats 2000000 in
theorem rsort_ok (A : Option Addr) (n c : Nat) (L : List Att) (w : World) (hA : Atts w A L) (hn : L.length = n) (h60 : n ≤ 100) :
    Calls Tryd.prog 12 #[.slice A n c] w fun e w' => ∃ v, e = .returned v ∧ w'.ownsRow w.heap.size 3 1 v n (ints (srt (ahd L) (List.range n))) ∧ Upd [] w w' := by
  have HN := Lib.hid hn
  have HA := Lib.hid hA
  clear hn hA
  go_enter Tryd.func12, Tryd.ntmps12
  go_wp2_with fail
  go_loopw [3, 4] (fun u i wr => ∃ (k : Nat), i = .int .i64 k ∧ k ≤ n ∧ Hid (wr.ownsRow w.heap.size 3 1 u k (ints (srt (ahd L) (List.range k)))) ∧ Hid (Upd [] w wr)) (fun _ i _ => n - (intOf i).toNat)
  case atStart => exact ⟨0, rfl, by omega, Lib.hid (own_nil _ _ _ _), Lib.hid (.refl _ _)⟩
  case round =>
    obtain ⟨i, rfl, hi, HO, HU⟩ := hrel
    by_cases hlt : i < n
    · obtain ⟨S, hS⟩ : ∃ S, srt (ahd L) (List.range i) = S := ⟨_, rfl⟩
      have hl : S.length = i := by rw [← hS, (srt_perm _).length_eq, List.length_range]
      have hr : ∀ x ∈ S, x < i := fun x hx => by rw [← hS] at hx; simpa using (srt_perm _).mem_iff.1 hx
      have HO' := Lib.hid (hS ▸ HO.out)
      have HL := Lib.hid hl
      have HR := Lib.hid hr
      have HS := Lib.hid hS
      obtain ⟨A1, c1, rfl, hc1, hc2⟩ := own_slice HO.out
      unfold maxLen at hc2
      clear hl hr hS HO
      go_wp2_with fail
      obtain ⟨wo, hwo⟩ : ∃ wo : World, wo = wr := ⟨_, rfl⟩
      subst hwo
      go_loopw [5] (fun u ws => ∃ (k : Nat), u = .int .i64 k ∧ k ≤ i ∧ Hid (Upd [] wo ws) ∧ Hid (∀ j, j < k → ahd L (S.getD j default) i = true)) (fun u _ => i - (intOf u).toNat)
      case atStart => exact ⟨0, rfl, by omega, Lib.hid (.refl _ _), Lib.hid (by intro j hj; omega)⟩
      case round =>
        obtain ⟨k, rfl, hk, KU, KA⟩ := hrel
        have hk0 : (0 : Int) ≤ k := by omega
        have hk1 : (k : Int) ≤ i := by omega
        have hk2 : (i : Int) ≤ c1 := by omega
        have hk3 : (k : Int) ≤ c1 := by omega
        by_cases hki : k < i
        · have KO := Lib.hid (own_upd0 HO'.out KU.out)
          obtain ⟨x, hx⟩ : ∃ x, S.getD k default = x := ⟨_, rfl⟩
          have hxi : x < i := by rw [← hx, List.getD_eq_getElem?_getD, List.getElem?_eq_getElem (by rw [HL.out]; exact hki)]; exact HR.out _ (List.getElem_mem ..)
          have f1 : ∃ g, A1 = some ⟨g, 0, none⟩ ∧ wr.cell? ⟨g, k, none⟩ = some (.int .i64 x) := by
            obtain ⟨g, c', cur, he, _⟩ := own_form KO.out (by omega)
            injection he with he _ he2
            subst he he2
            exact ⟨g, rfl, hx ▸ own_cell KO.out k _ (ints_get S k (by rw [HL.out]; exact hki))⟩
          have HX := Lib.hid hx
          clear hx
          obtain ⟨g, hg, f1⟩ := f1
          subst hg
          go_wp2_with fail
          refine (rahead_at A n c L _ (HA.out.upd (HU.out.trans KU.out)) HN.out x i (by omega) (by omega)).mono ?_; rintro e w1 ⟨rfl, u1⟩
          have U1 := Lib.hid (KU.out.trans u1)
          clear u1 f1
          cases hb : ahd L x i with
          | true =>
            go_wp2_with fail
            go_roundw
            case rel =>
              refine ⟨k + 1, by go_num, by omega, U1, Lib.hid ?_⟩
              intro j hj
              rcases Nat.lt_or_eq_of_le (Nat.le_of_lt_succ hj) with h | h
              · exact KA.out j h
              · rw [h, HX.out]; exact hb
            case measure => simp [intOf]; omega
          | false =>
            have HB : Hid (S.length = k ∨ ahd L (S.getD k default) i = false) := Lib.hid (.inr (by rw [HX.out]; exact hb))
            clear HX hb KU KO hxi
            go_wp2_with fail
            generalize (some (⟨g, 0, none⟩ : Addr)) = A1 at *
            have hz1 : w.heap.size ≤ w1.heap.size := (HU.out.trans U1.out).size
            have hz2 : wo.heap.size ≤ w1.heap.size := U1.out.size
            have I1 := Lib.hid (show ∀ u ∈ ints (S.take k), u.oneCell' = true from ints_one _)
            have I2 := Lib.hid (show ∀ u ∈ ints (S.drop k), u.oneCell' = true from ints_one _)
            have I3 := Lib.hid (show ∀ u ∈ (#[Value.int .i64 i] : Array Value).toList, u.oneCell' = true from fun u hu => by simp only [List.mem_singleton] at hu; subst hu; rfl)
            have FS1 : Hid (∀ W, Upd [] wo W → Src W 1 (.slice A1 k c1) k (ints (S.take k))) := Lib.hid fun W hu => by
              have := (Src.of_own (own_upd0 HO'.out hu)).take k hk c1
              rwa [Nat.mul_one, ← ints_take] at this
            have FS2 : Hid (∀ W, Upd [] wo W → Src W 1 (.slice (if c1 = k then A1 else Option.map (fun x => x.add k) A1) (i - k) (c1 - k)) (i - k) (ints (S.drop k))) := Lib.hid fun W hu => by
              have := (Src.of_own (own_upd0 HO'.out hu)).drop k hk hc1 (c1 - k)
              rw [Nat.mul_one] at this
              have hd : (ints S).drop k = ints (S.drop k) := by simp [ints]
              rwa [hd] at this
            have NO1 := HO'
            go_region_held3 (fun _ => True) (trivial) (first
              | ((refine step_app (o := ⟨some 31, _, _, _, _, _⟩) (w1.drew.alloc (.cells #[] 3)) (by rfl) (.tmp 27) (.tmp 30) _ (by rfl) int_elem _ _ (by rfl) (by rfl) (own_made (B := w.heap.size) 1 (Blk.new _ _ _) (by first | exact hz1 | omega)) (FS1.out _ (U1.out.drew.alloc _)) I1.out (by simp only [maxLen]; omega) (by omega) (by simp; omega) ?_; intro v1 w2 o1 u1 b1
                  have U2 : Hid (Upd [] wo w2) := Lib.hid ((U1.out.drew.alloc _).trans' u1 (by intro x hx; simp [Value.ownBlock] at hx; subst hx; right; first | exact hz2 | omega))
                  have N1 : Hid (∀ b, v1.ownBlock = some b → wo.heap.size ≤ b) := Lib.hid (by intro b hb; rcases b1 with h | h <;> rw [hb] at h <;> simp [Value.ownBlock] at h <;> omega)
                  have s2 : w.heap.size ≤ w2.heap.size := by have := U2.out.size; have := HU.out.size; omega
                  have t2 : wo.heap.size ≤ w2.heap.size := U2.out.size
                  have O1 := Lib.hid o1
                  clear o1 u1 b1))
              | ((refine step_app (o := ⟨some 31, _, _, _, _, _⟩) ((w1.drew.alloc (.cells #[] 3)).alloc (.cells #[.int .i64 i] 3)) (by rfl) (.tmp 27) (.tmp 30) _ (by rfl) int_elem _ _ (by rfl) (by rfl) (own_made (B := w.heap.size) 1 ((Blk.new w1.drew _ _).alloc _) (by first | exact hz1 | omega)) (FS1.out _ ((U1.out.drew.alloc _).alloc _)) I1.out (by simp only [maxLen]; omega) (by omega) (by simp; omega) ?_; intro v1 w2 o1 u1 b1
                  have U2 : Hid (Upd [] wo w2) := Lib.hid (((U1.out.drew.alloc _).alloc _).trans' u1 (by intro x hx; simp [Value.ownBlock] at hx; subst hx; right; first | exact hz2 | omega))
                  have N1 : Hid (∀ b, v1.ownBlock = some b → wo.heap.size ≤ b) := Lib.hid (by intro b hb; rcases b1 with h | h <;> rw [hb] at h <;> simp [Value.ownBlock] at h <;> omega)
                  have s2 : w.heap.size ≤ w2.heap.size := by have := U2.out.size; have := HU.out.size; omega
                  have t2 : wo.heap.size ≤ w2.heap.size := U2.out.size
                  have B33 : Hid (Blk w2 (w1.heap.size + 1) 3 #[.int .i64 i]) := Lib.hid ((show Blk ((w1.drew.alloc (.cells #[] 3)).alloc (.cells #[.int .i64 i] 3)) (w1.heap.size + 1) 3 #[.int .i64 i] by have := Blk.new (w1.drew.alloc (.cells #[] 3)) 3 #[.int .i64 i]; simpa using this).upd u1 (by simp [Value.ownBlock]))
                  have O1 := Lib.hid o1
                  clear o1 u1 b1))
              | ((refine step_app (o := ⟨some 31, _, _, _, _, _⟩) ((w1.drew.alloc (.cells #[.int .i64 i] 3)).alloc (.cells #[] 3)) (by rfl) (.tmp 27) (.tmp 30) _ (by rfl) int_elem _ _ (by rfl) (by rfl) (own_made (B := w.heap.size) 1 (show Blk ((w1.drew.alloc (.cells #[.int .i64 i] 3)).alloc (.cells #[] 3)) (w1.heap.size + 1) 3 #[] by have := Blk.new (w1.drew.alloc (.cells #[.int .i64 i] 3)) 3 #[]; simpa using this) (by first | exact hz1 | omega)) (FS1.out _ ((U1.out.drew.alloc _).alloc _)) I1.out (by simp only [maxLen]; omega) (by omega) (by simp; omega) ?_; intro v1 w2 o1 u1 b1
                  have U2 : Hid (Upd [] wo w2) := Lib.hid (((U1.out.drew.alloc _).alloc _).trans' u1 (by intro x hx; simp [Value.ownBlock] at hx; subst hx; right; first | exact hz2 | omega))
                  have N1 : Hid (∀ b, v1.ownBlock = some b → wo.heap.size ≤ b) := Lib.hid (by intro b hb; rcases b1 with h | h <;> rw [hb] at h <;> simp [Value.ownBlock] at h <;> omega)
                  have s2 : w.heap.size ≤ w2.heap.size := by have := U2.out.size; have := HU.out.size; omega
                  have t2 : wo.heap.size ≤ w2.heap.size := U2.out.size
                  have B33 : Hid (Blk w2 w1.heap.size 3 #[.int .i64 i]) := Lib.hid (((Blk.new w1.drew 3 #[.int .i64 i]).alloc _).upd u1 (by simp [Value.ownBlock]))
                  have O1 := Lib.hid o1
                  clear o1 u1 b1))
              | ((refine step_app (o := ⟨some 34, _, _, _, _, _⟩) (w2.alloc (.cells #[.int .i64 i] 3)) (by rfl) (.tmp 31) (.tmp 33) _ (by rfl) int_elem v1 _ (by rfl) (by rfl) (own_upd0 O1.out ((Upd.refl [] w2).alloc _)) (.of_blk (Blk.new w2 3 #[.int .i64 i]) (m := 1) 1 rfl) I3.out (by simp only [maxLen]; omega) (by omega) (by first | exact s2 | (simp; omega)) ?_; intro v2 w3 o2 u2 b2
                  have U3 : Hid (Upd [] wo w3) := Lib.hid ((U2.out.alloc _).trans' u2 (by intro x hx; simp only [Option.mem_toList] at hx; exact .inr (N1.out _ hx)))
                  have N2 : Hid (∀ b, v2.ownBlock = some b → wo.heap.size ≤ b) := Lib.hid (by
                    intro b hb
                    rcases b2 with h | h
                    · exact N1.out _ (h ▸ hb)
                    · rw [hb] at h; simp at h; omega)
                  have s3 : w.heap.size ≤ w3.heap.size := by have := U3.out.size; have := HU.out.size; omega
                  have t3 : wo.heap.size ≤ w3.heap.size := U3.out.size
                  have O2 := Lib.hid o2
                  clear o2 u2 b2))
              | ((refine step_app (o := ⟨some 34, _, _, _, _, _⟩) (w2) (by rfl) (.tmp 31) (.tmp 33) _ (by rfl) int_elem v1 _ (by rfl) (by rfl) (O1.out) (.of_blk B33.out (m := 1) 1 rfl) I3.out (by simp only [maxLen]; omega) (by omega) (by first | exact s2 | (simp; omega)) ?_; intro v2 w3 o2 u2 b2
                  have U3 : Hid (Upd [] wo w3) := Lib.hid ((U2.out).trans' u2 (by intro x hx; simp only [Option.mem_toList] at hx; exact .inr (N1.out _ hx)))
                  have N2 : Hid (∀ b, v2.ownBlock = some b → wo.heap.size ≤ b) := Lib.hid (by
                    intro b hb
                    rcases b2 with h | h
                    · exact N1.out _ (h ▸ hb)
                    · rw [hb] at h; simp at h; omega)
                  have s3 : w.heap.size ≤ w3.heap.size := by have := U3.out.size; have := HU.out.size; omega
                  have t3 : wo.heap.size ≤ w3.heap.size := U3.out.size
                  have O2 := Lib.hid o2
                  clear o2 u2 b2))
              | ((refine step_app (o := ⟨some 38, _, _, _, _, _⟩) w3 (by rfl) (.tmp 34) (.tmp 37) _ (by rfl) int_elem v2 _ (by rfl) (by rfl) O2.out (FS2.out _ U3.out) I2.out (by simp only [maxLen]; omega) (by omega) s3 ?_; intro v3 w4 o3 u3 b3
                  have U4 : Hid (Upd [] wo w4) := Lib.hid (U3.out.trans' u3 (by intro x hx; simp only [Option.mem_toList] at hx; exact .inr (N2.out _ hx)))
                  have O3 := Lib.hid o3
                  clear o3 u3 b3)))
            all_goals
              go_wp2_with fail
              go_roundw
              case rel =>
                have hm : 0 + k + 1 + (i - k) = i + 1 := by omega
                have hl : srt (ahd L) (List.range (i + 1)) = S.take k ++ i :: S.drop k := by
                  rw [List.range_succ, srt_snoc, HS.out]
                  exact insO_at S i k (by rw [HL.out]; exact hk) KA.out HB.out
                have o := O3.out
                rw [hm] at o
                refine ⟨i + 1, by go_num, by omega, Lib.hid ?_, Lib.hid (HU.out.trans U4.out)⟩
                rw [hl]
                simpa [ints] using o
              case measure => simp [intOf]; omega
        · have HB : Hid (S.length = k ∨ ahd L (S.getD k default) i = false) := Lib.hid (.inl (by rw [HL.out]; omega))
          have U1 := KU
          obtain ⟨w1, rfl⟩ : ∃ w1 : World, w1 = wr := ⟨_, rfl⟩
          go_wp2_with fail
          clear KU
          have hz1 : w.heap.size ≤ w1.heap.size := (HU.out.trans U1.out).size
          have hz2 : wo.heap.size ≤ w1.heap.size := U1.out.size
          have I1 := Lib.hid (show ∀ u ∈ ints (S.take k), u.oneCell' = true from ints_one _)
          have I2 := Lib.hid (show ∀ u ∈ ints (S.drop k), u.oneCell' = true from ints_one _)
          have I3 := Lib.hid (show ∀ u ∈ (#[Value.int .i64 i] : Array Value).toList, u.oneCell' = true from fun u hu => by simp only [List.mem_singleton] at hu; subst hu; rfl)
          have FS1 : Hid (∀ W, Upd [] wo W → Src W 1 (.slice A1 k c1) k (ints (S.take k))) := Lib.hid fun W hu => by
            have := (Src.of_own (own_upd0 HO'.out hu)).take k hk c1
            rwa [Nat.mul_one, ← ints_take] at this
          have FS2 : Hid (∀ W, Upd [] wo W → Src W 1 (.slice (if c1 = k then A1 else Option.map (fun x => x.add k) A1) (i - k) (c1 - k)) (i - k) (ints (S.drop k))) := Lib.hid fun W hu => by
            have := (Src.of_own (own_upd0 HO'.out hu)).drop k hk hc1 (c1 - k)
            rw [Nat.mul_one] at this
            have hd : (ints S).drop k = ints (S.drop k) := by simp [ints]
            rwa [hd] at this
          have NO1 := HO'
          go_region_held3 (fun _ => True) (trivial) (first
            | ((refine step_app (o := ⟨some 31, _, _, _, _, _⟩) (w1.drew.alloc (.cells #[] 3)) (by rfl) (.tmp 27) (.tmp 30) _ (by rfl) int_elem _ _ (by rfl) (by rfl) (own_made (B := w.heap.size) 1 (Blk.new _ _ _) (by first | exact hz1 | omega)) (FS1.out _ (U1.out.drew.alloc _)) I1.out (by simp only [maxLen]; omega) (by omega) (by simp; omega) ?_; intro v1 w2 o1 u1 b1
                have U2 : Hid (Upd [] wo w2) := Lib.hid ((U1.out.drew.alloc _).trans' u1 (by intro x hx; simp [Value.ownBlock] at hx; subst hx; right; first | exact hz2 | omega))
                have N1 : Hid (∀ b, v1.ownBlock = some b → wo.heap.size ≤ b) := Lib.hid (by intro b hb; rcases b1 with h | h <;> rw [hb] at h <;> simp [Value.ownBlock] at h <;> omega)
                have s2 : w.heap.size ≤ w2.heap.size := by have := U2.out.size; have := HU.out.size; omega
                have t2 : wo.heap.size ≤ w2.heap.size := U2.out.size
                have O1 := Lib.hid o1
                clear o1 u1 b1))
            | ((refine step_app (o := ⟨some 31, _, _, _, _, _⟩) ((w1.drew.alloc (.cells #[] 3)).alloc (.cells #[.int .i64 i] 3)) (by rfl) (.tmp 27) (.tmp 30) _ (by rfl) int_elem _ _ (by rfl) (by rfl) (own_made (B := w.heap.size) 1 ((Blk.new w1.drew _ _).alloc _) (by first | exact hz1 | omega)) (FS1.out _ ((U1.out.drew.alloc _).alloc _)) I1.out (by simp only [maxLen]; omega) (by omega) (by simp; omega) ?_; intro v1 w2 o1 u1 b1
                have U2 : Hid (Upd [] wo w2) := Lib.hid (((U1.out.drew.alloc _).alloc _).trans' u1 (by intro x hx; simp [Value.ownBlock] at hx; subst hx; right; first | exact hz2 | omega))
                have N1 : Hid (∀ b, v1.ownBlock = some b → wo.heap.size ≤ b) := Lib.hid (by intro b hb; rcases b1 with h | h <;> rw [hb] at h <;> simp [Value.ownBlock] at h <;> omega)
                have s2 : w.heap.size ≤ w2.heap.size := by have := U2.out.size; have := HU.out.size; omega
                have t2 : wo.heap.size ≤ w2.heap.size := U2.out.size
                have B33 : Hid (Blk w2 (w1.heap.size + 1) 3 #[.int .i64 i]) := Lib.hid ((show Blk ((w1.drew.alloc (.cells #[] 3)).alloc (.cells #[.int .i64 i] 3)) (w1.heap.size + 1) 3 #[.int .i64 i] by have := Blk.new (w1.drew.alloc (.cells #[] 3)) 3 #[.int .i64 i]; simpa using this).upd u1 (by simp [Value.ownBlock]))
                have O1 := Lib.hid o1
                clear o1 u1 b1))
            | ((refine step_app (o := ⟨some 31, _, _, _, _, _⟩) ((w1.drew.alloc (.cells #[.int .i64 i] 3)).alloc (.cells #[] 3)) (by rfl) (.tmp 27) (.tmp 30) _ (by rfl) int_elem _ _ (by rfl) (by rfl) (own_made (B := w.heap.size) 1 (show Blk ((w1.drew.alloc (.cells #[.int .i64 i] 3)).alloc (.cells #[] 3)) (w1.heap.size + 1) 3 #[] by have := Blk.new (w1.drew.alloc (.cells #[.int .i64 i] 3)) 3 #[]; simpa using this) (by first | exact hz1 | omega)) (FS1.out _ ((U1.out.drew.alloc _).alloc _)) I1.out (by simp only [maxLen]; omega) (by omega) (by simp; omega) ?_; intro v1 w2 o1 u1 b1
                have U2 : Hid (Upd [] wo w2) := Lib.hid (((U1.out.drew.alloc _).alloc _).trans' u1 (by intro x hx; simp [Value.ownBlock] at hx; subst hx; right; first | exact hz2 | omega))
                have N1 : Hid (∀ b, v1.ownBlock = some b → wo.heap.size ≤ b) := Lib.hid (by intro b hb; rcases b1 with h | h <;> rw [hb] at h <;> simp [Value.ownBlock] at h <;> omega)
                have s2 : w.heap.size ≤ w2.heap.size := by have := U2.out.size; have := HU.out.size; omega
                have t2 : wo.heap.size ≤ w2.heap.size := U2.out.size
                have B33 : Hid (Blk w2 w1.heap.size 3 #[.int .i64 i]) := Lib.hid (((Blk.new w1.drew 3 #[.int .i64 i]).alloc _).upd u1 (by simp [Value.ownBlock]))
                have O1 := Lib.hid o1
                clear o1 u1 b1))
            | ((refine step_app (o := ⟨some 34, _, _, _, _, _⟩) (w2.alloc (.cells #[.int .i64 i] 3)) (by rfl) (.tmp 31) (.tmp 33) _ (by rfl) int_elem v1 _ (by rfl) (by rfl) (own_upd0 O1.out ((Upd.refl [] w2).alloc _)) (.of_blk (Blk.new w2 3 #[.int .i64 i]) (m := 1) 1 rfl) I3.out (by simp only [maxLen]; omega) (by omega) (by first | exact s2 | (simp; omega)) ?_; intro v2 w3 o2 u2 b2
                have U3 : Hid (Upd [] wo w3) := Lib.hid ((U2.out.alloc _).trans' u2 (by intro x hx; simp only [Option.mem_toList] at hx; exact .inr (N1.out _ hx)))
                have N2 : Hid (∀ b, v2.ownBlock = some b → wo.heap.size ≤ b) := Lib.hid (by
                  intro b hb
                  rcases b2 with h | h
                  · exact N1.out _ (h ▸ hb)
                  · rw [hb] at h; simp at h; omega)
                have s3 : w.heap.size ≤ w3.heap.size := by have := U3.out.size; have := HU.out.size; omega
                have t3 : wo.heap.size ≤ w3.heap.size := U3.out.size
                have O2 := Lib.hid o2
                clear o2 u2 b2))
            | ((refine step_app (o := ⟨some 34, _, _, _, _, _⟩) (w2) (by rfl) (.tmp 31) (.tmp 33) _ (by rfl) int_elem v1 _ (by rfl) (by rfl) (O1.out) (.of_blk B33.out (m := 1) 1 rfl) I3.out (by simp only [maxLen]; omega) (by omega) (by first | exact s2 | (simp; omega)) ?_; intro v2 w3 o2 u2 b2
                have U3 : Hid (Upd [] wo w3) := Lib.hid ((U2.out).trans' u2 (by intro x hx; simp only [Option.mem_toList] at hx; exact .inr (N1.out _ hx)))
                have N2 : Hid (∀ b, v2.ownBlock = some b → wo.heap.size ≤ b) := Lib.hid (by
                  intro b hb
                  rcases b2 with h | h
                  · exact N1.out _ (h ▸ hb)
                  · rw [hb] at h; simp at h; omega)
                have s3 : w.heap.size ≤ w3.heap.size := by have := U3.out.size; have := HU.out.size; omega
                have t3 : wo.heap.size ≤ w3.heap.size := U3.out.size
                have O2 := Lib.hid o2
                clear o2 u2 b2))
            | ((refine step_app (o := ⟨some 38, _, _, _, _, _⟩) w3 (by rfl) (.tmp 34) (.tmp 37) _ (by rfl) int_elem v2 _ (by rfl) (by rfl) O2.out (FS2.out _ U3.out) I2.out (by simp only [maxLen]; omega) (by omega) s3 ?_; intro v3 w4 o3 u3 b3
                have U4 : Hid (Upd [] wo w4) := Lib.hid (U3.out.trans' u3 (by intro x hx; simp only [Option.mem_toList] at hx; exact .inr (N2.out _ hx)))
                have O3 := Lib.hid o3
                clear o3 u3 b3)))
          all_goals
            go_wp2_with fail
            go_roundw
            case rel =>
              have hm : 0 + k + 1 + (i - k) = i + 1 := by omega
              have hl : srt (ahd L) (List.range (i + 1)) = S.take k ++ i :: S.drop k := by
                rw [List.range_succ, srt_snoc, HS.out]
                exact insO_at S i k (by rw [HL.out]; exact hk) KA.out HB.out
              have o := O3.out
              rw [hm] at o
              refine ⟨i + 1, by go_num, by omega, Lib.hid ?_, Lib.hid (HU.out.trans U4.out)⟩
              rw [hl]
              simpa [ints] using o
            case measure => simp [intOf]; omega
    · obtain rfl : n = i := by omega
      go_wp2_with fail
      go_ret
      exact ⟨_, rfl, HO.out, HU.out⟩
end Go.Proofs.YtegpfhldbdegbaaDoor

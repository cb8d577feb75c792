/-
  WordsLast, the walk.
-/
import Derived.Test.YtopgaemibfigbaaPlay
import Derived.Deep.QuietTactic
import Derived.BigQuiet
namespace Go.Proofs.Ytopgaemibfigbaa
open Go.RowKit

set_option maxHeartbeats 400000 in
theorem same_true (g1 g2 c1 c2 n : Nat) (ws : List Int) (w : World) (hn : ws.length = n) (h1 : Heads w g1 23 (ws.map (.int .u64))) (h2 : Heads w g2 23 (ws.map (.int .u64))) (hl : n ≤ 1000000) :
    Calls Try.prog 13 #[.slice (some ⟨g1, 0, none⟩) n c1, .slice (some ⟨g2, 0, none⟩) n c2] w fun e w' => e = .returned (.bool true) ∧ Upd [] w w' := by
  have HN := Lib.hid hn
  clear hn
  have H1 := Lib.hid h1
  have H2 := Lib.hid h2
  clear h1 h2
  go_enter Try.func13, Try.ntmps13
  go_wp2_with fail
  go_loopw [5] (fun v wr => ∃ k : Nat, k ≤ n ∧ v = .int .i64 k ∧ ∃ m, wr = w.drewN m) (fun v _ => n - (intOf v).toNat)
  case atStart => exact ⟨0, by omega, rfl, 0, rfl⟩
  case round =>
    obtain ⟨k, hk, rfl, m, rfl⟩ := hrel
    by_cases hlt : k < n
    · obtain ⟨x, hx⟩ : ∃ x, ws[k]? = some x := ⟨_, List.getElem?_eq_getElem (by have := HN.out; omega)⟩
      have f1 := H1.out.cell k (.int .u64 x) (by simp [hx])
      have f2 := H2.out.cell k (.int .u64 x) (by simp [hx])
      clear hx
      have i1 : 0 ≤ (k : Int) := by omega
      have i2 : (k : Int) < n := by omega
      go_wp2_with fail
      go_quiet (fail)
      go_wp2_with fail
      go_roundw
      case rel => exact ⟨k + 1, by omega, by go_num, _, rfl⟩
      case measure => simp [intOf]; omega
    · go_wp2_with fail
      go_ret
      exact ⟨rfl, (Upd.refl _ _).drewN _⟩

set_option maxHeartbeats 1000000 in
theorem law_last (A : Option Addr) (n c : Nat) (i x : Int) (w : World) (hl : Acts w A n) (hm : n ≤ 9223372036854775807) :
    Calls Try.prog 4 #[.slice A n c, .int .i64 i, .int .u64 x] w fun e w' => e = .returned (.bool true) ∧ Upd [] w w' := by
  go_enter Try.func4, Try.ntmps4
  go_wp2_with fail
  refine (play_any A n c w hl hm).mono ?_; rintro e w1 ⟨v, rfl, hp, u1⟩
  clear hl
  rcases hp with rfl | ⟨a, b, ws, cnt, rfl, hA, hws, hc0, hc1, ha, hb⟩
  · go_wp2_with fail
    refine (alive_ok _).mono ?_; rintro e w2 ⟨rfl, u2⟩
    go_wp2_with fail
    go_ret
    exact ⟨rfl, u1.trans u2⟩
  · have HW := Lib.hid hws
    go_wp2_with fail
    have HWO := words_ok a b ws cnt w1 hA (by omega)
    rw [hws] at HWO
    clear hws
    refine HWO.mono ?_; rintro e w2 ⟨g, c', rfl, hc', hg, hh, u2⟩
    clear HWO
    have hA2 := hA.upd u2 (by simp) (by simp)
    have hab := hA.lt
    clear hA
    by_cases hin : 0 ≤ i ∧ i < 8
    · obtain ⟨y, hy⟩ : ∃ y, ws[i.toNat]? = some y := ⟨_, List.getElem?_eq_getElem (by have := HW.out; omega)⟩
      have HY := Lib.hid hy
      clear hy
      have hset : (ws.set i.toNat x)[i.toNat]? = some x := by rw [List.getElem?_set]; have := HW.out; simp; omega
      have HS := Lib.hid hset
      clear hset
      go_wp2_with fail
      refine (store_ok a b ws cnt i x y _ hA2 (by omega) hin.1 HY.out).mono ?_; rintro e w3 ⟨rfl, hA3, u3⟩
      have hh3 := hh.upd u3 (by simp; omega)
      clear hA2 hh
      go_wp2_with fail
      refine (load_ok a b _ _ i x _ hA3 (by omega) hin.1 HS.out).mono ?_; rintro e w4 ⟨rfl, hA4, u4⟩
      have hh4 := hh3.upd u4 (by simp; omega)
      clear hA3 hh3
      have HWO := words_ok a b _ _ w4 hA4 (by have := HW.out; simp; omega)
      rw [List.length_set, HW.out] at HWO
      have H2 := Lib.hid HWO
      clear HWO
      go_wp2_with fail
      refine H2.out.mono ?_; rintro e w5 ⟨g2, c2, rfl, hc2, hg2, hh2, u5⟩
      have hh5 := hh4.upd u5 (by simp)
      clear hA4 hh4
      have G1 := Lib.hid hh5
      have G2 := Lib.hid hh2
      clear hh5 hh2
      go_wp2_with fail
      refine (no_nil _).mono ?_; rintro e w' ⟨rfl, rfl⟩
      go_wp2_with fail
      refine (no_nil _).mono ?_; rintro e w' ⟨rfl, rfl⟩
      go_wp2_with fail
      have u15 : Upd [] w w5 := (u1.trans u2).trans' ((u3.trans (u4.mono (by simp))).trans (u5.mono (by simp))) (by simp; omega)
      clear u1 u2 u3 u4 u5
      go_loopw [74] (fun v wr => ∃ k : Nat, k ≤ 8 ∧ v = .int .i64 k ∧ ∃ m, wr = w5.drewN m) (fun v _ => 8 - (intOf v).toNat)
      case atStart => exact ⟨0, by omega, rfl, 0, rfl⟩
      case round =>
        obtain ⟨k, hk, rfl, m, rfl⟩ := hrel
        by_cases hlt : k < 8
        · obtain ⟨z, hz⟩ : ∃ z, ws[k]? = some z := ⟨_, List.getElem?_eq_getElem (by have := HW.out; omega)⟩
          have i1 : 0 ≤ (k : Int) := by omega
          by_cases hki : (k : Int) = i
          · have hb : ((k : Int) != i) = false := by simp [hki]
            clear hki hz
            go_wp2_with fail
            go_quiet (fail)
            go_wp2_with fail
            go_roundw
            case rel => exact ⟨k + 1, by omega, by go_num, _, rfl⟩
            case measure => simp [intOf]; omega
          · have hb : ((k : Int) != i) = true := by simpa using hki
            have f1 := G1.out.cell k (.int .u64 z) (by simp [hz])
            have f2 := G2.out.cell k (.int .u64 z) (by rw [List.getElem?_map, List.getElem?_set, if_neg (by omega), hz]; rfl)
            clear hki hz
            go_wp2_with fail
            go_quiet (fail)
            go_wp2_with fail
            go_roundw
            case rel => exact ⟨k + 1, by omega, by go_num, _, rfl⟩
            case measure => simp [intOf]; omega
        · go_wp2_with fail
          refine (alive_ok _).mono ?_; rintro e w6 ⟨rfl, u6⟩
          go_wp2_with fail
          go_ret
          exact ⟨rfl, (u15.drewN _).trans u6⟩
    · go_wp2_with fail
      refine (store_out a b ws cnt i x _ hA2 (by have := HW.out; omega)).mono ?_; rintro e w3 ⟨v, rfl, ⟨gf, rfl, hgf, hbf⟩, u3⟩
      have hA3 := hA2.upd u3 (by simp) (by simp)
      have hh3 := hh.upd u3 (by simp)
      clear hA2 hh
      have fe : w3.cell? ⟨gf, 1, none⟩ = some (.int .i64 3) := by rw [hbf.cell]; rfl
      have ht : (decide (i < 0) || decide (8 ≤ i)) = true := by simp; omega
      have hi' : i < 0 ∨ 8 ≤ i := by omega
      have HWO := words_ok a b ws cnt w3 hA3 (by have := HW.out; omega)
      rw [HW.out] at HWO
      have H2 := Lib.hid HWO
      clear HWO
      rcases hi' with hi' | hi'
      all_goals
        go_wp2_with fail
        refine (no_fault gf 3 (by omega) (by omega) _ fe).mono ?_; rintro e w' ⟨rfl, rfl⟩
        go_wp2_with fail
        refine H2.out.mono ?_; rintro e w4 ⟨g2, c2, rfl, hc2, hg2, hh2, u4⟩
        go_wp2_with fail
        refine (same_true g2 g c2 c' 8 ws _ HW.out hh2 (hh3.upd u4 (by simp)) (by omega)).mono ?_; rintro e w5 ⟨rfl, u5⟩
        go_wp2_with fail
        refine (alive_ok _).mono ?_; rintro e w6 ⟨rfl, u6⟩
        go_wp2_with fail
        go_ret
        exact ⟨rfl, u1.trans (u2.trans (u3.trans (u4.trans (u5.trans u6))))⟩
end Go.Proofs.Ytopgaemibfigbaa

/-
  OrderSorts, OrderChecks: the walks.
-/
import Derived.Test.YtegpfhldbdegbaaDoorOAlive
import Derived.Deep.DrawnRows
import Derived.IntWalk
set_option linter.unusedVariables false
namespace Go.Proofs.YtegpfhldbdegbaaDoor
open Go.RowKit
attribute [local go_sem ↓] Go.wp_at_zero Go.wp_at_succ

theorem ints_int (xs : List Nat) : ints xs = (xs.map (fun x : Nat => (x : Int))).map (Value.int .i64) := by simp [ints]
theorem srt_ahd (L : List Att) (n k : Nat) (h : k + 1 < n) : ahd L ((srt (ahd L) (List.range n)).getD k 0) ((srt (ahd L) (List.range n)).getD (k + 1) 0) = true := by
  have hp := srt_pairwise (ahd_tot L) (List.range n) List.nodup_range
  have hl := srt_len L n
  rw [List.getD_eq_getElem?_getD, List.getD_eq_getElem?_getD, List.getElem?_eq_getElem (by omega), List.getElem?_eq_getElem (by omega)]
  exact List.pairwise_iff_getElem.1 hp k (k + 1) (by omega) (by omega) (by omega)

set_option maxRecDepth 100000 in
set_option maxHeartbeats 2000000 in
theorem law_osorts (A : Option Addr) (n c : Nat) (L : List Att) (w : World) (hA : Atts w A L) (hn : L.length = n) (hc : n ≤ c) (hcm : c ≤ 9223372036854775807) (hg : Typed w) :
    Calls Tryd.prog 3 #[.slice A n c] w fun e w' => e = .returned (.bool true) ∧ Upd [] w w' := by
  by_cases h60 : 60 < n
  · have HG := Lib.hid hg
    clear hg hA hn
    have hnm : n ≤ 9223372036854775807 := by omega
    go_enter Tryd.func3, Tryd.ntmps3
    go_wp2_with fail
    refine (alive_ok _ HG.out).mono ?_; rintro e w1 ⟨rfl, u1⟩
    go_wp2_with fail
    go_ret
    exact ⟨rfl, u1⟩
  have HG := Lib.hid hg
  have HN := Lib.hid hn
  have HA := Lib.hid hA
  clear hg hA hn
  have hnm : n ≤ 60 := by omega
  go_enter Tryd.func3, Tryd.ntmps3
  go_wp2_with fail
  refine (sort_ok A n c L _ HA.out HN.out (by omega)).mono ?_; rintro e w1 ⟨v, rfl, o1, u1⟩
  obtain ⟨S, hS⟩ : ∃ S, srt (ahd L) (List.range n) = S := ⟨_, rfl⟩
  have HT : Hid (∀ k, k < n → S.getD k 0 < n) := Lib.hid (hS ▸ fun k hk => srt_lt L n k hk)
  have HO : Hid (∀ k, k + 1 < n → ahd L (S.getD k 0) (S.getD (k + 1) 0) = true) := Lib.hid (hS ▸ fun k hk => srt_ahd L n k hk)
  have HL : Hid (S.length = n) := Lib.hid (hS ▸ srt_len L n)
  rw [hS] at o1
  have HS := Lib.hid hS
  have O1 := Lib.hid o1
  have U1 := Lib.hid u1
  clear o1 u1 hS
  obtain ⟨A1, c1, rfl, _⟩ := own_slice O1.out
  go_wp2_with fail
  go_loopw [4] (fun i wr => ∃ k : Nat, i = .int .i64 k ∧ 1 ≤ k ∧ Hid (Upd [] w1 wr)) (fun i _ => n - (intOf i).toNat)
  case atStart => exact ⟨1, rfl, by omega, Lib.hid (.refl _ _)⟩
  case round =>
    obtain ⟨k, rfl, hk, HU⟩ := hrel
    by_cases hlt : k < n
    · obtain ⟨j, rfl⟩ : ∃ j, k = j + 1 := ⟨k - 1, by omega⟩
      have KO := own_upd0 O1.out HU.out
      obtain ⟨g, c', cur, he, hB, hcb, _⟩ := own_form KO (by omega)
      injection he with he _ he2
      subst he he2
      obtain ⟨x, hx⟩ : ∃ x, S.getD j 0 = x := ⟨_, rfl⟩
      obtain ⟨y, hy⟩ : ∃ y, S.getD (j + 1) 0 = y := ⟨_, rfl⟩
      have f1 : wr.cell? ⟨g, j, none⟩ = some (.int .i64 x) := by
        have := own_cell KO j _ (ints_get S j (by rw [HL.out]; omega))
        rw [this, ← hx]; rfl
      have f2 : wr.cell? ⟨g, j + 1, none⟩ = some (.int .i64 y) := by
        have := own_cell KO (j + 1) _ (ints_get S (j + 1) (by rw [HL.out]; exact hlt))
        rw [this, ← hy]; rfl
      have xn : x < n := hx ▸ HT.out _ (by omega)
      have yn : y < n := hy ▸ HT.out _ (by omega)
      have HB : Hid (ahd L x y = true) := Lib.hid (by have := HO.out j (by omega); rwa [hx, hy] at this)
      have AT := Lib.hid (HA.out.upd ((U1.out.trans HU.out).trans (Upd.refl [] wr).drew))
      have gl : g < wr.heap.size := hcb.lt
      have KP := Lib.hid (show ∀ W, Upd [] wr W → W.cell? ⟨g, j, none⟩ = some (.int .i64 x) ∧ W.cell? ⟨g, j + 1, none⟩ = some (.int .i64 y) from fun W hu => ⟨(upd_cell hu (p := ⟨g, j, none⟩) gl).trans f1, (upd_cell hu (p := ⟨g, j + 1, none⟩) gl).trans f2⟩)
      clear hx hy KO hB hcb
      go_wp2_with fail
      have x0 : decide ((x : Int) < 0) = false := by simp
      have y0 : decide ((y : Int) < 0) = false := by simp
      have x1 : decide (n ≤ x) = false := by simpa using xn
      have y1 : decide (n ≤ y) = false := by simpa using yn
      have j0 : (0 : Int) ≤ j := by omega
      have j1 : (j : Int) < n := by omega
      have j2 : (j : Int) + 1 < n := by omega
      have j3 : (0 : Int) ≤ (j : Int) + 1 := by omega
      have j4 : ((j : Int) + 1).toNat = j + 1 := by omega
      have w1' : IntKind.i64.wrap ((j : Int) + 1 - 1) = j := by rw [show (j : Int) + 1 - 1 = j by omega]; exact IntWalk.i64_in _ (by omega)
      have w2' : IntKind.i64.wrap (j : Int) = j := IntWalk.i64_in _ (by omega)
      go_region_held3 (fun W => W.cell? ⟨g, j, none⟩ = some (.int .i64 x) ∧ W.cell? ⟨g, j + 1, none⟩ = some (.int .i64 y)) (first | exact KP.out _ ((Upd.refl [] wr).drew.trans u3) | exact KP.out _ ((Upd.refl [] wr).drew) | go_keep)
        (first | (go_at_call 10; refine (rahead_at A n c L _ AT.out HN.out x y xn yn).mono ?_; rintro e w3 ⟨rfl, u3⟩; rw [HB.out]))
      clear w1' w2'
      go_wp2_with fail
      go_roundw
      case rel => exact ⟨j + 1 + 1, by go_num, by omega, Lib.hid (HU.out.drew.trans u3)⟩
      case measure => simp [intOf]; omega
    · go_wp2_with fail
      refine (rsort_ok A n c L _ (HA.out.upd (U1.out.trans HU.out)) HN.out (by omega)).mono ?_; rintro e w3 ⟨v3, rfl, o3, u3⟩
      rw [HS.out] at o3
      have O3 := Lib.hid o3
      have U3 := Lib.hid u3
      clear o3 u3
      go_wp2_with fail
      refine (ints_ok _ v3 n (S.map (fun x : Nat => (x : Int))) _ (.of_own (by rw [← ints_int]; exact own_upd0 O1.out (HU.out.trans U3.out))) (.of_own (by rw [← ints_int]; exact O3.out)) (by omega)).mono ?_; rintro e w5 ⟨rfl, u5⟩
      have U5 := Lib.hid (((U1.out.trans HU.out).trans U3.out).trans u5)
      clear u5
      go_wp2_with fail
      refine (alive_ok _ (HG.out.upd U5.out (by simp))).mono ?_; rintro e w6 ⟨rfl, u6⟩
      go_wp2_with fail
      go_ret
      exact ⟨rfl, U5.out.trans u6⟩

set_option maxRecDepth 100000 in
set_option maxHeartbeats 2000000 in
theorem law_ochecks (A : Option Addr) (n c : Nat) (L : List Att) (b : Int) (w : World) (hA : Atts w A L) (hn : L.length = n) (hc : n ≤ c) (hcm : c ≤ 9223372036854775807) (hg : Typed w) :
    Calls Tryd.prog 4 #[.slice A n c, .int .i64 b] w fun e w' => e = .returned (.bool true) ∧ Upd [] w w' := by
  by_cases h60 : 60 < n
  · have HG := Lib.hid hg
    clear hg hA hn
    have hnm : n ≤ 9223372036854775807 := by omega
    go_enter Tryd.func4, Tryd.ntmps4
    go_wp2_with fail
    refine (alive_ok _ HG.out).mono ?_; rintro e w1 ⟨rfl, u1⟩
    go_wp2_with fail
    go_ret
    exact ⟨rfl, u1⟩
  have HG := Lib.hid hg
  have HN := Lib.hid hn
  have HA := Lib.hid hA
  clear hg hA hn
  have hnm : n ≤ 60 := by omega
  go_enter Tryd.func4, Tryd.ntmps4
  go_wp2_with fail
  refine (check_ok A n c L _ HA.out HN.out (by omega) hc hcm).mono ?_; rintro e w1 ⟨v, rfl, e1, u1⟩
  have E1 := Lib.hid e1
  have U1 := Lib.hid u1
  clear e1 u1
  obtain ⟨no, hno⟩ : ∃ no, (chkR L).1 = no := ⟨_, rfl⟩
  obtain ⟨at_, hat⟩ : ∃ at_, (chkR L).2 = at_ := ⟨_, rfl⟩
  have HX : Hid ((chkR L).1 = no ∧ (chkR L).2 = at_) := Lib.hid ⟨hno, hat⟩
  rw [hno, hat] at E1
  clear hno hat
  go_wp2_with fail
  refine (rcheck_ok A n c L _ (HA.out.upd U1.out) HN.out (by omega)).mono ?_; rintro e w2 ⟨rfl, u2⟩
  rw [HX.out.1, HX.out.2]
  have U2 := Lib.hid (U1.out.trans u2)
  have E2 := Lib.hid (E1.out.upd u2)
  clear u2
  go_wp2_with fail
  refine (no_err E2.out).mono ?_; rintro e w3 ⟨rfl, rfl⟩
  go_wp2_with fail
  refine (place_err E2.out (HG.out.upd U2.out (by simp))).mono ?_; rintro e w3 ⟨rfl, u3⟩
  have U3 := Lib.hid (U2.out.trans u3)
  clear u3
  go_wp2_with fail
  refine (within_ok A n c L b _ (HA.out.upd U3.out) HN.out (by omega)).mono ?_; rintro e w4 ⟨rfl, u4⟩
  have U4 := Lib.hid (U3.out.trans u4)
  clear u4
  obtain ⟨k, hk⟩ : ∃ k, wth L b = k := ⟨_, rfl⟩
  rw [hk]
  have HK := Lib.hid hk
  clear hk
  go_wp2_with fail
  refine (rwithin_ok A n c L b _ (HA.out.upd U4.out) HN.out (by omega)).mono ?_; rintro e w5 ⟨rfl, u5⟩
  rw [HK.out]
  have U5 := Lib.hid (U4.out.trans u5)
  clear u5
  go_wp2_with fail
  refine (alive_ok _ (HG.out.upd U5.out (by simp))).mono ?_; rintro e w6 ⟨rfl, u6⟩
  go_wp2_with fail
  go_ret
  exact ⟨rfl, U5.out.trans u6⟩
end Go.Proofs.YtegpfhldbdegbaaDoor

/-
  concordref08.State: Get, Ceil, Range.
  concordref08.State: set.
  concordref08.State: Del.
-/
import Derived.Test.YtfbeaklplefojaaGreatDoorEvB6
set_option linter.unusedVariables false
namespace Go.Proofs.YtfbeaklplefojaaGreatDoor
open Go.RowKit Assoc MP
attribute [local go_sem] litStep_value

set_option maxRecDepth 100000 in
set_option maxHeartbeats 2000000 in
theorem rm_get (B rb : Nat) (F : List Nat) (s : MS) (c k : Int) (w : World) (h : RMdl B rb F w s) :
    Calls Tryz.prog 50 #[.pointer (some ⟨rb, 0, none⟩), .int .i64 c, .int .i64 k] w fun e w' => e = .returned (.tuple #[.int .i64 (if isC s c then (get (coll s c.toNat) k).getD 0 else 0), .bool (if isC s c then (get (coll s c.toNat) k).isSome else false), .int .i64 (if isC s c then 0 else 3)]) ∧ w = w' := by
  have H := Lib.hid h
  cases hc : isC s c with
  | false =>
    have HC := Lib.hid hc
    clear h hc
    go_enter Tryz.func50, Tryz.ntmps50
    go_wp2_with fail
    refine (rm_there B rb F s c w H.out).mono ?_; rintro e w' ⟨rfl, rfl⟩
    rw [HC.out]
    go_wp2_with fail
    go_ret3
    exact ⟨rfl, rfl⟩
  | true =>
    have HC := Lib.hid hc
    obtain ⟨i, rfl, hi⟩ := isC_form hc
    obtain ⟨hgd, vk, vl, ms, hF, hst⟩ := h
    obtain ⟨gl, cl, Ai, ci, rfl, hcell, hoi, _⟩ := hst.at_ hi
    obtain ⟨N, hN⟩ : ∃ N, s.L.length = N := ⟨_, rfl⟩
    obtain ⟨n, hn⟩ : ∃ n, (coll s i).length = n := ⟨_, rfl⟩
    have hn1 : n ≤ 100 := hn ▸ hgd.len _ (coll_mem hi)
    have hi2 : i < N := hN ▸ hi
    have c1 : w.cell? ⟨rb, 1, none⟩ = some (.slice (some ⟨gl, 0, none⟩) N cl) := by rw [← hN]; exact hst.box.cell 1
    have e0 : w.cell? ⟨gl, i, none⟩ = some (.slice Ai n ci) := by rw [← hn]; exact hcell
    have ON : Hid (w.ownsRow B 56 2 (.slice Ai n ci) n (flat encPr (coll s i))) := Lib.hid (by have := hoi; unfold Ow at this; rw [hn] at this; exact this)
    have HN := Lib.hid hn
    have OI : Hid (Ow encPr 56 w B (.slice Ai n ci) (coll s i)) := Lib.hid (by rw [← hn]; exact hoi)
    have q1 : (0 : Int) ≤ (i : Int) := by omega
    have q2 : (i : Int) < (N : Int) := by omega
    clear hcell hoi hN hn
    rw [Int.toNat_natCast]
    have HII := Lib.hid hi
    obtain ⟨ov, hov⟩ : ∃ ov, (get (coll s i) k).getD 0 = ov := ⟨_, rfl⟩
    obtain ⟨is, his⟩ : ∃ is, (get (coll s i) k).isSome = is := ⟨_, rfl⟩
    have HR : Hid ((get (coll s i) k).getD 0 = ov ∧ (get (coll s i) k).isSome = is) := Lib.hid ⟨hov, his⟩
    simp only [if_true]
    rw [hov, his]
    clear hov his hc hgd hst hF hi
    go_enter Tryz.func50, Tryz.ntmps50
    go_wp2_with fail
    refine (rm_there B rb F s i w H.out).mono ?_; rintro e w' ⟨rfl, rfl⟩
    rw [HC.out]
    go_wp2_with fail
    refine (rm_find B rb F s i k w H.out HII.out).mono ?_; rintro e w' ⟨rfl, rfl⟩
    cases hg : get (coll s i) k with
    | none =>
      obtain ⟨pv, hpv⟩ : ∃ p, posW (coll s i) k = p := ⟨_, rfl⟩
      have q0 : pv < 0 := by rw [← hpv, posW_none hg]; omega
      have HZ : Hid (ov = 0 ∧ is = false) := Lib.hid (by have := HR.out; rw [hg] at this; exact ⟨this.1.symm, this.2.symm⟩)
      rw [hpv]
      clear hg hpv
      go_wp2_with fail
      go_ret3
      rw [HZ.out.1, HZ.out.2]
      exact ⟨rfl, rfl⟩
    | some v =>
      obtain ⟨j, hp1, hp2⟩ := posW_some hg
      have hjn : j < n := by rw [← HN.out]; exact (List.getElem?_eq_some_iff.1 hp2).1
      have HZ : Hid (ov = v ∧ is = true) := Lib.hid (by have := HR.out; rw [hg] at this; exact ⟨this.1.symm, this.2.symm⟩)
      rw [hp1]
      have q0 : (0 : Int) ≤ (j : Int) := by omega
      obtain ⟨⟨xc, xv⟩, hx⟩ : ∃ x, (coll s i)[j]? = some x := ⟨_, List.getElem?_eq_getElem (by rw [HN.out]; omega)⟩
      obtain ⟨gw, cgw, curw, e1, _⟩ := own_form ON.out (by omega)
      injection e1 with e1 _ e1'
      subst e1 e1'
      have f0 : w.cell? ⟨gw, j * 2, none⟩ = some (.int .i64 xc) := OI.out.at_ hx 0 _ rfl
      have f1 : w.cell? ⟨gw, j * 2 + 1, none⟩ = some (.int .i64 xv) := OI.out.at_ hx 1 _ rfl
      have HX := Lib.hid hx
      have q3 : (0 : Int) ≤ (j : Int) := by omega
      have q4 : (j : Int) < (n : Int) := by omega
      clear hx
      obtain ⟨rfl, rfl⟩ : xc = k ∧ xv = v := by have := HX.out; rw [hp2] at this; injection this with this; injection this with h1 h2; exact ⟨h1.symm, h2.symm⟩
      clear hg hp1 hp2
      go_wp2_with fail
      go_ret3
      rw [HZ.out.1, HZ.out.2]
      exact ⟨rfl, rfl⟩
theorem ceil_first {l : AL} {k : Int} {j : Nat} (h : ∀ p, p < j → (l.getD p default).1 < k) {x : Int × Int} (hx : l[j]? = some x) (hk : k ≤ x.1) : ceilL l k = some x.1 := by
  unfold ceilL
  obtain ⟨hj, rfl⟩ := List.getElem?_eq_some_iff.1 hx
  have : l.find? (fun p => decide (k ≤ p.1)) = some l[j] := by
    rw [List.find?_eq_some_iff_getElem]
    refine ⟨by simpa using hk, j, hj, rfl, fun p hp => ?_⟩
    have := h p hp
    rw [List.getD_eq_getElem?_getD, List.getElem?_eq_getElem (by omega)] at this
    simpa using this
  rw [this]
  rfl
theorem ceil_no {l : AL} {k : Int} (h : ∀ p, p < l.length → (l.getD p default).1 < k) : ceilL l k = none := by
  unfold ceilL
  rw [Option.map_eq_none_iff, List.find?_eq_none]
  intro x hx
  obtain ⟨j, hj, rfl⟩ := List.getElem_of_mem hx
  have := h j hj
  rw [List.getD_eq_getElem?_getD, List.getElem?_eq_getElem hj] at this
  simpa using this
set_option maxRecDepth 100000 in
set_option maxHeartbeats 2000000 in
theorem rm_ceil (B rb : Nat) (F : List Nat) (s : MS) (c k : Int) (w : World) (h : RMdl B rb F w s) :
    Calls Tryz.prog 56 #[.pointer (some ⟨rb, 0, none⟩), .int .i64 c, .int .i64 k] w fun e w' => e = .returned (.tuple #[.int .i64 ((ceilC s c k).getD 0), .bool (ceilC s c k).isSome, .int .i64 (oErr s c)]) ∧ w = w' := by
  have H := Lib.hid h
  obtain ⟨r, hr⟩ : ∃ r, ceilC s c k = r := ⟨_, rfl⟩
  obtain ⟨oe, hoe⟩ : ∃ oe, oErr s c = oe := ⟨_, rfl⟩
  have HR := Lib.hid hr
  have HOE := Lib.hid hoe
  rw [hr, hoe]
  clear hr hoe
  cases hc : isC s c with
  | false =>
    have HC := Lib.hid hc
    have HZ : Hid (oe = 3 ∧ r = none) := Lib.hid (by
      have h1 : oErr s c = 3 := by unfold oErr; rw [hc]; rfl
      exact ⟨by rw [← HOE.out, h1], by rw [← HR.out]; unfold ceilC; rw [h1]; rfl⟩)
    clear h hc
    go_enter Tryz.func56, Tryz.ntmps56
    go_wp2_with fail
    refine (rm_there B rb F s c w H.out).mono ?_; rintro e w' ⟨rfl, rfl⟩
    rw [HC.out]
    go_wp2_with fail
    go_ret3
    rw [HZ.out.1, HZ.out.2]
    exact ⟨rfl, rfl⟩
  | true =>
    have HC := Lib.hid hc
    obtain ⟨i, rfl, hi⟩ := isC_form hc
    obtain ⟨hgd, vk, vl, ms, hF, hst⟩ := h
    obtain ⟨Ak, ck, rfl, hnk, _⟩ := own_slice hst.k
    obtain ⟨NK, hNK⟩ : ∃ NK, s.K.length = NK := ⟨_, rfl⟩
    have hik : i < NK := by rw [← hNK, hgd.kl]; exact hi
    have OK : Hid (w.ownsRow B 3 1 (.slice Ak NK ck) NK (flat encK s.K)) := Lib.hid (by have := hst.k; unfold Ow at this; rw [hNK] at this; exact this)
    obtain ⟨gk, cg, cur, e1, _⟩ := own_form OK.out (by omega)
    injection e1 with e1 _ e1'
    subst e1 e1'
    obtain ⟨y, hy⟩ : ∃ y, s.K[i]? = some y := ⟨_, List.getElem?_eq_getElem (by rw [hNK]; exact hik)⟩
    have k0 : w.cell? ⟨gk, i, none⟩ = some (.int .i64 y) := by
      have := own_cell OK.out _ _ ((flat_get (E := encK) hy (j := 0) (by decide)).trans rfl)
      rwa [show i * encK.s + 0 = i by simp [encI]] at this
    have c0 : w.cell? ⟨rb, 0, none⟩ = some (.slice (some ⟨gk, 0, none⟩) NK ck) := by rw [← hNK]; exact hst.box.cell 0
    have q5 : (i : Int) < (NK : Int) := by omega
    have HE : Hid (oErr s i = if y = 3 then 0 else 17) := Lib.hid (by unfold oErr; rw [isC_nat hi, Int.toNat_natCast, List.getD_eq_getElem?_getD, hy]; rfl)
    clear hNK hy
    obtain ⟨gl, cl, Ai, ci, rfl, hcell, hoi, _⟩ := hst.at_ hi
    obtain ⟨N, hN⟩ : ∃ N, s.L.length = N := ⟨_, rfl⟩
    obtain ⟨n, hn⟩ : ∃ n, (coll s i).length = n := ⟨_, rfl⟩
    have hn1 : n ≤ 100 := hn ▸ hgd.len _ (coll_mem hi)
    have hi2 : i < N := hN ▸ hi
    have c1 : w.cell? ⟨rb, 1, none⟩ = some (.slice (some ⟨gl, 0, none⟩) N cl) := by rw [← hN]; exact hst.box.cell 1
    have e0 : w.cell? ⟨gl, i, none⟩ = some (.slice Ai n ci) := by rw [← hn]; exact hcell
    have ON : Hid (w.ownsRow B 56 2 (.slice Ai n ci) n (flat encPr (coll s i))) := Lib.hid (by have := hoi; unfold Ow at this; rw [hn] at this; exact this)
    have HN := Lib.hid hn
    have OI : Hid (Ow encPr 56 w B (.slice Ai n ci) (coll s i)) := Lib.hid (by rw [← hn]; exact hoi)
    have q1 : (0 : Int) ≤ (i : Int) := by omega
    have q2 : (i : Int) < (N : Int) := by omega
    clear hcell hoi hN hn
    clear hc hgd hst hF hi
    go_enter Tryz.func56, Tryz.ntmps56
    go_wp2_with fail
    refine (rm_there B rb F s i w H.out).mono ?_; rintro e w' ⟨rfl, rfl⟩
    rw [HC.out]
    by_cases h3 : y = 3
    · have d3 : (y != 3) = false := by simpa using h3
      have HE0 : Hid (oErr s i = 0) := Lib.hid (by rw [HE.out, if_pos h3])
      have HRC : Hid (r = ceilL (coll s i) k) := Lib.hid (by rw [← HR.out]; unfold ceilC; rw [HE0.out, if_pos rfl, Int.toNat_natCast])
      have HO0 : Hid (oe = 0) := Lib.hid (by rw [← HOE.out, HE0.out])
      clear h3
      go_wp2_with fail
      clear k0 c0
      go_loop [9] (fun v => ∃ j : Nat, v = .int .i64 j ∧ j ≤ n ∧ Hid (∀ p, p < j → ((coll s i).getD p default).1 < k)) (fun v => n - (intOf v).toNat)
      case atStart => exact ⟨0, rfl, by omega, Lib.hid (fun j hj => by omega)⟩
      case round =>
        obtain ⟨j, rfl, hj, HA⟩ := hrel
        by_cases hjn : j < n
        ·
          obtain ⟨⟨xc, xv⟩, hx⟩ : ∃ x, (coll s i)[j]? = some x := ⟨_, List.getElem?_eq_getElem (by rw [HN.out]; omega)⟩
          obtain ⟨gw, cgw, curw, e1, _⟩ := own_form ON.out (by omega)
          injection e1 with e1 _ e1'
          subst e1 e1'
          have f0 : w.cell? ⟨gw, j * 2, none⟩ = some (.int .i64 xc) := OI.out.at_ hx 0 _ rfl
          have f1 : w.cell? ⟨gw, j * 2 + 1, none⟩ = some (.int .i64 xv) := OI.out.at_ hx 1 _ rfl
          have HX := Lib.hid hx
          have q3 : (0 : Int) ≤ (j : Int) := by omega
          have q4 : (j : Int) < (n : Int) := by omega
          clear hx
          by_cases hid : k ≤ xc
          · have d1 : decide (k ≤ xc) = true := by simpa using hid
            have HZ : Hid (r = some xc) := Lib.hid (by rw [HRC.out]; exact ceil_first HA.out HX.out hid)
            clear hid
            go_wp2_with fail
            go_ret3
            rw [HZ.out, HO0.out]
            exact ⟨rfl, rfl⟩
          · have d1 : decide (k ≤ xc) = false := by simpa using hid
            have HZ : Hid (∀ p, p < j + 1 → ((coll s i).getD p default).1 < k) := Lib.hid (fun p hp => by
              by_cases e : p = j
              · rw [e, List.getD_eq_getElem?_getD, HX.out]; show xc < k; omega
              · exact HA.out p (by omega))
            clear hid
            go_wp2_with fail
            go_round
            case rel => exact ⟨j + 1, by go_num, by omega, HZ⟩
            case measure => simp [intOf]; omega
        · have : j = n := by omega
          subst this
          have HZ : Hid (r = none) := Lib.hid (by rw [HRC.out]; exact ceil_no (by rw [HN.out]; exact HA.out))
          go_wp2_with fail
          go_ret3
          rw [HZ.out, HO0.out]
          exact ⟨rfl, rfl⟩
    · have d3 : (y != 3) = true := by simpa using h3
      have HZ : Hid (oe = 17 ∧ r = none) := Lib.hid (by
        have h1 : oErr s i = 17 := by rw [HE.out, if_neg h3]
        exact ⟨by rw [← HOE.out, h1], by rw [← HR.out]; unfold ceilC; rw [h1]; rfl⟩)
      clear h3
      go_wp2_with fail
      go_ret3
      rw [HZ.out.1, HZ.out.2]
      exact ⟨rfl, rfl⟩
set_option maxRecDepth 100000 in
set_option maxHeartbeats 4000000 in
theorem rm_range (B rb : Nat) (F : List Nat) (s : MS) (c a b : Int) (w : World) (h : RMdl B rb F w s) :
    Calls Tryz.prog 58 #[.pointer (some ⟨rb, 0, none⟩), .int .i64 c, .int .i64 a, .int .i64 b] w fun e w' => e = .returned (.tuple #[.int .i64 (rangeC s c a b : Nat), .int .i64 (oErr s c)]) ∧ w = w' := by
  have H := Lib.hid h
  obtain ⟨r, hr⟩ : ∃ r, rangeC s c a b = r := ⟨_, rfl⟩
  obtain ⟨oe, hoe⟩ : ∃ oe, oErr s c = oe := ⟨_, rfl⟩
  have HR := Lib.hid hr
  have HOE := Lib.hid hoe
  rw [hr, hoe]
  clear hr hoe
  cases hc : isC s c with
  | false =>
    have HC := Lib.hid hc
    have HZ : Hid (oe = 3 ∧ r = 0) := Lib.hid (by
      have h1 : oErr s c = 3 := by unfold oErr; rw [hc]; rfl
      exact ⟨by rw [← HOE.out, h1], by rw [← HR.out]; unfold rangeC; rw [h1]; rfl⟩)
    clear h hc
    go_enter Tryz.func58, Tryz.ntmps58
    go_wp2_with fail
    refine (rm_there B rb F s c w H.out).mono ?_; rintro e w' ⟨rfl, rfl⟩
    rw [HC.out]
    go_wp2_with fail
    go_ret2
    rw [HZ.out.1, HZ.out.2]
    exact ⟨rfl, rfl⟩
  | true =>
    have HC := Lib.hid hc
    obtain ⟨i, rfl, hi⟩ := isC_form hc
    obtain ⟨hgd, vk, vl, ms, hF, hst⟩ := h
    obtain ⟨Ak, ck, rfl, hnk, _⟩ := own_slice hst.k
    obtain ⟨NK, hNK⟩ : ∃ NK, s.K.length = NK := ⟨_, rfl⟩
    have hik : i < NK := by rw [← hNK, hgd.kl]; exact hi
    have OK : Hid (w.ownsRow B 3 1 (.slice Ak NK ck) NK (flat encK s.K)) := Lib.hid (by have := hst.k; unfold Ow at this; rw [hNK] at this; exact this)
    obtain ⟨gk, cg, cur, e1, _⟩ := own_form OK.out (by omega)
    injection e1 with e1 _ e1'
    subst e1 e1'
    obtain ⟨y, hy⟩ : ∃ y, s.K[i]? = some y := ⟨_, List.getElem?_eq_getElem (by rw [hNK]; exact hik)⟩
    have k0 : w.cell? ⟨gk, i, none⟩ = some (.int .i64 y) := by
      have := own_cell OK.out _ _ ((flat_get (E := encK) hy (j := 0) (by decide)).trans rfl)
      rwa [show i * encK.s + 0 = i by simp [encI]] at this
    have c0 : w.cell? ⟨rb, 0, none⟩ = some (.slice (some ⟨gk, 0, none⟩) NK ck) := by rw [← hNK]; exact hst.box.cell 0
    have q5 : (i : Int) < (NK : Int) := by omega
    have HE : Hid (oErr s i = if y = 3 then 0 else 17) := Lib.hid (by unfold oErr; rw [isC_nat hi, Int.toNat_natCast, List.getD_eq_getElem?_getD, hy]; rfl)
    clear hNK hy
    obtain ⟨gl, cl, Ai, ci, rfl, hcell, hoi, _⟩ := hst.at_ hi
    obtain ⟨N, hN⟩ : ∃ N, s.L.length = N := ⟨_, rfl⟩
    obtain ⟨n, hn⟩ : ∃ n, (coll s i).length = n := ⟨_, rfl⟩
    have hn1 : n ≤ 100 := hn ▸ hgd.len _ (coll_mem hi)
    have hi2 : i < N := hN ▸ hi
    have c1 : w.cell? ⟨rb, 1, none⟩ = some (.slice (some ⟨gl, 0, none⟩) N cl) := by rw [← hN]; exact hst.box.cell 1
    have e0 : w.cell? ⟨gl, i, none⟩ = some (.slice Ai n ci) := by rw [← hn]; exact hcell
    have ON : Hid (w.ownsRow B 56 2 (.slice Ai n ci) n (flat encPr (coll s i))) := Lib.hid (by have := hoi; unfold Ow at this; rw [hn] at this; exact this)
    have HN := Lib.hid hn
    have OI : Hid (Ow encPr 56 w B (.slice Ai n ci) (coll s i)) := Lib.hid (by rw [← hn]; exact hoi)
    have q1 : (0 : Int) ≤ (i : Int) := by omega
    have q2 : (i : Int) < (N : Int) := by omega
    clear hcell hoi hN hn
    clear hc hgd hst hF hi
    go_enter Tryz.func58, Tryz.ntmps58
    go_wp2_with fail
    refine (rm_there B rb F s i w H.out).mono ?_; rintro e w' ⟨rfl, rfl⟩
    rw [HC.out]
    by_cases h3 : y = 3
    · have d3 : (y != 3) = false := by simpa using h3
      have HE0 : Hid (oErr s i = 0) := Lib.hid (by rw [HE.out, if_pos h3])
      have HRC : Hid (r = rangeK ((coll s i).map (·.1)) a b) := Lib.hid (by rw [← HR.out]; unfold rangeC; rw [HE0.out, if_pos rfl, Int.toNat_natCast, rangeL_eq])
      have HO0 : Hid (oe = 0) := Lib.hid (by rw [← HOE.out, HE0.out])
      clear h3
      go_wp2_with fail
      clear k0 c0
      go_loop [10, 11] (fun vm v => ∃ j : Nat, v = .int .i64 j ∧ vm = .int .i64 (rangeK (((coll s i).map (·.1)).take j) a b : Nat) ∧ j ≤ n ∧ Hid (rangeK (((coll s i).map (·.1)).take j) a b ≤ j)) (fun _ v => n - (intOf v).toNat)
      case atStart => exact ⟨0, rfl, rfl, by omega, Lib.hid (by simp [rangeK])⟩
      case round =>
        obtain ⟨j, rfl, rfl, hj, HJ⟩ := hrel
        obtain ⟨m, hm⟩ : ∃ m, rangeK (((coll s i).map (·.1)).take j) a b = m := ⟨_, rfl⟩
        have HM := Lib.hid hm
        have hmj : m ≤ j := hm ▸ HJ.out
        rw [hm]
        clear hm
        by_cases hjn : j < n
        ·
          obtain ⟨⟨xc, xv⟩, hx⟩ : ∃ x, (coll s i)[j]? = some x := ⟨_, List.getElem?_eq_getElem (by rw [HN.out]; omega)⟩
          obtain ⟨gw, cgw, curw, e1, _⟩ := own_form ON.out (by omega)
          injection e1 with e1 _ e1'
          subst e1 e1'
          have f0 : w.cell? ⟨gw, j * 2, none⟩ = some (.int .i64 xc) := OI.out.at_ hx 0 _ rfl
          have f1 : w.cell? ⟨gw, j * 2 + 1, none⟩ = some (.int .i64 xv) := OI.out.at_ hx 1 _ rfl
          have HX := Lib.hid hx
          have q3 : (0 : Int) ≤ (j : Int) := by omega
          have q4 : (j : Int) < (n : Int) := by omega
          clear hx
          have HT : Hid (((coll s i).map (·.1)).take (j + 1) = ((coll s i).map (·.1)).take j ++ [xc]) := Lib.hid (take_snoc_ (by rw [List.getElem?_map, HX.out]; rfl))
          by_cases h1 : a ≤ xc
          · have d1 : decide (a ≤ xc) = true := by simpa using h1
            by_cases h2 : xc ≤ b
            · have d2 : decide (xc ≤ b) = true := by simpa using h2
              have HZ : Hid (rangeK (((coll s i).map (·.1)).take (j + 1)) a b = m + 1) := Lib.hid (by rw [HT.out, rangeK_snoc, HM.out, if_pos ⟨h1, h2⟩])
              go_wp2_with fail
              go_round
              case rel => exact ⟨j + 1, by go_num, by rw [HZ.out]; go_num, by omega, Lib.hid (by rw [HZ.out]; omega)⟩
              case measure => simp [intOf]; omega
            · have d2 : decide (xc ≤ b) = false := by simpa using h2
              have HZ : Hid (rangeK (((coll s i).map (·.1)).take (j + 1)) a b = m + 0) := Lib.hid (by rw [HT.out, rangeK_snoc, HM.out, if_neg (fun h => h2 h.2)])
              go_wp2_with fail
              go_round
              case rel => exact ⟨j + 1, by go_num, by rw [HZ.out]; go_num, by omega, Lib.hid (by rw [HZ.out]; omega)⟩
              case measure => simp [intOf]; omega
          · have d1 : decide (a ≤ xc) = false := by simpa using h1
            have HZ : Hid (rangeK (((coll s i).map (·.1)).take (j + 1)) a b = m + 0) := Lib.hid (by rw [HT.out, rangeK_snoc, HM.out, if_neg (fun h => h1 h.1)])
            go_wp2_with fail
            go_round
            case rel => exact ⟨j + 1, by go_num, by rw [HZ.out]; go_num, by omega, Lib.hid (by rw [HZ.out]; omega)⟩
            case measure => simp [intOf]; omega
        · obtain rfl : j = n := by omega
          have HZ : Hid (r = m) := Lib.hid (by rw [HRC.out, ← HM.out, List.take_of_length_le (by rw [List.length_map, HN.out]; exact Nat.le_refl _)])
          go_wp2_with fail
          go_ret2
          rw [HZ.out, HO0.out]
          exact ⟨rfl, rfl⟩
    · have d3 : (y != 3) = true := by simpa using h3
      have HZ : Hid (oe = 17 ∧ r = 0) := Lib.hid (by
        have h1 : oErr s i = 17 := by rw [HE.out, if_neg h3]
        exact ⟨by rw [← HOE.out, h1], by rw [← HR.out]; unfold rangeC; rw [h1]; rfl⟩)
      clear h3
      go_wp2_with fail
      go_ret2
      rw [HZ.out.1, HZ.out.2]
      exact ⟨rfl, rfl⟩
end Go.Proofs.YtfbeaklplefojaaGreatDoor

namespace Go.Proofs.YtfbeaklplefojaaGreatDoor
open Go.RowKit Assoc MP
attribute [local go_sem] litStep_value

theorem elem_prs : Elem Tryz.prog 81 52 1 24 := .mk' (z := ((Tryz.prog.info? 52).bind (·.zero)).getD undef) Tryz.underlying81 (by kernel_rfl) (by kernel_rfl) (by omega)
/-- The box and its list are others; what they hold is the old, or what was handed. -/
theorem RMSt.put {B rb : Nat} {vk vl vl' : Value} {ms : List Value} {w w' : World} {s : MS} {i : Nat} {va : Value} {l : AL} {T : List Nat}
    (h : RMSt B rb vk vl ms w s) (hi : i < s.L.length) (hu : Upd T w w') (hT : ∀ k ∈ T, k = rb) (hb : Blk w' rb 83 #[vk, vl'])
    (hl : w'.ownsRow B 52 1 vl' s.L.length (ms.set i va)) (ha : Ow encPr 56 w' B va l) : RMSt B rb vk vl' (ms.set i va) w' (setC s i l) := by
  have o1 : ∀ {e : TypeId} {s n : Nat} {v : Value} {xs : List Value}, e ≠ 83 → w.ownsRow B e s v n xs → w'.ownsRow B e s v n xs := fun he ho => own_upd ho hu fun b hb hbT => own_type ho h.box (Ne.symm he) (hT b hbT ▸ hb)
  refine ⟨hb, o1 (by decide) h.k, ?_, ?_, h.b⟩
  · show w'.ownsRow B _ 1 vl' (s.L.set i l).length _
    rw [List.length_set]
    exact hl
  · intro j v x hv hx
    have hx' : (s.L.set i l)[j]? = some x := hx
    rw [List.getElem?_set] at hv hx'
    by_cases e : i = j
    · subst e
      rw [if_pos rfl] at hv hx'
      rw [if_pos hi] at hx'
      rw [if_pos (by rw [h.mlen]; exact hi)] at hv
      injection hv with hv
      injection hx' with hx'
      subst hv hx'
      exact ha
    · rw [if_neg e] at hv hx'
      exact o1 (by decide) (h.each j v x hv hx')
def RSetPost (B rb : Nat) (F : List Nat) (s : MS) (i : Nat) (va : Value) (l : AL) (w : World) (e : Ending) (w' : World) : Prop :=
  ∃ F', e = .returned (.tuple #[]) ∧ RMdl B rb F' w' (setC s i l) ∧ Upd F w w' ∧ ∀ k ∈ F', k ∈ F ∨ w.heap.size ≤ k ∨ va.ownBlock = some k
set_option maxRecDepth 100000 in
set_option maxHeartbeats 4000000 in
theorem rm_set (B rb : Nat) (F : List Nat) (s : MS) (i : Nat) (va : Value) (l : AL) (w : World) (h : RMdl B rb F w s) (hi : i < s.L.length) (ha : Ow encPr 56 w B va l) (hg : MP.Good (setC s i l)) (hBw : B ≤ w.heap.size) :
    Calls Tryz.prog 37 #[.pointer (some ⟨rb, 0, none⟩), .int .i64 i, va] w fun e w' => RSetPost B rb F s i va l w e w' := by
  obtain ⟨g, vk, vl, ms, hF, h⟩ := h
  have HF := Lib.hid hF
  have HS := Lib.hid h
  have HG := Lib.hid hg
  have HA := Lib.hid ha
  have HI := Lib.hid hi
  obtain ⟨Aa, ca, hva, _, _⟩ := own_slice ha
  obtain ⟨an, han⟩ : ∃ an, l.length = an := ⟨_, rfl⟩
  rw [han] at hva
  subst hva
  obtain ⟨Al, cl, rfl, _, _⟩ := own_slice h.l
  obtain ⟨N, hN⟩ : ∃ N, s.L.length = N := ⟨_, rfl⟩
  have HN := Lib.hid hN
  have hiN : i < N := hN ▸ hi
  have hN8 : N ≤ 8 := by rw [← hN, ← g.kl]; exact g.k8
  have HB : Hid (Blk w rb 83 #[vk, .slice Al N cl]) := Lib.hid (by rw [← hN]; exact h.box)
  have HL : Hid (w.ownsRow B 52 1 (.slice Al N cl) N ms) := Lib.hid (by rw [← hN]; exact h.l)
  have ONE : Hid (∀ u ∈ ms, u.oneCell' = true) := Lib.hid (fun u hu => by
    obtain ⟨l, _, ho⟩ := HS.out.mem hu
    obtain ⟨A', c', rfl, _⟩ := own_slice ho
    rfl)
  have c1 : (w.alloc (.cells #[] 52)).cell? ⟨rb, 1, none⟩ = some (.slice Al N cl) := (HB.out.alloc _).cell 1
  have q1 : (0 : Int) ≤ (i : Int) := by omega
  have q2 : (i : Int) < (N : Int) := by omega
  clear g hF h hg ha hi hN han
  go_enter Tryz.func37, Tryz.ntmps37
  go_wp2_with (at_builtin; refine stopped ?_)
  refine Lib.hid ?_
  refine wpList_app _ (by rfl) (.tmp 7) (.tmp 11) _ (by rfl) elem_prs _ _ (by rfl) (by rfl) (own_made (B := w.heap.size) 1 (Blk.new w 52 #[]) (Nat.le_refl _)) (Src.of_own (own_upd0 HL.out ((Upd.refl [] w).alloc _))) ONE.out (by unfold maxLen; omega) (by omega) (by simp) ?_
  intro v2 w2 o2 u2 b2
  have U2 : Hid (Upd [] w w2) := Lib.hid (((Upd.refl [] w).alloc _).trans' u2 (by intro x hx; simp [Value.ownBlock] at hx; subst hx; exact .inr (Nat.le_refl _)))
  rw [Nat.zero_add, List.nil_append] at o2
  have O2 := Lib.hid o2
  obtain ⟨gn, cn, cur, rfl, hgn, _⟩ := own_form o2 (by omega)
  have HGN := Lib.hid hgn
  have HB2 : Hid (Blk w2 rb 83 #[vk, .slice Al N cl]) := Lib.hid (HB.out.upd U2.out (by simp))
  have ML : Hid (ms.length = N) := Lib.hid (by have := own_len HL.out; omega)
  obtain ⟨x0, hx0⟩ : ∃ x0, ms[i]? = some x0 := ⟨_, List.getElem?_eq_getElem (by rw [ML.out]; exact hiN)⟩
  have e0 : w2.cell? ⟨gn, i, none⟩ = some x0 := own_cell O2.out _ _ hx0
  have e1 : w2.frozen? ⟨gn, i, none⟩ = false := own_frozen O2.out i
  have e2 : gn < w2.heap.size := (own_lt O2.out rfl).2
  have hne : rb ≠ gn := by have := HB.out.lt; omega
  have O3 : Hid ((w2.setCell ⟨gn, i, none⟩ (.slice Aa an ca)).ownsRow w.heap.size 52 1 (.slice (some ⟨gn, 0, none⟩) N cn) N (ms.set i (.slice Aa an ca))) := Lib.hid (own_set O2.out i _)
  have HB3 : Hid (Blk (w2.setCell ⟨gn, i, none⟩ (.slice Aa an ca)) rb 83 #[vk, .slice Al N cl]) := Lib.hid (HB2.out.far hne _)
  have U3 : Hid (Upd [] w (w2.setCell ⟨gn, i, none⟩ (.slice Aa an ca))) := Lib.hid (U2.out.setCell (.inr hgn) _)
  have e3 : (w2.setCell ⟨gn, i, none⟩ (.slice Aa an ca)).cell? ⟨rb, 1, none⟩ = some (.slice Al N cl) := HB3.out.cell 1
  have e4 : (w2.setCell ⟨gn, i, none⟩ (.slice Aa an ca)).frozen? ⟨rb, 1, none⟩ = false := HB3.out.frozen 1
  have e5 : rb < (w2.setCell ⟨gn, i, none⟩ (.slice Aa an ca)).heap.size := HB3.out.lt
  clear o2 u2 b2 hx0 hgn c1
  go_wp2_with fail
  go_end0
  generalize w2.setCell ⟨gn, i, none⟩ (.slice Aa an ca) = w3 at *
  have HB4 := HB3.out.set_eq (i := 1) (u := .slice (some ⟨gn, 0, none⟩) N cn) rfl
  have U4 : Upd [rb] w3 (w3.setCell ⟨rb, 1, none⟩ (.slice (some ⟨gn, 0, none⟩) N cn)) := (Upd.refl [rb] w3).setCell (.inl (by simp)) _
  have U5 : Upd [rb] w (w3.setCell ⟨rb, 1, none⟩ (.slice (some ⟨gn, 0, none⟩) N cn)) := (U3.out.mono (by simp)).trans U4
  have OA : Ow encPr 56 (w3.setCell ⟨rb, 1, none⟩ (.slice (some ⟨gn, 0, none⟩) N cn)) B (.slice Aa an ca) l := HA.out.upd U5 (by intro b hb; simp; rintro rfl; exact own_type HA.out HB.out (by decide) hb)
  have OL : (w3.setCell ⟨rb, 1, none⟩ (.slice (some ⟨gn, 0, none⟩) N cn)).ownsRow B 52 1 (.slice (some ⟨gn, 0, none⟩) N cn) s.L.length (ms.set i (.slice Aa an ca)) := by
    rw [HN.out]
    exact own_base (own_upd O3.out U4 (by intro b hb; simp; rintro rfl; exact own_type O3.out HB3.out (by decide) hb)) hBw
  refine ⟨fpRM rb vk (.slice (some ⟨gn, 0, none⟩) N cn) (ms.set i (.slice Aa an ca)), rfl, ⟨HG.out, _, _, _, rfl, HS.out.put HI.out U5 (by simp) HB4 OL OA⟩, ?_, ?_⟩
  · rw [HF.out]
    exact U5.mono (by intro y hy; simp at hy; subst hy; exact .inl (by simp [fpRM]))
  · rw [HF.out]
    intro y hy
    unfold fpRM at hy ⊢
    simp only [List.mem_cons, List.mem_append, Option.mem_toList, mem_owns] at hy ⊢
    rcases hy with rfl | (hy | hy) | ⟨u, hu, hy⟩
    · simp
    · simp [hy]
    · exact .inr (.inl (by have := HGN.out; simp [Value.ownBlock] at hy; omega))
    · rcases List.mem_or_eq_of_mem_set hu with hu | rfl
      · exact .inl (.inr (.inr ⟨u, hu, hy⟩))
      · exact .inr (.inr hy)
end Go.Proofs.YtfbeaklplefojaaGreatDoor

namespace Go.Proofs.YtfbeaklplefojaaGreatDoor
open Go.RowKit Assoc MP
attribute [local go_sem] litStep_value

theorem del_snoc (l : AL) (x : Int × Int) (k : Int) : del (l ++ [x]) k = if x.1 = k then del l k else del l k ++ [x] := by
  unfold del
  rw [List.filter_append]
  by_cases h : x.1 = k
  · rw [if_pos h]; simp [h]
  · rw [if_neg h]; simp [h]
def RDelPost (B rb : Nat) (F : List Nat) (s : MS) (c k : Int) (w : World) (e : Ending) (w' : World) : Prop := ∃ F', e = .returned (.int .i64 (if isC s c then 0 else 3)) ∧ RMdl B rb F' w' (if isC s c then mDel s c.toNat k else s) ∧ Frm F F' w w'
/-- A new list, by rising keys, as the walk makes it. -/
structure DelI (l : AL) (w : World) (vl : Value) (wr : World) : Prop where
  own : Ow encPr 56 wr w.heap.size vl l
  upd : Upd [] w wr
theorem frm_set {B : Nat} {F F' : List Nat} {w w1 w2 : World} {va : Value} {l : AL} (hu : Upd [] w w1) (ho : Ow encPr 56 w1 w.heap.size va l) (h1 : Upd F w1 w2) (h2 : ∀ k ∈ F', k ∈ F ∨ w1.heap.size ≤ k ∨ va.ownBlock = some k) : Frm F F' w w2 := by
  refine ⟨(hu.mono (by simp)).trans h1, fun k hk => ?_⟩
  rcases h2 k hk with h | h | h
  · exact .inl h
  · exact .inr (Nat.le_trans hu.size h)
  · exact .inr (own_lt ho h).1
set_option maxRecDepth 100000 in
set_option maxHeartbeats 4000000 in
theorem rm_del (B rb : Nat) (F : List Nat) (s : MS) (c k : Int) (w : World) (h : RMdl B rb F w s) (hBw : B ≤ w.heap.size) :
    Calls Tryz.prog 54 #[.pointer (some ⟨rb, 0, none⟩), .int .i64 c, .int .i64 k] w fun e w' => RDelPost B rb F s c k w e w' := by
  have H := Lib.hid h
  cases hc : isC s c with
  | false =>
    have HC := Lib.hid hc
    clear h hc
    go_enter Tryz.func54, Tryz.ntmps54
    go_wp2_with fail
    refine (rm_there B rb F s c w H.out).mono ?_; rintro e w' ⟨rfl, rfl⟩
    rw [HC.out]
    go_wp2_with fail
    go_ret
    unfold RDelPost
    rw [HC.out]
    exact ⟨_, rfl, H.out, .refl _ _⟩
  | true =>
    have HC := Lib.hid hc
    obtain ⟨i, rfl, hi⟩ := isC_form hc
    obtain ⟨hgd, vk, vl, ms, hF, hst⟩ := h
    have HST := Lib.hid hst
    obtain ⟨gl, cl, Ai, ci, rfl, hcell, hoi, hmi⟩ := hst.at_ hi
    obtain ⟨N, hN⟩ : ∃ N, s.L.length = N := ⟨_, rfl⟩
    obtain ⟨n, hn⟩ : ∃ n, (coll s i).length = n := ⟨_, rfl⟩
    have hn1 : n ≤ 100 := hn ▸ hgd.len _ (coll_mem hi)
    have hi2 : i < N := hN ▸ hi
    have HOW : Hid (∀ W, Upd [] w W → W.cell? ⟨rb, 1, none⟩ = some (.slice (some ⟨gl, 0, none⟩) N cl) ∧ W.cell? ⟨gl, i, none⟩ = some (.slice Ai n ci)) := Lib.hid (fun W hW => ⟨by rw [← hN]; exact (hst.box.upd hW (by simp)).cell 1, by rw [← hn]; exact own_cell (own_upd0 hst.l hW) i _ hmi⟩)
    have ON : Hid (w.ownsRow B 56 2 (.slice Ai n ci) n (flat encPr (coll s i))) := Lib.hid (by have := hoi; unfold Ow at this; rw [hn] at this; exact this)
    have HN := Lib.hid hn
    have OI : Hid (Ow encPr 56 w B (.slice Ai n ci) (coll s i)) := Lib.hid (by rw [← hn]; exact hoi)
    have q1 : (0 : Int) ≤ (i : Int) := by omega
    have q2 : (i : Int) < (N : Int) := by omega
    have HII := Lib.hid hi
    have HGD := Lib.hid hgd
    clear hcell hoi hN hn hmi
    clear hc hgd hst hF hi
    go_enter Tryz.func54, Tryz.ntmps54
    go_wp2_with fail
    refine (rm_there B rb F s i w H.out).mono ?_; rintro e w' ⟨rfl, rfl⟩
    rw [HC.out]
    go_wp2_with fail
    go_loopw [7, 8] (fun vl vi wr => ∃ j : Nat, vi = .int .i64 j ∧ j ≤ n ∧ Hid (DelI (del ((coll s i).take j) k) w vl wr)) (fun _ v _ => n - (intOf v).toNat)
    case atStart => exact ⟨0, rfl, by omega, Lib.hid ⟨Ow.nil _ _ _ _, .refl _ _⟩⟩
    case round =>
      obtain ⟨j, rfl, hj, hs0⟩ := hrel
      rename World => wi
      have UI := Lib.hid hs0.out.upd
      have HD := Lib.hid hs0.out.own
      clear hs0
      obtain ⟨acc, hacc⟩ : ∃ acc, del ((coll s i).take j) k = acc := ⟨_, rfl⟩
      have HACC := Lib.hid hacc
      rw [hacc] at HD
      obtain ⟨q, hq⟩ : ∃ q, acc.length = q := ⟨_, rfl⟩
      have HQ := Lib.hid hq
      have hqj : q ≤ j := by
        rw [← hq, ← hacc]
        exact Nat.le_trans (List.length_filter_le _ _) (by rw [List.length_take]; omega)
      obtain ⟨Al, ca, rfl, _, _⟩ := own_slice HD.out
      rw [hq] at HD ⊢
      have O1 : Hid (wi.ownsRow w.heap.size 56 2 (.slice Al q ca) q (flat encPr acc)) := Lib.hid (by have := HD.out; unfold Ow at this; rw [hq] at this; exact this)
      obtain ⟨c1, e0⟩ := HOW.out wi UI.out
      clear hacc hq
      by_cases hjn : j < n
      ·
        obtain ⟨⟨xc, xv⟩, hx⟩ : ∃ x, (coll s i)[j]? = some x := ⟨_, List.getElem?_eq_getElem (by rw [HN.out]; omega)⟩
        obtain ⟨gw, cgw, curw, e1, _⟩ := own_form ON.out (by omega)
        injection e1 with e1 _ e1'
        subst e1 e1'
        have HEW : Hid (∀ W, Upd [] w W → W.cell? ⟨gw, j * 2, none⟩ = some (.int .i64 xc) ∧ W.cell? ⟨gw, j * 2 + 1, none⟩ = some (.int .i64 xv)) := Lib.hid (fun W hW => ⟨(OI.out.upd0 hW).at_ hx 0 _ rfl, (OI.out.upd0 hW).at_ hx 1 _ rfl⟩)
        have HX := Lib.hid hx
        have q3 : (0 : Int) ≤ (j : Int) := by omega
        have q4 : (j : Int) < (n : Int) := by omega
        clear hx
        obtain ⟨f0, f1⟩ := HEW.out wi UI.out
        have HT : Hid (del ((coll s i).take (j + 1)) k = if xc = k then acc else acc ++ [(xc, xv)]) := Lib.hid (by rw [take_snoc_ HX.out, del_snoc, HACC.out])
        by_cases hid : xc = k
        · have d1 : (xc != k) = false := by simpa using hid
          have HZ : Hid (del ((coll s i).take (j + 1)) k = acc) := Lib.hid (by rw [HT.out, if_pos hid])
          clear hid
          go_wp2_with fail
          go_roundw
          case rel => exact ⟨j + 1, by go_num, by omega, Lib.hid ⟨by rw [HZ.out]; exact HD.out, UI.out⟩⟩
          case measure => simp [intOf]; omega
        · have d1 : (xc != k) = true := by simpa using hid
          have HZ : Hid (del ((coll s i).take (j + 1)) k = acc ++ [(xc, xv)]) := Lib.hid (by rw [HT.out, if_neg hid])
          clear hid
          go_wp2_with (at_builtin; refine stopped ?_)
          refine Lib.hid ?_
          refine wpList_app _ (by rfl) (.tmp 38) (.tmp 49) _ (by rfl) elem_pair (.slice Al q ca) _ (by rfl) (by rfl) (own_upd0 O1.out ((Upd.refl [] wi).alloc _)) (.of_blk (Blk.new _ _ _) (m := 1) 1 rfl) (by intro u hu; simp at hu; rcases hu with rfl | rfl <;> rfl) (by simp only [maxLen]; omega) (by omega) (Nat.le_trans UI.out.size (by simp)) ?_
          intro v5 w5 o5 u5 b5
          obtain ⟨A5, c5, rfl, _, _⟩ := own_slice o5
          have U5 : Hid (Upd [] w w5) := Lib.hid (UI.out.trans' (((Upd.refl _ wi).alloc _).trans u5) (fun k hk => .inr (own_lt O1.out (by simpa using hk)).1))
          have O5 : Hid (Ow encPr 56 w5 w.heap.size (.slice A5 (q + 1) c5) (acc ++ [(xc, xv)])) := Lib.hid (by unfold Ow; rw [List.length_append, HQ.out, flat_append]; exact o5)
          clear o5 u5 b5
          go_wp2_with fail
          go_roundw
          case rel => exact ⟨j + 1, by go_num, by omega, Lib.hid ⟨by rw [HZ.out]; exact O5.out, U5.out⟩⟩
          case measure => simp [intOf]; omega
      · obtain rfl : j = n := by omega
        have HA : Hid (del (coll s i) k = acc) := Lib.hid (by rw [← HACC.out, List.take_of_length_le (by rw [HN.out]; exact Nat.le_refl _)])
        go_wp2_with fail
        refine (rm_set B rb F s i (.slice Al q ca) acc wi (H.out.upd0 UI.out) HII.out (own_base HD.out hBw) (by rw [← HA.out]; exact good_del HGD.out HII.out k) (Nat.le_trans hBw UI.out.size)).mono ?_
        rintro e w6 ⟨F', rfl, R6, U6, S6⟩
        have R := Lib.hid (And.intro R6 (frm_set (B := B) UI.out HD.out U6 S6))
        clear R6 U6 S6
        go_wp2_with fail
        go_ret
        unfold RDelPost
        rw [HC.out, Int.toNat_natCast]
        refine ⟨F', rfl, ?_, R.out.2⟩
        have := R.out.1
        rw [← HA.out] at this
        exact this
end Go.Proofs.YtfbeaklplefojaaGreatDoor

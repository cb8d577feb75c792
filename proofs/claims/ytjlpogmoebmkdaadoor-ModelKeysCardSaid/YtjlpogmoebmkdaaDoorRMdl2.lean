/-
  concordref08.State: Get, Ceil, Range.
-/
import Derived.Test.YtjlpogmoebmkdaaDoorRMdl
set_option linter.unusedVariables false
namespace Go.Proofs.YtjlpogmoebmkdaaDoor
open Go.RowKit Assoc MP
attribute [local go_sem] litStep_value

set_option maxRecDepth 100000 in
set_option maxHeartbeats 2000000 in
theorem rm_get (B rb : Nat) (F : List Nat) (s : MS) (c k : Int) (w : World) (h : RMdl B rb F w s) :
    Calls Tryd.prog 34 #[.pointer (some ⟨rb, 0, none⟩), .int .i64 c, .int .i64 k] w fun e w' => e = .returned (.tuple #[.int .i64 (if isC s c then (get (coll s c.toNat) k).getD 0 else 0), .bool (if isC s c then (get (coll s c.toNat) k).isSome else false), .int .i64 (if isC s c then 0 else 3)]) ∧ w = w' := by
  have H := Lib.hid h
  cases hc : isC s c with
  | false =>
    have HC := Lib.hid hc
    clear h hc
    go_enter Tryd.func34, Tryd.ntmps34
    go_wp2_with fail
    refine (rm_there B rb F s c w H.out).mono ?_; rintro e w' ⟨rfl, rfl⟩
    rw [HC.out]
    go_wp2_with fail
    go_ret3
    exact ⟨rfl, rfl⟩
  | true =>
    have HC := Lib.hid hc
    obtain ⟨i, rfl, hi⟩ := isC_form hc
    obtain ⟨hgd, vk, vl, ms, hF, hst⟩ := h
    obtain ⟨gl, cl, Ai, ci, rfl, hcell, hoi, _⟩ := hst.at_ hi
    obtain ⟨N, hN⟩ : ∃ N, s.L.length = N := ⟨_, rfl⟩
    obtain ⟨n, hn⟩ : ∃ n, (coll s i).length = n := ⟨_, rfl⟩
    have hn1 : n ≤ 100 := hn ▸ hgd.len _ (coll_mem hi)
    have hi2 : i < N := hN ▸ hi
    have c1 : w.cell? ⟨rb, 1, none⟩ = some (.slice (some ⟨gl, 0, none⟩) N cl) := by rw [← hN]; exact hst.box.cell 1
    have e0 : w.cell? ⟨gl, i, none⟩ = some (.slice Ai n ci) := by rw [← hn]; exact hcell
    have ON : Hid (w.ownsRow B 36 2 (.slice Ai n ci) n (flat encPr (coll s i))) := Lib.hid (by have := hoi; unfold Ow at this; rw [hn] at this; exact this)
    have HN := Lib.hid hn
    have OI : Hid (Ow encPr 36 w B (.slice Ai n ci) (coll s i)) := Lib.hid (by rw [← hn]; exact hoi)
    have q1 : (0 : Int) ≤ (i : Int) := by omega
    have q2 : (i : Int) < (N : Int) := by omega
    clear hcell hoi hN hn
    rw [Int.toNat_natCast]
    have HII := Lib.hid hi
    obtain ⟨ov, hov⟩ : ∃ ov, (get (coll s i) k).getD 0 = ov := ⟨_, rfl⟩
    obtain ⟨is, his⟩ : ∃ is, (get (coll s i) k).isSome = is := ⟨_, rfl⟩
    have HR : Hid ((get (coll s i) k).getD 0 = ov ∧ (get (coll s i) k).isSome = is) := Lib.hid ⟨hov, his⟩
    simp only [if_true]
    rw [hov, his]
    clear hov his hc hgd hst hF hi
    go_enter Tryd.func34, Tryd.ntmps34
    go_wp2_with fail
    refine (rm_there B rb F s i w H.out).mono ?_; rintro e w' ⟨rfl, rfl⟩
    rw [HC.out]
    go_wp2_with fail
    refine (rm_find B rb F s i k w H.out HII.out).mono ?_; rintro e w' ⟨rfl, rfl⟩
    cases hg : get (coll s i) k with
    | none =>
      obtain ⟨pv, hpv⟩ : ∃ p, posW (coll s i) k = p := ⟨_, rfl⟩
      have q0 : pv < 0 := by rw [← hpv, posW_none hg]; omega
      have HZ : Hid (ov = 0 ∧ is = false) := Lib.hid (by have := HR.out; rw [hg] at this; exact ⟨this.1.symm, this.2.symm⟩)
      rw [hpv]
      clear hg hpv
      go_wp2_with fail
      go_ret3
      rw [HZ.out.1, HZ.out.2]
      exact ⟨rfl, rfl⟩
    | some v =>
      obtain ⟨j, hp1, hp2⟩ := posW_some hg
      have hjn : j < n := by rw [← HN.out]; exact (List.getElem?_eq_some_iff.1 hp2).1
      have HZ : Hid (ov = v ∧ is = true) := Lib.hid (by have := HR.out; rw [hg] at this; exact ⟨this.1.symm, this.2.symm⟩)
      rw [hp1]
      have q0 : (0 : Int) ≤ (j : Int) := by omega
      obtain ⟨⟨xc, xv⟩, hx⟩ : ∃ x, (coll s i)[j]? = some x := ⟨_, List.getElem?_eq_getElem (by rw [HN.out]; omega)⟩
      obtain ⟨gw, cgw, curw, e1, _⟩ := own_form ON.out (by omega)
      injection e1 with e1 _ e1'
      subst e1 e1'
      have f0 : w.cell? ⟨gw, j * 2, none⟩ = some (.int .i64 xc) := OI.out.at_ hx 0 _ rfl
      have f1 : w.cell? ⟨gw, j * 2 + 1, none⟩ = some (.int .i64 xv) := OI.out.at_ hx 1 _ rfl
      have HX := Lib.hid hx
      have q3 : (0 : Int) ≤ (j : Int) := by omega
      have q4 : (j : Int) < (n : Int) := by omega
      clear hx
      obtain ⟨rfl, rfl⟩ : xc = k ∧ xv = v := by have := HX.out; rw [hp2] at this; injection this with this; injection this with h1 h2; exact ⟨h1.symm, h2.symm⟩
      clear hg hp1 hp2
      go_wp2_with fail
      go_ret3
      rw [HZ.out.1, HZ.out.2]
      exact ⟨rfl, rfl⟩
theorem ceil_first {l : AL} {k : Int} {j : Nat} (h : ∀ p, p < j → (l.getD p default).1 < k) {x : Int × Int} (hx : l[j]? = some x) (hk : k ≤ x.1) : ceilL l k = some x.1 := by
  unfold ceilL
  obtain ⟨hj, rfl⟩ := List.getElem?_eq_some_iff.1 hx
  have : l.find? (fun p => decide (k ≤ p.1)) = some l[j] := by
    rw [List.find?_eq_some_iff_getElem]
    refine ⟨by simpa using hk, j, hj, rfl, fun p hp => ?_⟩
    have := h p hp
    rw [List.getD_eq_getElem?_getD, List.getElem?_eq_getElem (by omega)] at this
    simpa using this
  rw [this]
  rfl
theorem ceil_no {l : AL} {k : Int} (h : ∀ p, p < l.length → (l.getD p default).1 < k) : ceilL l k = none := by
  unfold ceilL
  rw [Option.map_eq_none_iff, List.find?_eq_none]
  intro x hx
  obtain ⟨j, hj, rfl⟩ := List.getElem_of_mem hx
  have := h j hj
  rw [List.getD_eq_getElem?_getD, List.getElem?_eq_getElem hj] at this
  simpa using this
set_option maxRecDepth 100000 in
set_option maxHeartbeats 2000000 in
theorem rm_ceil (B rb : Nat) (F : List Nat) (s : MS) (c k : Int) (w : World) (h : RMdl B rb F w s) :
    Calls Tryd.prog 37 #[.pointer (some ⟨rb, 0, none⟩), .int .i64 c, .int .i64 k] w fun e w' => e = .returned (.tuple #[.int .i64 ((ceilC s c k).getD 0), .bool (ceilC s c k).isSome, .int .i64 (oErr s c)]) ∧ w = w' := by
  have H := Lib.hid h
  obtain ⟨r, hr⟩ : ∃ r, ceilC s c k = r := ⟨_, rfl⟩
  obtain ⟨oe, hoe⟩ : ∃ oe, oErr s c = oe := ⟨_, rfl⟩
  have HR := Lib.hid hr
  have HOE := Lib.hid hoe
  rw [hr, hoe]
  clear hr hoe
  cases hc : isC s c with
  | false =>
    have HC := Lib.hid hc
    have HZ : Hid (oe = 3 ∧ r = none) := Lib.hid (by
      have h1 : oErr s c = 3 := by unfold oErr; rw [hc]; rfl
      exact ⟨by rw [← HOE.out, h1], by rw [← HR.out]; unfold ceilC; rw [h1]; rfl⟩)
    clear h hc
    go_enter Tryd.func37, Tryd.ntmps37
    go_wp2_with fail
    refine (rm_there B rb F s c w H.out).mono ?_; rintro e w' ⟨rfl, rfl⟩
    rw [HC.out]
    go_wp2_with fail
    go_ret3
    rw [HZ.out.1, HZ.out.2]
    exact ⟨rfl, rfl⟩
  | true =>
    have HC := Lib.hid hc
    obtain ⟨i, rfl, hi⟩ := isC_form hc
    obtain ⟨hgd, vk, vl, ms, hF, hst⟩ := h
    obtain ⟨Ak, ck, rfl, hnk, _⟩ := own_slice hst.k
    obtain ⟨NK, hNK⟩ : ∃ NK, s.K.length = NK := ⟨_, rfl⟩
    have hik : i < NK := by rw [← hNK, hgd.kl]; exact hi
    have OK : Hid (w.ownsRow B 3 1 (.slice Ak NK ck) NK (flat encK s.K)) := Lib.hid (by have := hst.k; unfold Ow at this; rw [hNK] at this; exact this)
    obtain ⟨gk, cg, cur, e1, _⟩ := own_form OK.out (by omega)
    injection e1 with e1 _ e1'
    subst e1 e1'
    obtain ⟨y, hy⟩ : ∃ y, s.K[i]? = some y := ⟨_, List.getElem?_eq_getElem (by rw [hNK]; exact hik)⟩
    have k0 : w.cell? ⟨gk, i, none⟩ = some (.int .i64 y) := by
      have := own_cell OK.out _ _ ((flat_get (E := encK) hy (j := 0) (by decide)).trans rfl)
      rwa [show i * encK.s + 0 = i by simp [encI]] at this
    have c0 : w.cell? ⟨rb, 0, none⟩ = some (.slice (some ⟨gk, 0, none⟩) NK ck) := by rw [← hNK]; exact hst.box.cell 0
    have q5 : (i : Int) < (NK : Int) := by omega
    have HE : Hid (oErr s i = if y = 3 then 0 else 17) := Lib.hid (by unfold oErr; rw [isC_nat hi, Int.toNat_natCast, List.getD_eq_getElem?_getD, hy]; rfl)
    clear hNK hy
    obtain ⟨gl, cl, Ai, ci, rfl, hcell, hoi, _⟩ := hst.at_ hi
    obtain ⟨N, hN⟩ : ∃ N, s.L.length = N := ⟨_, rfl⟩
    obtain ⟨n, hn⟩ : ∃ n, (coll s i).length = n := ⟨_, rfl⟩
    have hn1 : n ≤ 100 := hn ▸ hgd.len _ (coll_mem hi)
    have hi2 : i < N := hN ▸ hi
    have c1 : w.cell? ⟨rb, 1, none⟩ = some (.slice (some ⟨gl, 0, none⟩) N cl) := by rw [← hN]; exact hst.box.cell 1
    have e0 : w.cell? ⟨gl, i, none⟩ = some (.slice Ai n ci) := by rw [← hn]; exact hcell
    have ON : Hid (w.ownsRow B 36 2 (.slice Ai n ci) n (flat encPr (coll s i))) := Lib.hid (by have := hoi; unfold Ow at this; rw [hn] at this; exact this)
    have HN := Lib.hid hn
    have OI : Hid (Ow encPr 36 w B (.slice Ai n ci) (coll s i)) := Lib.hid (by rw [← hn]; exact hoi)
    have q1 : (0 : Int) ≤ (i : Int) := by omega
    have q2 : (i : Int) < (N : Int) := by omega
    clear hcell hoi hN hn
    clear hc hgd hst hF hi
    go_enter Tryd.func37, Tryd.ntmps37
    go_wp2_with fail
    refine (rm_there B rb F s i w H.out).mono ?_; rintro e w' ⟨rfl, rfl⟩
    rw [HC.out]
    by_cases h3 : y = 3
    · have d3 : (y != 3) = false := by simpa using h3
      have HE0 : Hid (oErr s i = 0) := Lib.hid (by rw [HE.out, if_pos h3])
      have HRC : Hid (r = ceilL (coll s i) k) := Lib.hid (by rw [← HR.out]; unfold ceilC; rw [HE0.out, if_pos rfl, Int.toNat_natCast])
      have HO0 : Hid (oe = 0) := Lib.hid (by rw [← HOE.out, HE0.out])
      clear h3
      go_wp2_with fail
      clear k0 c0
      go_loop [9] (fun v => ∃ j : Nat, v = .int .i64 j ∧ j ≤ n ∧ Hid (∀ p, p < j → ((coll s i).getD p default).1 < k)) (fun v => n - (intOf v).toNat)
      case atStart => exact ⟨0, rfl, by omega, Lib.hid (fun j hj => by omega)⟩
      case round =>
        obtain ⟨j, rfl, hj, HA⟩ := hrel
        by_cases hjn : j < n
        ·
          obtain ⟨⟨xc, xv⟩, hx⟩ : ∃ x, (coll s i)[j]? = some x := ⟨_, List.getElem?_eq_getElem (by rw [HN.out]; omega)⟩
          obtain ⟨gw, cgw, curw, e1, _⟩ := own_form ON.out (by omega)
          injection e1 with e1 _ e1'
          subst e1 e1'
          have f0 : w.cell? ⟨gw, j * 2, none⟩ = some (.int .i64 xc) := OI.out.at_ hx 0 _ rfl
          have f1 : w.cell? ⟨gw, j * 2 + 1, none⟩ = some (.int .i64 xv) := OI.out.at_ hx 1 _ rfl
          have HX := Lib.hid hx
          have q3 : (0 : Int) ≤ (j : Int) := by omega
          have q4 : (j : Int) < (n : Int) := by omega
          clear hx
          by_cases hid : k ≤ xc
          · have d1 : decide (k ≤ xc) = true := by simpa using hid
            have HZ : Hid (r = some xc) := Lib.hid (by rw [HRC.out]; exact ceil_first HA.out HX.out hid)
            clear hid
            go_wp2_with fail
            go_ret3
            rw [HZ.out, HO0.out]
            exact ⟨rfl, rfl⟩
          · have d1 : decide (k ≤ xc) = false := by simpa using hid
            have HZ : Hid (∀ p, p < j + 1 → ((coll s i).getD p default).1 < k) := Lib.hid (fun p hp => by
              by_cases e : p = j
              · rw [e, List.getD_eq_getElem?_getD, HX.out]; show xc < k; omega
              · exact HA.out p (by omega))
            clear hid
            go_wp2_with fail
            go_round
            case rel => exact ⟨j + 1, by go_num, by omega, HZ⟩
            case measure => simp [intOf]; omega
        · have : j = n := by omega
          subst this
          have HZ : Hid (r = none) := Lib.hid (by rw [HRC.out]; exact ceil_no (by rw [HN.out]; exact HA.out))
          go_wp2_with fail
          go_ret3
          rw [HZ.out, HO0.out]
          exact ⟨rfl, rfl⟩
    · have d3 : (y != 3) = true := by simpa using h3
      have HZ : Hid (oe = 17 ∧ r = none) := Lib.hid (by
        have h1 : oErr s i = 17 := by rw [HE.out, if_neg h3]
        exact ⟨by rw [← HOE.out, h1], by rw [← HR.out]; unfold ceilC; rw [h1]; rfl⟩)
      clear h3
      go_wp2_with fail
      go_ret3
      rw [HZ.out.1, HZ.out.2]
      exact ⟨rfl, rfl⟩
set_option maxRecDepth 100000 in
set_option maxHeartbeats 4000000 in
theorem rm_range (B rb : Nat) (F : List Nat) (s : MS) (c a b : Int) (w : World) (h : RMdl B rb F w s) :
    Calls Tryd.prog 38 #[.pointer (some ⟨rb, 0, none⟩), .int .i64 c, .int .i64 a, .int .i64 b] w fun e w' => e = .returned (.tuple #[.int .i64 (rangeC s c a b : Nat), .int .i64 (oErr s c)]) ∧ w = w' := by
  have H := Lib.hid h
  obtain ⟨r, hr⟩ : ∃ r, rangeC s c a b = r := ⟨_, rfl⟩
  obtain ⟨oe, hoe⟩ : ∃ oe, oErr s c = oe := ⟨_, rfl⟩
  have HR := Lib.hid hr
  have HOE := Lib.hid hoe
  rw [hr, hoe]
  clear hr hoe
  cases hc : isC s c with
  | false =>
    have HC := Lib.hid hc
    have HZ : Hid (oe = 3 ∧ r = 0) := Lib.hid (by
      have h1 : oErr s c = 3 := by unfold oErr; rw [hc]; rfl
      exact ⟨by rw [← HOE.out, h1], by rw [← HR.out]; unfold rangeC; rw [h1]; rfl⟩)
    clear h hc
    go_enter Tryd.func38, Tryd.ntmps38
    go_wp2_with fail
    refine (rm_there B rb F s c w H.out).mono ?_; rintro e w' ⟨rfl, rfl⟩
    rw [HC.out]
    go_wp2_with fail
    go_ret2
    rw [HZ.out.1, HZ.out.2]
    exact ⟨rfl, rfl⟩
  | true =>
    have HC := Lib.hid hc
    obtain ⟨i, rfl, hi⟩ := isC_form hc
    obtain ⟨hgd, vk, vl, ms, hF, hst⟩ := h
    obtain ⟨Ak, ck, rfl, hnk, _⟩ := own_slice hst.k
    obtain ⟨NK, hNK⟩ : ∃ NK, s.K.length = NK := ⟨_, rfl⟩
    have hik : i < NK := by rw [← hNK, hgd.kl]; exact hi
    have OK : Hid (w.ownsRow B 3 1 (.slice Ak NK ck) NK (flat encK s.K)) := Lib.hid (by have := hst.k; unfold Ow at this; rw [hNK] at this; exact this)
    obtain ⟨gk, cg, cur, e1, _⟩ := own_form OK.out (by omega)
    injection e1 with e1 _ e1'
    subst e1 e1'
    obtain ⟨y, hy⟩ : ∃ y, s.K[i]? = some y := ⟨_, List.getElem?_eq_getElem (by rw [hNK]; exact hik)⟩
    have k0 : w.cell? ⟨gk, i, none⟩ = some (.int .i64 y) := by
      have := own_cell OK.out _ _ ((flat_get (E := encK) hy (j := 0) (by decide)).trans rfl)
      rwa [show i * encK.s + 0 = i by simp [encI]] at this
    have c0 : w.cell? ⟨rb, 0, none⟩ = some (.slice (some ⟨gk, 0, none⟩) NK ck) := by rw [← hNK]; exact hst.box.cell 0
    have q5 : (i : Int) < (NK : Int) := by omega
    have HE : Hid (oErr s i = if y = 3 then 0 else 17) := Lib.hid (by unfold oErr; rw [isC_nat hi, Int.toNat_natCast, List.getD_eq_getElem?_getD, hy]; rfl)
    clear hNK hy
    obtain ⟨gl, cl, Ai, ci, rfl, hcell, hoi, _⟩ := hst.at_ hi
    obtain ⟨N, hN⟩ : ∃ N, s.L.length = N := ⟨_, rfl⟩
    obtain ⟨n, hn⟩ : ∃ n, (coll s i).length = n := ⟨_, rfl⟩
    have hn1 : n ≤ 100 := hn ▸ hgd.len _ (coll_mem hi)
    have hi2 : i < N := hN ▸ hi
    have c1 : w.cell? ⟨rb, 1, none⟩ = some (.slice (some ⟨gl, 0, none⟩) N cl) := by rw [← hN]; exact hst.box.cell 1
    have e0 : w.cell? ⟨gl, i, none⟩ = some (.slice Ai n ci) := by rw [← hn]; exact hcell
    have ON : Hid (w.ownsRow B 36 2 (.slice Ai n ci) n (flat encPr (coll s i))) := Lib.hid (by have := hoi; unfold Ow at this; rw [hn] at this; exact this)
    have HN := Lib.hid hn
    have OI : Hid (Ow encPr 36 w B (.slice Ai n ci) (coll s i)) := Lib.hid (by rw [← hn]; exact hoi)
    have q1 : (0 : Int) ≤ (i : Int) := by omega
    have q2 : (i : Int) < (N : Int) := by omega
    clear hcell hoi hN hn
    clear hc hgd hst hF hi
    go_enter Tryd.func38, Tryd.ntmps38
    go_wp2_with fail
    refine (rm_there B rb F s i w H.out).mono ?_; rintro e w' ⟨rfl, rfl⟩
    rw [HC.out]
    by_cases h3 : y = 3
    · have d3 : (y != 3) = false := by simpa using h3
      have HE0 : Hid (oErr s i = 0) := Lib.hid (by rw [HE.out, if_pos h3])
      have HRC : Hid (r = rangeK ((coll s i).map (·.1)) a b) := Lib.hid (by rw [← HR.out]; unfold rangeC; rw [HE0.out, if_pos rfl, Int.toNat_natCast, rangeL_eq])
      have HO0 : Hid (oe = 0) := Lib.hid (by rw [← HOE.out, HE0.out])
      clear h3
      go_wp2_with fail
      clear k0 c0
      go_loop [10, 11] (fun vm v => ∃ j : Nat, v = .int .i64 j ∧ vm = .int .i64 (rangeK (((coll s i).map (·.1)).take j) a b : Nat) ∧ j ≤ n ∧ Hid (rangeK (((coll s i).map (·.1)).take j) a b ≤ j)) (fun _ v => n - (intOf v).toNat)
      case atStart => exact ⟨0, rfl, rfl, by omega, Lib.hid (by simp [rangeK])⟩
      case round =>
        obtain ⟨j, rfl, rfl, hj, HJ⟩ := hrel
        obtain ⟨m, hm⟩ : ∃ m, rangeK (((coll s i).map (·.1)).take j) a b = m := ⟨_, rfl⟩
        have HM := Lib.hid hm
        have hmj : m ≤ j := hm ▸ HJ.out
        rw [hm]
        clear hm
        by_cases hjn : j < n
        ·
          obtain ⟨⟨xc, xv⟩, hx⟩ : ∃ x, (coll s i)[j]? = some x := ⟨_, List.getElem?_eq_getElem (by rw [HN.out]; omega)⟩
          obtain ⟨gw, cgw, curw, e1, _⟩ := own_form ON.out (by omega)
          injection e1 with e1 _ e1'
          subst e1 e1'
          have f0 : w.cell? ⟨gw, j * 2, none⟩ = some (.int .i64 xc) := OI.out.at_ hx 0 _ rfl
          have f1 : w.cell? ⟨gw, j * 2 + 1, none⟩ = some (.int .i64 xv) := OI.out.at_ hx 1 _ rfl
          have HX := Lib.hid hx
          have q3 : (0 : Int) ≤ (j : Int) := by omega
          have q4 : (j : Int) < (n : Int) := by omega
          clear hx
          have HT : Hid (((coll s i).map (·.1)).take (j + 1) = ((coll s i).map (·.1)).take j ++ [xc]) := Lib.hid (take_snoc_ (by rw [List.getElem?_map, HX.out]; rfl))
          by_cases h1 : a ≤ xc
          · have d1 : decide (a ≤ xc) = true := by simpa using h1
            by_cases h2 : xc ≤ b
            · have d2 : decide (xc ≤ b) = true := by simpa using h2
              have HZ : Hid (rangeK (((coll s i).map (·.1)).take (j + 1)) a b = m + 1) := Lib.hid (by rw [HT.out, rangeK_snoc, HM.out, if_pos ⟨h1, h2⟩])
              go_wp2_with fail
              go_round
              case rel => exact ⟨j + 1, by go_num, by rw [HZ.out]; go_num, by omega, Lib.hid (by rw [HZ.out]; omega)⟩
              case measure => simp [intOf]; omega
            · have d2 : decide (xc ≤ b) = false := by simpa using h2
              have HZ : Hid (rangeK (((coll s i).map (·.1)).take (j + 1)) a b = m + 0) := Lib.hid (by rw [HT.out, rangeK_snoc, HM.out, if_neg (fun h => h2 h.2)])
              go_wp2_with fail
              go_round
              case rel => exact ⟨j + 1, by go_num, by rw [HZ.out]; go_num, by omega, Lib.hid (by rw [HZ.out]; omega)⟩
              case measure => simp [intOf]; omega
          · have d1 : decide (a ≤ xc) = false := by simpa using h1
            have HZ : Hid (rangeK (((coll s i).map (·.1)).take (j + 1)) a b = m + 0) := Lib.hid (by rw [HT.out, rangeK_snoc, HM.out, if_neg (fun h => h1 h.1)])
            go_wp2_with fail
            go_round
            case rel => exact ⟨j + 1, by go_num, by rw [HZ.out]; go_num, by omega, Lib.hid (by rw [HZ.out]; omega)⟩
            case measure => simp [intOf]; omega
        · obtain rfl : j = n := by omega
          have HZ : Hid (r = m) := Lib.hid (by rw [HRC.out, ← HM.out, List.take_of_length_le (by rw [List.length_map, HN.out]; exact Nat.le_refl _)])
          go_wp2_with fail
          go_ret2
          rw [HZ.out, HO0.out]
          exact ⟨rfl, rfl⟩
    · have d3 : (y != 3) = true := by simpa using h3
      have HZ : Hid (oe = 17 ∧ r = 0) := Lib.hid (by
        have h1 : oErr s i = 17 := by rw [HE.out, if_neg h3]
        exact ⟨by rw [← HOE.out, h1], by rw [← HR.out]; unfold rangeC; rw [h1]; rfl⟩)
      clear h3
      go_wp2_with fail
      go_ret2
      rw [HZ.out.1, HZ.out.2]
      exact ⟨rfl, rfl⟩
end Go.Proofs.YtjlpogmoebmkdaaDoor

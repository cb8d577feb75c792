/-
  OrderTurned: the walk.
-/
import Derived.Test.YtegpfhldbdegbaaDoorOAlive
import Derived.Test.YtegpfhldbdegbaaDoorLawOTime
import Derived.Deep.DrawnRows
import Derived.IntWalk
set_option linter.unusedVariables false
namespace Go.Proofs.YtegpfhldbdegbaaDoor
open Go.RowKit
attribute [local go_sem ↓] Go.wp_at_zero Go.wp_at_succ

theorem att_info : (Tryd.prog.info? 38).map (fun i => (i.zero, i.size, i.bytes)) = some (some (.agg #[.int .i64 0, .int .i64 0, .int .i64 0, .bool false, .int .i64 0, .int .i64 0]), 6, 48) := by kernel_rfl
theorem att_elem : Elem Tryd.prog 22 38 6 48 := .mk' Tryd.underlying22 att_info rfl (by omega)

theorem flat_len (L : List Att) : (L.flatMap flatA).length = L.length * 6 := by
  induction L with
  | nil => rfl
  | cons a L ih => rw [List.flatMap_cons, List.length_append, ih]; simp [flatA]; omega
theorem flat_one (L : List Att) : ∀ u ∈ L.flatMap flatA, u.oneCell' = true := by
  intro u hu
  simp only [List.mem_flatMap] at hu
  obtain ⟨a, _, hu⟩ := hu
  simp only [flatA, List.mem_cons, List.not_mem_nil, or_false] at hu
  rcases hu with rfl | rfl | rfl | rfl | rfl | rfl <;> rfl
theorem flat_take (L : List Att) (k : Nat) : (L.flatMap flatA).take (k * 6) = (L.take k).flatMap flatA := by
  induction L generalizing k with
  | nil => simp
  | cons a L ih =>
    cases k with
    | zero => simp
    | succ k =>
      rw [List.flatMap_cons, show (k + 1) * 6 = (flatA a).length + k * 6 by simp [flatA]; omega, List.take_length_add_append, ih]
      simp
theorem flat_drop (L : List Att) (k : Nat) : (L.flatMap flatA).drop (k * 6) = (L.drop k).flatMap flatA := by
  induction L generalizing k with
  | nil => simp
  | cons a L ih =>
    cases k with
    | zero => simp
    | succ k =>
      rw [List.flatMap_cons, show (k + 1) * 6 = (flatA a).length + k * 6 by simp [flatA]; omega, List.drop_length_add_append, ih]
      simp
theorem Atts.cell {w : World} {A : Option Addr} {L : List Att} (h : Atts w A L) (k j : Nat) (v : Att) (hk : L[k]? = some v) (hj : j < 6) : ∃ ad, A = some ad ∧ ad.block < w.heap.size ∧ ∀ u, (flatA v)[j]? = some u → w.cell? (ad.add (k * 6 + j)) = some u := by
  obtain ⟨ad, e, c0, c1, c2, c3, c4, c5, hl⟩ := h k v hk
  refine ⟨ad, e, by rwa [block_add] at hl, fun u hu => ?_⟩
  match j, hj with
  | 0, _ => simp [flatA] at hu; subst hu; exact c0
  | 1, _ => simp [flatA] at hu; subst hu; rw [add_more ad (k * 6) 0]; exact c1
  | 2, _ => simp [flatA] at hu; subst hu; rw [add_more ad (k * 6) 1]; exact c2
  | 3, _ => simp [flatA] at hu; subst hu; rw [add_more ad (k * 6) 2]; exact c3
  | 4, _ => simp [flatA] at hu; subst hu; rw [add_more ad (k * 6) 3]; exact c4
  | 5, _ => simp [flatA] at hu; subst hu; rw [add_more ad (k * 6) 4]; exact c5
/-- A list of attempts as append's source. -/
theorem Atts.src {w : World} {A : Option Addr} {L : List Att} {n c : Nat} (h : Atts w A L) (hn : L.length = n) : Src w 6 (.slice A n c) n (L.flatMap flatA) := by
  refine ⟨by rw [flat_len, hn], A, c, rfl, fun j u hj => ?_⟩
  have hjl : j < L.length * 6 := by have := (List.getElem?_eq_some_iff.1 hj).1; rwa [flat_len] at this
  have hk : j / 6 < L.length := by omega
  obtain ⟨ad, e, hl, hc⟩ := h.cell (j / 6) (j % 6) _ (List.getElem?_eq_getElem hk) (by omega)
  have hj' : j / 6 * 6 + j % 6 = j := by omega
  refine ⟨ad, e, hl, ?_⟩
  have := flatA_at L (j / 6) _ (j % 6) (List.getElem?_eq_getElem hk) (by omega)
  rw [hj', hj] at this
  have h2 := hc u this.symm
  rwa [hj'] at h2
/-- A slice of attempts that the call owns. -/
theorem atts_of_own {w : World} {B n : Nat} {t : TypeId} {v : Value} {L : List Att} (h : w.ownsRow B t 6 v n (L.flatMap flatA)) : ∃ A c, v = .slice A n c ∧ n ≤ c ∧ c ≤ 9223372036854775807 ∧ Atts w A L ∧ L.length = n := by
  have hl : L.length = n := by have := h.1; rw [flat_len] at this; omega
  obtain ⟨A, c, rfl, h1, h2⟩ := own_slice h
  refine ⟨A, c, rfl, h1, by simp only [maxLen] at h2; omega, ?_, hl⟩
  intro k v hk
  have hkl : k < L.length := (List.getElem?_eq_some_iff.1 hk).1
  obtain ⟨g, c', cur, he, _, hb, _⟩ := own_form h (by omega)
  injection he with he _ he2
  subst he he2
  have key : ∀ j u, j < 6 → (flatA v)[j]? = some u → w.cell? ⟨g, k * 6 + j, none⟩ = some u := fun j u hj hu => own_cell h _ _ (by rw [flatA_at L k v j hk hj]; exact hu)
  refine ⟨_, rfl, ?_, ?_, ?_, ?_, ?_, ?_, ?_⟩
  all_goals rw [add_head]
  · exact key 0 _ (by omega) rfl
  · exact key 1 _ (by omega) rfl
  · exact key 2 _ (by omega) rfl
  · exact key 3 _ (by omega) rfl
  · exact key 4 _ (by omega) rfl
  · exact key 5 _ (by omega) rfl
  · exact hb.lt

/-- Two attempts that the order can't tell apart, but for their places. -/
def alike (a b : Att) : Prop := a.st = b.st ∧ a.wr = b.wr ∧ a.en = b.en
def keyLt (a b : Att) : Prop := a.st < b.st ∨ a.st = b.st ∧ (rk a.wr < rk b.wr ∨ rk a.wr = rk b.wr ∧ a.en < b.en)
theorem rk_inj {a b : Bool} (h : rk a = rk b) : a = b := by cases a <;> cases b <;> simp_all [rk]
/-- The attempts in their order: by their keys, as no two are alike. -/
theorem sorted_keys (L : List Att) (n : Nat) (hn : L.length = n) (hu : ∀ i k, i < n → k < n → i ≠ k → ¬ alike (L.getD i default) (L.getD k default)) :
    ((srt (ahd L) (List.range n)).map (fun i => L.getD i default)).Pairwise keyLt ∧ ((srt (ahd L) (List.range n)).map (fun i => L.getD i default)).Perm L := by
  constructor
  · rw [List.pairwise_map]
    have hp := srt_pairwise (ahd_tot L) (List.range n) List.nodup_range
    refine hp.imp_of_mem fun {a b} ha hb h => ?_
    have han : a < n := by simpa using (srt_perm (lt := ahd L) (List.range n)).mem_iff.1 ha
    have hbn : b < n := by simpa using (srt_perm (lt := ahd L) (List.range n)).mem_iff.1 hb
    have hne : a ≠ b := by rintro rfl; rw [(ahd_tot L).irr] at h; cases h
    have hna := hu a b han hbn hne
    rw [ahd_iff] at h
    unfold keyLt
    rcases h with h | ⟨h1, h | ⟨h2, h | ⟨h3, _⟩⟩⟩
    · exact .inl h
    · exact .inr ⟨h1, .inl h⟩
    · exact .inr ⟨h1, .inr ⟨h2, h⟩⟩
    · exact absurd ⟨h1, rk_inj h2, h3⟩ hna
  · have h1 := (srt_perm (lt := ahd L) (List.range n)).map (fun i => L.getD i default)
    have h2 : (List.range n).map (fun i => L.getD i default) = L := by
      apply List.ext_getElem
      · simp [hn]
      · intro i h1 h2
        simp [List.getElem?_eq_getElem h2]
    rwa [h2] at h1
/-- Turned lists of attempts that are unlike stand in one order. -/
theorem turned_eq (L M : List Att) (n : Nat) (hn : L.length = n) (hm : M.Perm L) (hu : ∀ i k, i < n → k < n → i ≠ k → ¬ alike (L.getD i default) (L.getD k default)) :
    (srt (ahd L) (List.range n)).map (fun i => L.getD i default) = (srt (ahd M) (List.range n)).map (fun i => M.getD i default) := by
  have hml : M.length = n := by rw [hm.length_eq, hn]
  have pl : L.Pairwise (fun a b => ¬ alike a b) := by
    rw [List.pairwise_iff_getElem]
    intro i j hi hj hij
    have := hu i j (by omega) (by omega) (by omega)
    rwa [List.getD_eq_getElem?_getD, List.getD_eq_getElem?_getD, List.getElem?_eq_getElem hi, List.getElem?_eq_getElem hj] at this
  have sym : ∀ {a b : Att}, ¬ alike a b → ¬ alike b a := fun h h2 => h ⟨h2.1.symm, h2.2.1.symm, h2.2.2.symm⟩
  have pm : M.Pairwise (fun a b => ¬ alike a b) := hm.symm.pairwise pl sym
  have hum : ∀ i k, i < n → k < n → i ≠ k → ¬ alike (M.getD i default) (M.getD k default) := by
    intro i k hi hk hne
    rw [List.getD_eq_getElem?_getD, List.getD_eq_getElem?_getD, List.getElem?_eq_getElem (by omega), List.getElem?_eq_getElem (by omega)]
    rcases Nat.lt_or_gt_of_ne hne with h | h
    · exact List.pairwise_iff_getElem.1 pm i k (by omega) (by omega) h
    · exact sym (List.pairwise_iff_getElem.1 pm k i (by omega) (by omega) h)
  obtain ⟨s1, p1⟩ := sorted_keys L n hn hu
  obtain ⟨s2, p2⟩ := sorted_keys M n hml hum
  refine List.Perm.eq_of_pairwise ?_ s1 s2 ((p1.trans hm.symm).trans p2.symm)
  intro a b _ _ h1 h2
  unfold keyLt at h1 h2
  omega

theorem turn_of (t : Int) (n : Nat) (h0 : 0 < n) (h60 : n ≤ 60) : ∃ d : Nat, (wrap64 (t.tmod (n : Int) + n)).tmod n = (d : Int) ∧ d < n := by
  have h1 : t.tmod (n : Int) < n := Int.tmod_lt_of_pos t (by omega)
  have h2 : -(n : Int) < t.tmod (n : Int) := by
    have := Int.lt_tmod_of_pos t (show (0 : Int) < n by omega)
    exact this
  have hw : wrap64 (t.tmod (n : Int) + n) = t.tmod (n : Int) + n := by
    exact IntWalk.wrap64_in _ (by omega)
  rw [hw]
  have h3 : 0 ≤ (t.tmod (n : Int) + n).tmod n := Int.tmod_nonneg _ (by omega)
  have h4 : (t.tmod (n : Int) + n).tmod n < n := Int.tmod_lt_of_pos _ (by omega)
  exact ⟨((t.tmod (n : Int) + n).tmod n).toNat, by omega, by omega⟩
set_option maxRecDepth 100000 in
set_option maxHeartbeats 4000000 in
theorem oturned_walk (A : Option Addr) (n c : Nat) (L : List Att) (t : Int) (w : World) (hA : Atts w A L) (hn : L.length = n) (hn0 : 0 < n) (hnm : n ≤ 60) (hc : n ≤ c) (hcm : c ≤ 9223372036854775807) (hg : Typed w) :
    Calls Tryd.prog 6 #[.slice A n c, .int .i64 t] w fun e w' => e = .returned (.bool true) ∧ Upd [] w w' := by
  have HG := Lib.hid hg
  have HN := Lib.hid hn
  have HA := Lib.hid hA
  have e0 : ((n : Int) == 0) = false := by
    have : ¬ (n : Int) = 0 := by omega
    simpa using this
  clear hg hA hn
  go_enter Tryd.func6, Tryd.ntmps6
  go_wp2_with fail
  go_loopw [23] (fun u wr => ∃ i : Nat, u = .int .i64 i ∧ i ≤ n ∧ Hid (Upd [] w wr) ∧ Hid (∀ j, j < i → ∀ k, k < j → ¬ alike (L.getD j default) (L.getD k default))) (fun u _ => n - (intOf u).toNat)
  case atStart => exact ⟨0, rfl, by omega, Lib.hid (.refl _ _), Lib.hid (by intro j hj; omega)⟩
  case round =>
    obtain ⟨i, rfl, hi, HU, HD⟩ := hrel
    by_cases hin : i < n
    · have i2 : (i : Int) ≤ c := by omega
      go_wp2_with fail
      obtain ⟨w1, rfl⟩ : ∃ w1 : World, w1 = wr := ⟨_, rfl⟩
      go_loopw [30] (fun u ws => ∃ k : Nat, u = .int .i64 k ∧ k ≤ i ∧ Hid (Upd [] w ws) ∧ Hid (∀ j, j < k → ¬ alike (L.getD i default) (L.getD j default))) (fun u _ => i - (intOf u).toNat)
      case atStart => exact ⟨0, rfl, by omega, HU, Lib.hid (by intro j hj; omega)⟩
      case round =>
        obtain ⟨k, rfl, hk, KU, KD⟩ := hrel
        by_cases hki : k < i
        · obtain ⟨v, hv⟩ : ∃ v, L.getD i default = v := ⟨_, rfl⟩
          obtain ⟨u, hu⟩ : ∃ u, L.getD k default = u := ⟨_, rfl⟩
          obtain ⟨ad, rfl, x1, x2, x3, x4, x5, x6⟩ := (HA.out.upd KU.out).six i (by rw [HN.out]; exact hin) v hv
          obtain ⟨ad', he, y1, y2, y3, y4, y5, y6⟩ := (HA.out.upd KU.out).six k (by rw [HN.out]; omega) u hu
          injection he with he
          subst he
          obtain ⟨a1, a2, a3, a4, a5, a6⟩ := v
          obtain ⟨b1, b2, b3, b4, b5, b6⟩ := u
          dsimp only at x1 x2 x3 x4 x5 x6 y1 y2 y3 y4 y5 y6
          have HV := Lib.hid hv
          have HK := Lib.hid hu
          have i0 : (0 : Int) ≤ i := by omega
          have i1 : (i : Int) < n := by omega
          have k0 : (0 : Int) ≤ k := by omega
          have k1 : (k : Int) < n := by omega
          clear hv hu x1 x2 x5 y1 y2 y5
          by_cases h3 : a3 = b3
          · subst h3
            by_cases h4 : a4 = b4
            · subst h4
              by_cases h6 : a6 = b6
              · subst h6
                go_wp2_with fail
                go_quiet (fail)
                go_wp2_with fail
                refine (alive_ok _ (HG.out.upd (KU.out.drewN nq) (by simp))).mono ?_; rintro e w6 ⟨rfl, u6⟩
                go_wp2_with fail
                go_ret
                exact ⟨rfl, (KU.out.drewN nq).trans u6⟩
              · have e6 : (a6 == b6) = false := by simpa using h6
                have H3 : Hid (¬ alike (L.getD i default) (L.getD k default)) := Lib.hid (by rw [HV.out, HK.out]; exact fun h => h6 h.2.2)
                clear h6
                go_wp2_with fail
                go_quiet (fail)
                go_wp2_with fail
                go_roundw
                case rel => exact ⟨k + 1, by go_num, by omega, Lib.hid (KU.out.drewN _), Lib.hid (below_succ KD.out H3.out)⟩
                case measure => simp [intOf]; omega
            · have H3 : Hid (¬ alike (L.getD i default) (L.getD k default)) := Lib.hid (by rw [HV.out, HK.out]; exact fun h => h4 h.2.1)
              have e4 : (a4 == b4) = false := by simpa using h4
              obtain ⟨rfl, rfl⟩ | ⟨rfl, rfl⟩ : (a4 = true ∧ b4 = false) ∨ (a4 = false ∧ b4 = true) := by cases a4 <;> cases b4 <;> simp_all
              all_goals
                clear h4 e4
                go_wp2_with fail
                go_quiet (fail)
                go_wp2_with fail
                go_roundw
                case rel => exact ⟨k + 1, by go_num, by omega, Lib.hid (KU.out.drewN _), Lib.hid (below_succ KD.out H3.out)⟩
                case measure => simp [intOf]; omega
          · have H3 : Hid (¬ alike (L.getD i default) (L.getD k default)) := Lib.hid (by rw [HV.out, HK.out]; exact fun h => h3 h.1)
            have e3 : (a3 == b3) = false := by simpa using h3
            clear h3
            go_wp2_with fail
            go_quiet (fail)
            go_wp2_with fail
            go_roundw
            case rel => exact ⟨k + 1, by go_num, by omega, Lib.hid (KU.out.drewN _), Lib.hid (below_succ KD.out H3.out)⟩
            case measure => simp [intOf]; omega
        · obtain rfl : i = k := by omega
          go_wp2_with fail
          go_roundw
          case rel => exact ⟨i + 1, by go_num, by omega, KU, Lib.hid (below_succ HD.out KD.out)⟩
          case measure => simp [intOf]; omega
    · obtain rfl : n = i := by omega
      have HUQ : Hid (∀ i k, i < n → k < n → i ≠ k → ¬ alike (L.getD i default) (L.getD k default)) := Lib.hid (by
        intro i k hi hk hne
        rcases Nat.lt_or_gt_of_ne hne with h | h
        · exact fun ha => HD.out k hk i h ⟨ha.1.symm, ha.2.1.symm, ha.2.2.symm⟩
        · exact HD.out i hi k h)
      go_wp2_with fail
      obtain ⟨d, hd, hdn⟩ : ∃ d : Nat, (wrap64 (t.tmod (n : Int) + n)).tmod n = (d : Int) ∧ d < n := turn_of t n hn0 hnm
      rw [hd]
      clear hd
      obtain ⟨w1, rfl⟩ : ∃ w1 : World, w1 = wr := ⟨_, rfl⟩
      have d0 : (0 : Int) ≤ d := by omega
      have d1 : (d : Int) ≤ n := by omega
      have d2 : (n : Int) ≤ c := by omega
      have d3 : (d : Int) ≤ c := by omega
      have hz1 : w.heap.size ≤ w1.heap.size := HU.out.size
      have I1 := Lib.hid (flat_one (L.drop d))
      have I2 := Lib.hid (flat_one (L.take d))
      have FS1 : Hid (∀ W, Upd [] w W → Src W 6 (.slice (if c = d then A else Option.map (fun x => x.add (d * 6)) A) (n - d) (c - d)) (n - d) ((L.drop d).flatMap flatA)) := Lib.hid fun W hu => by
        have := ((HA.out.upd hu).src (c := c) HN.out).drop d (by omega) hc (c - d)
        rwa [flat_drop] at this
      have FS2 : Hid (∀ W, Upd [] w W → Src W 6 (.slice A d c) d ((L.take d).flatMap flatA)) := Lib.hid fun W hu => by
        have := ((HA.out.upd hu).src (c := c) HN.out).take d (by omega) c
        rwa [flat_take] at this
      go_region_held3 (fun _ => True) (trivial) (first
        | ((refine step_app (o := ⟨some 87, _, _, _, _, _⟩) (w1.drew.alloc (.cells #[] 38)) (by rfl) (.tmp 83) (.tmp 86) _ (by rfl) att_elem _ _ (by rfl) (by rfl) (own_made (B := w.heap.size) 6 (Blk.new _ _ _) hz1) (FS1.out _ (HU.out.drew.alloc _)) I1.out (by simp only [maxLen]; omega) (by omega) (by simp; omega) ?_; intro v1 w2 o1 u1 b1
            have U2 : Hid (Upd [] w w2) := Lib.hid ((HU.out.drew.alloc _).trans' u1 (by intro x hx; simp [Value.ownBlock] at hx; subst hx; right; exact hz1))
            have N1 : Hid (∀ b, v1.ownBlock = some b → w.heap.size ≤ b) := Lib.hid (by intro b hb; rcases b1 with h | h <;> rw [hb] at h <;> simp [Value.ownBlock] at h <;> omega)
            have s2 : w.heap.size ≤ w2.heap.size := U2.out.size
            have O1 := Lib.hid o1
            clear o1 u1 b1))
        | ((refine step_app (o := ⟨some 91, _, _, _, _, _⟩) w2 (by rfl) (.tmp 87) (.tmp 90) _ (by rfl) att_elem v1 _ (by rfl) (by rfl) O1.out (FS2.out _ U2.out) I2.out (by simp only [maxLen]; omega) (by omega) s2 ?_; intro v2 w3 o2 u2 b2
            have U3 : Hid (Upd [] w w3) := Lib.hid (U2.out.trans' u2 (by intro x hx; simp only [Option.mem_toList] at hx; exact .inr (N1.out _ hx)))
            have O2 := Lib.hid o2
            clear o2 u2 b2)))
      obtain ⟨M, hM⟩ : ∃ M, L.drop d ++ L.take d = M := ⟨_, rfl⟩
      have HM : Hid (M.Perm L) := Lib.hid (by
        rw [← hM]
        have := (List.perm_append_comm (l₁ := L.drop d) (l₂ := L.take d))
        rwa [List.take_append_drop] at this)
      have o2 := O2.out
      rw [show 0 + (n - d) + d = n by omega, List.nil_append, ← List.flatMap_append, hM] at o2
      obtain ⟨A2, c2, rfl, hc2, hcm2, am, hml⟩ := atts_of_own o2
      have AM := Lib.hid am
      have HML := Lib.hid hml
      clear o2 O2 O1 N1 U2 I1 I2 FS1 FS2 hM am hml
      go_wp2_with fail
      refine (sort_ok A n c L _ (HA.out.upd U3.out) HN.out (by omega)).mono ?_; rintro e w4 ⟨v4, rfl, o4, u4⟩
      obtain ⟨S, hS⟩ : ∃ S, srt (ahd L) (List.range n) = S := ⟨_, rfl⟩
      obtain ⟨T, hT⟩ : ∃ T, srt (ahd M) (List.range n) = T := ⟨_, rfl⟩
      have HST : Hid (S.map (fun i => L.getD i default) = T.map (fun i => M.getD i default)) := Lib.hid (by rw [← hS, ← hT]; exact turned_eq L M n HN.out HM.out HUQ.out)
      have TS : Hid (∀ k, k < n → S.getD k 0 < n) := Lib.hid (hS ▸ fun k hk => srt_lt L n k hk)
      have TT : Hid (∀ k, k < n → T.getD k 0 < n) := Lib.hid (hT ▸ fun k hk => srt_lt M n k hk)
      have LS : Hid (S.length = n) := Lib.hid (hS ▸ srt_len L n)
      have LT : Hid (T.length = n) := Lib.hid (hT ▸ srt_len M n)
      rw [hS] at o4
      have O4 := Lib.hid o4
      have U4 := Lib.hid u4
      clear o4 u4
      go_wp2_with fail
      refine (sort_ok A2 n c2 M _ (AM.out.upd U4.out) HML.out (by omega)).mono ?_; rintro e w5 ⟨v5, rfl, o5, u5⟩
      rw [hT] at o5
      have O5 := Lib.hid o5
      have P5 := Lib.hid (own_upd0 O4.out u5)
      have M5 := Lib.hid ((AM.out.upd U4.out).upd u5)
      have U5 := Lib.hid (U3.out.trans (U4.out.trans u5))
      clear o5 u5 O4 U4 AM hS hT
      obtain ⟨A3, c3, rfl, _⟩ := own_slice O5.out
      obtain ⟨A4, c4, rfl, _⟩ := own_slice P5.out
      go_wp2_with fail
      go_loopw [110] (fun u ws => ∃ k : Nat, u = .int .i64 k ∧ k ≤ n ∧ Hid (Upd [] w5 ws)) (fun u _ => n - (intOf u).toNat)
      case atStart => exact ⟨0, rfl, by omega, Lib.hid (.refl _ _)⟩
      case round =>
        obtain ⟨k, rfl, hk, KU⟩ := hrel
        by_cases hkn : k < n
        · have KO := own_upd0 P5.out KU.out
          have KP := own_upd0 O5.out KU.out
          obtain ⟨g, c', cur, he, _⟩ := own_form KO (by omega)
          injection he with he _ he2
          subst he he2
          obtain ⟨g2, c', cur2, he, _⟩ := own_form KP (by omega)
          injection he with he _ he2
          subst he he2
          obtain ⟨x, hx⟩ : ∃ x, S.getD k 0 = x := ⟨_, rfl⟩
          obtain ⟨y, hy⟩ : ∃ y, T.getD k 0 = y := ⟨_, rfl⟩
          have f1 : wr.cell? ⟨g, k, none⟩ = some (.int .i64 x) := by
            have := own_cell KO k _ (ints_get S k (by rw [LS.out]; exact hkn))
            rw [this, ← hx]; rfl
          have f2 : wr.cell? ⟨g2, k, none⟩ = some (.int .i64 y) := by
            have := own_cell KP k _ (ints_get T k (by rw [LT.out]; exact hkn))
            rw [this, ← hy]; rfl
          have xn : x < n := hx ▸ TS.out k hkn
          have yn : y < n := hy ▸ TT.out k hkn
          obtain ⟨v, hv⟩ : ∃ v, L.getD x default = v := ⟨_, rfl⟩
          have hv2 : M.getD y default = v := by
            have h1 := congrArg (fun l => l[k]?) HST.out
            simp only [List.getElem?_map] at h1
            rw [List.getElem?_eq_getElem (by rw [LS.out]; exact hkn), List.getElem?_eq_getElem (by rw [LT.out]; exact hkn)] at h1
            simp only [Option.map_some, Option.some.injEq] at h1
            rw [List.getD_eq_getElem?_getD, List.getElem?_eq_getElem (by rw [LS.out]; exact hkn)] at hx
            rw [List.getD_eq_getElem?_getD, List.getElem?_eq_getElem (by rw [LT.out]; exact hkn)] at hy
            simp only [Option.getD_some] at hx hy
            rw [hx, hy] at h1
            rw [← h1, hv]
          obtain ⟨ad, rfl, x1, x2, x3, x4, x5, x6⟩ := (HA.out.upd (U5.out.trans KU.out)).six x (by rw [HN.out]; exact xn) v hv
          obtain ⟨bd, rfl, y1, y2, y3, y4, y5, y6⟩ := (M5.out.upd KU.out).six y (by rw [HML.out]; exact yn) v hv2
          obtain ⟨a1, a2, a3, a4, a5, a6⟩ := v
          dsimp only at x1 x2 x3 x4 x5 x6 y1 y2 y3 y4 y5 y6
          have k0 : (0 : Int) ≤ k := by omega
          have k1 : (k : Int) < n := by omega
          have x0' : (0 : Int) ≤ x := by omega
          have x1' : (x : Int) < n := by omega
          have y0' : (0 : Int) ≤ y := by omega
          have y1' : (y : Int) < n := by omega
          have z1 : decide ((x : Int) < 0) = false := by simp
          have z2 : decide ((y : Int) < 0) = false := by simp
          have z3 : decide (n ≤ x) = false := by simpa using xn
          have z4 : decide (n ≤ y) = false := by simpa using yn
          clear hx hy hv hv2 KO KP
          go_wp2_with fail
          go_quiet (fail)
          go_wp2_with fail
          go_roundw
          case rel =>
            (repeat apply Exists.intro)
            refine ⟨⟨k + 1, by go_num, by omega, Lib.hid (KU.out.drewN _)⟩, ?_⟩
            rfl
          case measure => simp [intOf]; omega
        · obtain rfl : n = k := by omega
          go_wp2_with fail
          refine (alive_ok _ (HG.out.upd (U5.out.trans KU.out) (by simp))).mono ?_; rintro e w6 ⟨rfl, u6⟩
          go_wp2_with fail
          go_ret
          exact ⟨rfl, (U5.out.trans KU.out).trans u6⟩

set_option maxRecDepth 100000 in
theorem law_oturned (A : Option Addr) (n c : Nat) (L : List Att) (t : Int) (w : World) (hA : Atts w A L) (hn : L.length = n) (hc : n ≤ c) (hcm : c ≤ 9223372036854775807) (hg : Typed w) :
    Calls Tryd.prog 6 #[.slice A n c, .int .i64 t] w fun e w' => e = .returned (.bool true) ∧ Upd [] w w' := by
  by_cases h60 : 60 < n
  · have HG := Lib.hid hg
    clear hg hA hn
    have hnm : n ≤ 9223372036854775807 := by omega
    go_enter Tryd.func6, Tryd.ntmps6
    go_wp2_with fail
    refine (alive_ok _ HG.out).mono ?_; rintro e w1 ⟨rfl, u1⟩
    go_wp2_with fail
    go_ret
    exact ⟨rfl, u1⟩
  · by_cases h0 : n = 0
    · have HG := Lib.hid hg
      clear hg hA hn h60 hc
      subst h0
      go_enter Tryd.func6, Tryd.ntmps6
      go_wp2_with fail
      refine (alive_ok _ HG.out).mono ?_; rintro e w1 ⟨rfl, u1⟩
      go_wp2_with fail
      go_ret
      exact ⟨rfl, u1⟩
    · exact oturned_walk A n c L t w hA hn (by omega) (by omega) hc hcm hg
end Go.Proofs.YtegpfhldbdegbaaDoor

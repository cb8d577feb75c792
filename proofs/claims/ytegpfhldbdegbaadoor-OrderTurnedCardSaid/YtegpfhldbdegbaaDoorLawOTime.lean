/-
  OrderTime: the walk.
-/
import Derived.Test.YtegpfhldbdegbaaDoorOAlive
import Derived.Test.YtegpfhldbdegbaaDoorLawOWithin
import Derived.Laws.MakeOwn
import Derived.Deep.DrawnRows
set_option linter.unusedVariables false
namespace Go.Proofs.YtegpfhldbdegbaaDoor
open Go.RowKit
attribute [local go_sem ↓] Go.wp_at_zero Go.wp_at_succ

theorem madeInts (n : Nat) : (madeCells #[Value.int .i64 0] n).toList = ints (List.replicate n 0) := by
  apply List.ext_getElem
  · simp [madeCells, ints]
  · intro i h1 h2
    simp [madeCells, ints, Nat.mod_one]
/-- make([]int, n). -/
theorem run_makeInts (w : World) (n : Nat) (hn : n ≤ 1000000) : (Instr.makeSlice 24 (.int .i64 n) (.int .i64 n)).run Tryd.prog w = .ok (.slice (some ⟨w.heap.size, 0, none⟩) n n) (w.alloc (.cells (madeCells #[Value.int .i64 0] n) 3)) := by
  obtain ⟨i0, hi0, hz0, hz1, hz2⟩ := info_parts int_info
  have h := run_make (P := Tryd.prog) w 24 3 i0 _ Tryd.underlying24 hi0 hz0 .i64 .i64 n n (by omega) (by omega) (by rw [hz2]; omega) (by omega)
  rw [hz1] at h
  simpa [Value.cells] using h
theorem own_madeInts (w : World) (B n : Nat) (hB : B ≤ w.heap.size) (hn : n ≤ 1000000) : (w.alloc (.cells (madeCells #[Value.int .i64 0] n) 3)).ownsRow B 3 1 (.slice (some ⟨w.heap.size, 0, none⟩) n n) n (ints (List.replicate n 0)) := by
  refine ⟨by simp [ints], .inr ⟨w.heap.size, n, _, rfl, hB, Blk.new w _ _, Nat.le_refl _, by simp only [maxLen]; omega, by simp [size_madeCells], ?_⟩⟩
  rw [madeInts, List.take_of_length_le (by simp [ints])]

/-- Where nothing is wrong. -/
structure Sound (L : List Att) : Prop where
  own : ∀ i, i < L.length → (L.getD i default).be ≤ (L.getD i default).en
  time : ∀ i j, i < L.length → j < L.length → (L.getD i default).en < (L.getD j default).be → ahd L i j = true
theorem chk_zero {L : List Att} (h : (chkR L).1 = 0) : ∀ k, k < L.length → wrongAt L k = 0 := by
  intro k hk
  unfold chkR at h
  cases hf : (List.range L.length).find? (fun i => wrongAt L i != 0) with
  | none =>
    rw [List.find?_eq_none] at hf
    have := hf k (by simpa using hk)
    simpa using this
  | some i =>
    rw [hf] at h
    have := List.find?_some hf
    simp at this
    exact absurd h this
theorem sound_of {L : List Att} (h : (chkR L).1 = 0) : Sound L := by
  have hz := chk_zero h
  have own : ∀ i, i < L.length → (L.getD i default).be ≤ (L.getD i default).en := by
    intro i hi
    rcases Int.lt_or_le (L.getD i default).en (L.getD i default).be with h1 | h1
    · have := wrong_2 h1; rw [hz i hi] at this; omega
    · exact h1
  refine ⟨own, fun i j hi hj hlt => ?_⟩
  have hne : i ≠ j := by rintro rfl; have := own i hi; omega
  cases ha : ahd L i j with
  | true => rfl
  | false =>
    exfalso
    have hw := hz j hj
    have hc : confB L j i = true := by unfold confB; rw [ha, decide_eq_true hne, decide_eq_true hlt]; rfl
    cases hd : (List.range j).any (dupB L j) with
    | true => unfold wrongAt at hw; rw [if_neg (Int.not_lt.2 (own j hj)), hd] at hw; simp at hw
    | false => unfold wrongAt at hw; rw [if_neg (Int.not_lt.2 (own j hj)), hd, any_range_yes hi hc] at hw; simp at hw

section
variable {L : List Att} {n : Nat} {S P : List Nat}
/-- What stands ahead of another one in the order has the lesser place. -/
theorem pos_lt (hS : srt (ahd L) (List.range n) = S) (hP : ∀ j, j < n → P.getD (S.getD j 0) 0 = j) {i j : Nat} (hi : i < n) (hj : j < n) (h : ahd L i j = true) : P.getD i 0 < P.getD j 0 := by
  have hl : S.length = n := hS ▸ srt_len L n
  have at_ : ∀ x, x < n → ∃ k, k < n ∧ S.getD k 0 = x := fun x hx => by
    have : x ∈ S := by rw [← hS]; exact (srt_perm _).mem_iff.2 (by simpa using hx)
    obtain ⟨k, hk, e⟩ := List.getElem_of_mem this
    exact ⟨k, by omega, by rw [List.getD_eq_getElem?_getD, List.getElem?_eq_getElem hk]; exact e⟩
  obtain ⟨k, hk, rfl⟩ := at_ i hi
  obtain ⟨m, hm, rfl⟩ := at_ j hj
  rw [hP k hk, hP m hm]
  have hp := srt_pairwise (ahd_tot L) (List.range n) List.nodup_range
  rw [hS] at hp
  have gk : S.getD k 0 = S[k]'(by omega) := by rw [List.getD_eq_getElem?_getD, List.getElem?_eq_getElem (by omega)]; rfl
  have gm : S.getD m 0 = S[m]'(by omega) := by rw [List.getD_eq_getElem?_getD, List.getElem?_eq_getElem (by omega)]; rfl
  rcases Nat.lt_trichotomy k m with h1 | h1 | h1
  · exact h1
  · subst h1; rw [(ahd_tot L).irr] at h; cases h
  · have := List.pairwise_iff_getElem.1 hp m k (by omega) (by omega) h1
    rw [gk, gm] at h
    have h2 := (ahd_tot L).asym _ _ h
    rw [this] at h2; cases h2
theorem wthK_pos (b : Int) (p : Nat) : ∀ k, (∀ j, j < k → (L.getD (S.getD j 0) default).en < b → j < p) → wthK L S b k ≤ p
  | 0, _ => Nat.zero_le _
  | k + 1, h => by
    unfold wthK
    split
    · rename_i hl; exact h k (by omega) hl
    · exact wthK_pos b p k fun j hj => h j (by omega)
theorem wth_pos (hS : srt (ahd L) (List.range n) = S) (hn : L.length = n) (hP : ∀ j, j < n → P.getD (S.getD j 0) 0 = j) (hs : Sound L) {i : Nat} (hi : i < n) : wth L (L.getD i default).be ≤ P.getD i 0 := by
  unfold wth
  rw [hn, hS]
  refine wthK_pos _ _ _ fun j hj hl => ?_
  have hjn : S.getD j 0 < n := hS ▸ srt_lt L n j hj
  have := pos_lt hS hP hjn hi (hs.time _ _ (by omega) (by omega) hl)
  rwa [hP j hj] at this
theorem srt_nodup_get (hS : srt (ahd L) (List.range n) = S) {j k : Nat} (hj : j < n) (hk : k < n) (h : S.getD j 0 = S.getD k 0) : j = k := by
  have hl : S.length = n := hS ▸ srt_len L n
  have hnd : S.Nodup := hS ▸ (srt_perm _).nodup_iff.2 List.nodup_range
  rw [List.getD_eq_getElem?_getD, List.getD_eq_getElem?_getD, List.getElem?_eq_getElem (by omega), List.getElem?_eq_getElem (by omega)] at h
  exact (List.getElem_inj hnd).1 h
end

set_option maxRecDepth 100000 in
set_option maxHeartbeats 4000000 in
theorem otime_walk (A : Option Addr) (n c : Nat) (L : List Att) (w : World) (hA : Atts w A L) (hn : L.length = n) (hnm : n ≤ 60) (hc : n ≤ c) (hcm : c ≤ 9223372036854775807) (hg : Typed w) :
    Calls Tryd.prog 5 #[.slice A n c] w fun e w' => e = .returned (.bool true) ∧ Upd [] w w' := by
  have HG := Lib.hid hg
  have HN := Lib.hid hn
  have HA := Lib.hid hA
  obtain ⟨x, hx⟩ : ∃ x, (chkR L).1 = x := ⟨_, rfl⟩
  have HX := Lib.hid hx
  clear hg hA hn hx
  have hmk := fun (W : World) => run_makeInts W n (by omega)
  go_enter Tryd.func5, Tryd.ntmps5
  go_wp2_with fail
  refine (check_ok A n c L _ HA.out HN.out (by omega) hc hcm).mono ?_; rintro e w1 ⟨v, rfl, e1, u1⟩
  rw [HX.out] at e1
  have E1 := Lib.hid e1
  have U1 := Lib.hid u1
  clear e1 u1
  go_wp2_with fail
  refine (no_err E1.out).mono ?_; rintro e w2 ⟨rfl, rfl⟩
  by_cases h0 : x = 0
  · have HS : Hid (Sound L) := Lib.hid (sound_of (HX.out.trans h0))
    subst h0
    go_wp2_with fail
    have o0 := own_madeInts w1 w.heap.size n U1.out.size (by omega)
    have u0 := U1.out.alloc (.cells (madeCells #[Value.int .i64 0] n) 3)
    have hq0 : w1.heap.size < (w1.alloc (.cells (madeCells #[Value.int .i64 0] n) 3)).heap.size := by simp
    obtain ⟨q, hq⟩ : ∃ q, w1.heap.size = q := ⟨_, rfl⟩
    have hq1 : w.heap.size ≤ q := hq ▸ U1.out.size
    rw [hq] at o0 hq0 ⊢
    have O0 := Lib.hid o0
    have U0 := Lib.hid u0
    clear o0 u0 hq hmk
    generalize w1.alloc (.cells (madeCells #[Value.int .i64 0] n) 3) = w2 at *
    refine (sort_ok A n c L _ (HA.out.upd U0.out) HN.out (by omega)).mono ?_; rintro e w3 ⟨v3, rfl, o3, u3⟩
    obtain ⟨S, hS⟩ : ∃ S, srt (ahd L) (List.range n) = S := ⟨_, rfl⟩
    have HT : Hid (∀ k, k < n → S.getD k 0 < n) := Lib.hid (hS ▸ fun k hk => srt_lt L n k hk)
    have HL : Hid (S.length = n) := Lib.hid (hS ▸ srt_len L n)
    rw [hS] at o3
    have HSS := Lib.hid hS
    have O3 := Lib.hid o3
    have P3 := Lib.hid (own_upd0 O0.out u3)
    have U3 := Lib.hid (U0.out.trans u3)
    have hq3 : q < w3.heap.size := Nat.lt_of_lt_of_le hq0 u3.size
    clear o3 u3 hS O0
    obtain ⟨A1, c1, rfl, _⟩ := own_slice O3.out
    go_wp2_with fail
    go_loopw [31] (fun i wr => ∃ (k : Nat) (P : List Nat), i = .int .i64 k ∧ k ≤ n ∧ P.length = n ∧ Hid (wr.ownsRow w.heap.size 3 1 (.slice (some ⟨q, 0, none⟩) n n) n (ints P)) ∧ Hid (∀ j, j < k → P.getD (S.getD j 0) 0 = j) ∧ Hid (Upd [q] w3 wr)) (fun i _ => n - (intOf i).toNat)
    case atStart => exact ⟨0, _, rfl, by omega, by simp, P3, Lib.hid (by intro j hj; omega), Lib.hid (.refl _ _)⟩
    case round =>
      obtain ⟨k, P, rfl, hk, hpl, PO, PJ, HU⟩ := hrel
      have qS : Hid (∀ b, Value.ownBlock (.slice A1 n c1) = some b → b ∉ [q]) := Lib.hid (by
        intro b hb hm
        have := (own_lt O3.out hb).1
        simp only [List.mem_singleton] at hm
        omega)
      by_cases hlt : k < n
      · have KO := own_upd O3.out HU.out qS.out
        obtain ⟨g, c', cur, he, _⟩ := own_form KO (by omega)
        injection he with he _ he2
        subst he he2
        obtain ⟨i, hi⟩ : ∃ i, S.getD k 0 = i := ⟨_, rfl⟩
        have f1 : wr.cell? ⟨g, k, none⟩ = some (.int .i64 i) := by
          have := own_cell KO k _ (ints_get S k (by rw [HL.out]; exact hlt))
          rw [this, ← hi]; rfl
        have hin : i < n := hi ▸ HT.out k hlt
        have f2 : wr.cell? ⟨q, i, none⟩ = some (.int .i64 (P.getD i default : Nat)) := own_cell PO.out i _ (ints_get P i (by omega))
        have f3 : wr.frozen? ⟨q, i, none⟩ = false := own_frozen PO.out i
        have g0 : decide ((i : Int) < 0) = false := by simp
        have g1 : decide (n ≤ i) = false := by simpa using hin
        have HI := Lib.hid hi
        clear hi KO
        go_wp2_with fail
        go_roundw
        case rel =>
          refine ⟨k + 1, P.set i k, by go_num, by omega, by simpa using hpl, Lib.hid ?_, Lib.hid ?_, Lib.hid (HU.out.setCell (.inl (by simp)) _)⟩
          · rw [← ints_set]; exact own_set PO.out i _
          · intro j hj
            rw [List.getD_eq_getElem?_getD, List.getElem?_set]
            rcases Nat.lt_or_eq_of_le (Nat.le_of_lt_succ hj) with h | h
            · have hne : i ≠ S.getD j 0 := fun e => by
                have := srt_nodup_get HSS.out (show j < n by omega) hlt (by rw [HI.out, ← e])
                omega
              rw [if_neg hne, ← List.getD_eq_getElem?_getD]
              exact PJ.out j h
            · subst h
              rw [HI.out, if_pos rfl, if_pos (by omega)]
              rfl
        case measure => simp [intOf]; omega
      · obtain rfl : n = k := by omega
        go_wp2_with fail
        have U4 := Lib.hid ((U3.out).trans' HU.out (by intro x hx; simp only [List.mem_singleton] at hx; subst hx; exact .inr hq1))
        clear O3 P3 qS hlt hk
        obtain ⟨w4, rfl⟩ : ∃ w4 : World, w4 = wr := ⟨_, rfl⟩
        clear HU
        go_loopw [51] (fun i ws => ∃ k : Nat, i = .int .i64 k ∧ k ≤ n ∧ Hid (Upd [] w4 ws)) (fun i _ => n - (intOf i).toNat)
        case atStart => exact ⟨0, rfl, by omega, Lib.hid (.refl _ _)⟩
        case round =>
          obtain ⟨i, rfl, hi, IU⟩ := hrel
          by_cases hin : i < n
          · obtain ⟨v, hv⟩ : ∃ v, L.getD i default = v := ⟨_, rfl⟩
            have HV := Lib.hid hv
            clear hv
            go_wp2_with fail
            obtain ⟨w5, rfl⟩ : ∃ w5 : World, w5 = wr := ⟨_, rfl⟩
            go_loopw [56] (fun i ws => ∃ k : Nat, i = .int .i64 k ∧ k ≤ n ∧ Hid (Upd [] w5 ws)) (fun i _ => n - (intOf i).toNat)
            case atStart => exact ⟨0, rfl, by omega, Lib.hid (.refl _ _)⟩
            case round =>
              obtain ⟨j, rfl, hj, JU⟩ := hrel
              obtain ⟨ad, rfl, x1, x2, x3, x4, x5, x6⟩ := (HA.out.upd (U4.out.trans (IU.out.trans JU.out))).six i (by rw [HN.out]; exact hin) v HV.out
              have pi_ : wr.cell? ⟨q, i, none⟩ = some (.int .i64 (P.getD i default : Nat)) := own_cell (own_upd0 PO.out (IU.out.trans JU.out)) i _ (ints_get P i (by omega))
              have i0 : (0 : Int) ≤ i := by omega
              have i1 : (i : Int) < n := by omega
              clear x1 x2 x3 x4
              obtain ⟨a1, a2, a3, a4, a5, a6⟩ := v
              dsimp only at x5 x6
              obtain ⟨pi, hpi⟩ : ∃ p, P.getD i default = p := ⟨_, rfl⟩
              rw [hpi] at pi_
              have HPI := Lib.hid hpi
              clear hpi
              by_cases hjn : j < n
              · obtain ⟨v, hv⟩ : ∃ v, L.getD j default = v := ⟨_, rfl⟩
                obtain ⟨ad', he, y1, y2, y3, y4, y5, y6⟩ := (HA.out.upd (U4.out.trans (IU.out.trans JU.out))).six j (by rw [HN.out]; exact hjn) v hv
                injection he with he
                subst he
                obtain ⟨b1, b2, b3, b4, b5, b6⟩ := v
                dsimp only at y1 y2 y3 y4 y5 y6
                have pj_ : wr.cell? ⟨q, j, none⟩ = some (.int .i64 (P.getD j default : Nat)) := own_cell (own_upd0 PO.out (IU.out.trans JU.out)) j _ (ints_get P j (by omega))
                obtain ⟨pj, hpj⟩ : ∃ p, P.getD j default = p := ⟨_, rfl⟩
                rw [hpj] at pj_
                have HPJ := Lib.hid hpj
                have HK := Lib.hid hv
                have j0 : (0 : Int) ≤ j := by omega
                have j1 : (j : Int) < n := by omega
                clear hv y1 y2 y3 y4 y6 hpj
                by_cases h5 : a6 < b5
                · have hp : pi < pj := by
                    have := pos_lt HSS.out PJ.out hin hjn (HS.out.time i j (by rw [HN.out]; exact hin) (by rw [HN.out]; exact hjn) (by rw [HV.out, HK.out]; exact h5))
                    have e1 : P.getD i 0 = pi := HPI.out
                    have e2 : P.getD j 0 = pj := HPJ.out
                    rwa [e1, e2] at this
                  have e6 : decide (pj ≤ pi) = false := by simpa using hp
                  have e7 : decide ((pj : Int) ≤ pi) = false := by simpa using hp
                  go_wp2_with fail
                  go_quiet (fail)
                  go_wp2_with fail
                  go_roundw
                  case rel => exact ⟨j + 1, by go_num, by omega, Lib.hid (JU.out.drewN _)⟩
                  case measure => simp [intOf]; omega
                · have e5 : decide (a6 < b5) = false := by simpa using h5
                  go_wp2_with fail
                  go_quiet (fail)
                  go_wp2_with fail
                  go_roundw
                  case rel => exact ⟨j + 1, by go_num, by omega, Lib.hid (JU.out.drewN _)⟩
                  case measure => simp [intOf]; omega
              · obtain rfl : n = j := by omega
                have hw : wth L a5 ≤ pi := by
                  have := wth_pos HSS.out HN.out PJ.out HS.out hin
                  rw [HV.out] at this
                  have e1 : P.getD i 0 = pi := HPI.out
                  rwa [e1] at this
                obtain ⟨m, hm⟩ : ∃ m, wth L a5 = m := ⟨_, rfl⟩
                rw [hm] at hw
                have HM := Lib.hid hm
                have KP := Lib.hid (show ∀ W, Upd [] wr W → W.cell? ⟨(ad.add (i * 6)).block, (ad.add (i * 6)).off + 4, none⟩ = some (.int .i64 a5) ∧ W.cell? ⟨q, i, none⟩ = some (.int .i64 pi) from fun W hu => by
                  obtain ⟨ad1, he, _, _, _, _, z5, _⟩ := (HA.out.upd (U4.out.trans ((IU.out.trans JU.out).trans hu))).six i (by rw [HN.out]; omega) _ HV.out
                  injection he with he
                  subst he
                  exact ⟨z5, by rw [← HPI.out]; exact own_cell (own_upd0 PO.out ((IU.out.trans JU.out).trans hu)) i _ (ints_get P i (by omega))⟩)
                have AT := Lib.hid (HA.out.upd (U4.out.trans ((IU.out.trans JU.out).trans (Upd.refl [] wr).drew)))
                clear hm
                go_wp2_with fail
                have e6 : decide (pi < m) = false := by simpa using hw
                have e7 : decide ((pi : Int) < m) = false := by simpa using hw
                go_region_held3 (fun W => W.cell? ⟨(ad.add (i * 6)).block, (ad.add (i * 6)).off + 4, none⟩ = some (.int .i64 a5) ∧ W.cell? ⟨q, i, none⟩ = some (.int .i64 pi)) (first | exact KP.out _ ((Upd.refl [] wr).drew.trans u6) | exact KP.out _ ((Upd.refl [] wr).drew) | go_keep)
                  (first | (go_at_call 17; refine (within_ok (some ad) n c L _ _ AT.out HN.out (by omega)).mono ?_; rintro e w6 ⟨rfl, u6⟩; rw [HM.out]))
                go_wp2_with fail
                go_roundw
                case rel => exact ⟨i + 1, by go_num, by omega, Lib.hid (IU.out.trans (JU.out.drew.trans u6))⟩
                case measure => simp [intOf]; omega
          · obtain rfl : n = i := by omega
            go_wp2_with fail
            refine (alive_ok _ (HG.out.upd (U4.out.trans IU.out) (by simp))).mono ?_; rintro e w6 ⟨rfl, u6⟩
            go_wp2_with fail
            go_ret
            exact ⟨rfl, (U4.out.trans IU.out).trans u6⟩
  · have e0 : (x != 0) = true := by simpa using h0
    clear h0 hmk
    go_wp2_with fail
    refine (alive_ok _ (HG.out.upd U1.out (by simp))).mono ?_; rintro e w6 ⟨rfl, u6⟩
    go_wp2_with fail
    go_ret
    exact ⟨rfl, U1.out.trans u6⟩

theorem law_otime (A : Option Addr) (n c : Nat) (L : List Att) (w : World) (hA : Atts w A L) (hn : L.length = n) (hc : n ≤ c) (hcm : c ≤ 9223372036854775807) (hg : Typed w) :
    Calls Tryd.prog 5 #[.slice A n c] w fun e w' => e = .returned (.bool true) ∧ Upd [] w w' := by
  by_cases h60 : 60 < n
  · have HG := Lib.hid hg
    clear hg hA hn
    have hnm : n ≤ 9223372036854775807 := by omega
    go_enter Tryd.func5, Tryd.ntmps5
    go_wp2_with fail
    refine (alive_ok _ HG.out).mono ?_; rintro e w1 ⟨rfl, u1⟩
    go_wp2_with fail
    go_ret
    exact ⟨rfl, u1⟩
  · exact otime_walk A n c L w hA hn (by omega) hc hcm hg
end Go.Proofs.YtegpfhldbdegbaaDoor

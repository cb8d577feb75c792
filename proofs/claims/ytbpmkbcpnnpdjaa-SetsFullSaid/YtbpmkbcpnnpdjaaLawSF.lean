/-
  SetsFull, the walk.
-/
import Derived.Test.YtbpmkbcpnnpdjaaSAlive
set_option linter.unusedVariables false
namespace Go.Proofs.Ytbpmkbcpnnpdjaa
open Go.RowKit Assoc SP
attribute [local go_sem] litStep_value

def keyF (c : Int) (j : Nat) : Int := IntKind.u64.wrap (c + j)
theorem keyF_ne (c : Int) {i j : Nat} (hi : i ≤ 1000) (hj : j ≤ 1000) (h : i ≠ j) : keyF c i ≠ keyF c j := by
  unfold keyF
  rw [IntKind.wrap_u64, IntKind.wrap_u64]
  omega
theorem keyF_0 {c : Int} (h : 0 ≤ c ∧ c ≤ 18446744073709551615) : keyF c 0 = c := by
  unfold keyF
  rw [IntKind.wrap_u64]
  omega
/-- k cells, from c on, are read and written. -/
structure FullI (c : Int) (k : Nat) (s : SS) : Prop where
  log : s.log = []
  marks : s.marks = []
  rl : s.R.length = k
  wl : s.W.length = k
  one : ∀ p ∈ s.R, p.2 = 1
  pr : ∀ x, posR s.R x = none ↔ ∀ j, j < k → keyF c j ≠ x
  pw : ∀ x, get s.W x = none ↔ ∀ j, j < k → keyF c j ≠ x
theorem full0 (c : Int) : FullI c 0 ⟨[], [], [], []⟩ := ⟨rfl, rfl, rfl, rfl, by simp, fun x => by simp [posR], fun x => by simp [Assoc.get]⟩
theorem posR_snoc (R : List (Int × Int)) (c n x : Int) : posR (R ++ [(c, n)]) x = none ↔ posR R x = none ∧ c ≠ x := by
  unfold posR
  rw [List.findIdx?_eq_none_iff, List.findIdx?_eq_none_iff]
  constructor
  · intro h
    exact ⟨fun p hp => h p (List.mem_append_left _ hp), by simpa using h (c, n) (by simp)⟩
  · rintro ⟨h1, h2⟩ p hp
    rcases List.mem_append.1 hp with hp | hp
    · exact h1 p hp
    · simp at hp
      subst hp
      simpa using h2
theorem full_new {c : Int} {k : Nat} {s : SS} (h : FullI c k s) (hk : k ≤ 500) : posR s.R (keyF c k) = none ∧ get s.W (keyF c k) = none :=
  ⟨(h.pr _).2 fun j hj => keyF_ne c (by omega) (by omega) (by omega), (h.pw _).2 fun j hj => keyF_ne c (by omega) (by omega) (by omega)⟩
theorem full_read {c : Int} {k : Nat} {s : SS} (h : FullI c k s) (hk : k < 500) : rRead s.R (keyF c k) 1 = (0, 0, s.R ++ [(keyF c k, 1)]) := by
  unfold rRead
  rw [(full_new h (by omega)).1]
  simp only
  rw [if_neg (by rw [h.rl]; omega)]
theorem full_werr {c : Int} {k : Nat} {s : SS} (h : FullI c k s) (hk : k < 500) (x : Int) : wErr s.W x = 0 := by
  unfold wErr
  rw [if_neg (by rw [h.wl]; omega)]
theorem full_step {c x : Int} {k : Nat} {s : SS} (h : FullI c k s) (hs : Srt s.W) (hk : k < 500) : FullI c (k + 1) (sWrite { s with R := (rRead s.R (keyF c k) 1).2.2 } (keyF c k) x) := by
  have h1 := full_read h hk
  have h2 := full_werr h hk (keyF c k)
  have h3 := (full_new h (by omega)).2
  unfold sWrite
  rw [if_pos h2, h1, show s.marks = [] from h.marks]
  refine ⟨h.log, rfl, by simp [h.rl], ?_, ?_, fun y => ?_, fun y => ?_⟩
  · show (put s.W _ _).length = _
    rw [len_put hs, h3, h.wl]
    rfl
  · intro p hp
    rcases List.mem_append.1 hp with hp | hp
    · exact h.one p hp
    · simp at hp
      subst hp
      rfl
  · show posR (s.R ++ [(keyF c k, 1)]) y = none ↔ _
    rw [posR_snoc, h.pr]
    constructor
    · rintro ⟨h4, h5⟩ j hj
      rcases Nat.lt_or_ge j k with hjk | hjk
      · exact h4 j hjk
      · obtain rfl : j = k := by omega
        exact h5
    · intro h4
      exact ⟨fun j hj => h4 j (by omega), h4 k (by omega)⟩
  · show get (put s.W (keyF c k) x) y = none ↔ _
    rw [get_put hs]
    by_cases e : y = keyF c k
    · rw [if_pos e]
      simp only [reduceCtorEq, false_iff]
      intro h4
      exact h4 k (by omega) e.symm
    · rw [if_neg e, h.pw]
      constructor
      · intro h4 j hj
        rcases Nat.lt_or_ge j k with hjk | hjk
        · exact h4 j hjk
        · obtain rfl : j = k := by omega
          exact fun e' => e e'.symm
      · intro h4 j hj
        exact h4 j (by omega)
theorem full_end {c : Int} {s : SS} (h : FullI c 500 s) (hc : keyF c 0 = c) : rRead s.R (keyF c 500) 1 = (8, 0, s.R) ∧ wErr s.W (keyF c 500) = 8 ∧ rRead s.R c 1 = (0, 0, s.R) ∧ wErr s.W c = 0 ∧ (get s.W c).isSome = true := by
  obtain ⟨h1, h2⟩ := full_new h (Nat.le_refl _)
  have h3 : posR s.R c ≠ none := fun e => (h.pr c).1 e 0 (by omega) hc
  have h4 : get s.W c ≠ none := fun e => (h.pw c).1 e 0 (by omega) hc
  have h5 : (get s.W c).isSome = true := by
    cases hg : get s.W c with
    | none => exact absurd hg h4
    | some _ => rfl
  refine ⟨?_, ?_, ?_, ?_, h5⟩
  · unfold rRead
    rw [h1]
    simp only
    rw [if_pos (by rw [h.rl]; omega)]
  · unfold wErr
    rw [h2, if_pos ⟨rfl, by rw [h.wl]; omega⟩]
  · unfold rRead
    cases hp : posR s.R c with
    | none => exact absurd hp h3
    | some i =>
      simp only
      obtain ⟨y, hy⟩ := posR_some hp
      have := h.one _ (List.mem_of_getElem? hy)
      simp only at this
      rw [List.getD_eq_getElem?_getD, hy, if_pos (by simpa using this)]
  · unfold wErr
    rw [h5, if_neg (by simp)]
theorem sMark_full (s : SS) (hl : s.log = []) (i : Nat) (hm : s.marks = List.replicate i 0) (hi : i < 20) : sMark s = { s with marks := List.replicate (i + 1) 0 } := by
  unfold sMark
  rw [hm, List.length_replicate, if_neg (by omega), hl, List.replicate_succ']
  rfl
set_option maxRecDepth 100000 in
set_option maxHeartbeats 8000000 in
theorem law_sfull (c x : Int) (w : World) (hc : 0 ≤ c ∧ c ≤ 18446744073709551615) :
    Calls Try.prog 4 #[.int .u64 c, .int .u64 x] w fun e w' => e = .returned (.bool true) ∧ Upd [] w w' := by
  have HC0 := Lib.hid (keyF_0 hc)
  clear hc
  go_enter Try.func4, Try.ntmps4
  go_wp2_with fail
  refine (s_new w).mono ?_; rintro e w1 ⟨sb, am, wm, F, rfl, s1, u1⟩
  have S1 := Lib.hid s1
  have U1 := Lib.hid u1
  clear s1 u1
  go_wp2_with fail
  go_loopw [6] (fun v wr => ∃ k : Nat, v = .int .u64 k ∧ k ≤ 500 ∧ Hid (∃ F s, Sets w.heap.size sb am wm F wr s ∧ FullI c k s ∧ Upd [] w wr)) (fun v _ => 500 - (intOf v).toNat)
  case atStart => exact ⟨0, rfl, by omega, Lib.hid ⟨F, _, S1.out, full0 c, U1.out⟩⟩
  case round =>
    obtain ⟨k, rfl, hk, HKK⟩ := hrel
    obtain ⟨Fk, s, hs, hf, hu⟩ := HKK.out
    have SK := Lib.hid hs
    have UK := Lib.hid hu
    have FK := Lib.hid hf
    have HLG : Hid (s.log = []) := Lib.hid hf.log
    clear HKK hs hu hf S1 U1
    by_cases hk5 : k < 500
    · have q1 : (k : Int) < 500 := by omega
      obtain ⟨kk, hkk⟩ : ∃ kk, keyF c k = kk := ⟨_, rfl⟩
      have hw : IntKind.u64.wrap (c + (k : Int)) = kk := hkk
      have HR : Hid (rRead s.R kk 1 = (0, 0, s.R ++ [(kk, 1)])) := Lib.hid (hkk ▸ full_read FK.out hk5)
      have HE : Hid (wErr s.W kk = 0) := Lib.hid (full_werr FK.out hk5 kk)
      have HN : Hid (FullI c (k + 1) (sWrite { s with R := (rRead s.R kk 1).2.2 } kk x)) := Lib.hid (hkk ▸ full_step FK.out SK.out.1.srt hk5)
      rw [HR.out] at HN
      clear hkk
      go_wp2_with fail
      refine (s_read w.heap.size sb am wm Fk s kk 1 wr SK.out UK.out.size).mono ?_
      rintro e w2 ⟨va, F2, rfl, ea, h2, f2⟩
      rw [HR.out] at ea h2
      have S2 : Hid (Sets w.heap.size sb am wm F2 w2 { s with R := s.R ++ [(kk, 1)] }) := Lib.hid h2
      have U2 := Lib.hid (SK.out.rest UK.out f2)
      have EA := Lib.hid ea
      clear ea h2 f2
      go_wp2_with fail
      refine (no_err EA.out).mono ?_; rintro e w' ⟨rfl, rfl⟩
      clear EA
      go_wp2_with fail
      refine (s_write w.heap.size sb am wm F2 { s with R := s.R ++ [(kk, 1)] } kk x w2 S2.out U2.out.size (by rw [HLG.out]; simp)).mono ?_
      rintro e w3 ⟨va, F3, rfl, ea, h2, f2⟩
      rw [show wErr _ kk = 0 from HE.out] at ea
      have S3 : Hid (Sets w.heap.size sb am wm F3 w3 (sWrite { s with R := s.R ++ [(kk, 1)] } kk x)) := Lib.hid h2
      have U3 := Lib.hid (S2.out.rest U2.out f2)
      have EA := Lib.hid ea
      clear ea h2 f2
      go_wp2_with fail
      refine (no_err EA.out).mono ?_; rintro e w' ⟨rfl, rfl⟩
      clear EA
      go_wp2_with fail
      go_roundw
      case rel => exact ⟨k + 1, by go_num, by omega, Lib.hid ⟨F3, _, S3.out, HN.out, U3.out⟩⟩
      case measure => simp [intOf]; omega
    · obtain rfl : k = 500 := by omega
      obtain ⟨kk, hkk⟩ : ∃ kk, keyF c 500 = kk := ⟨_, rfl⟩
      have hw : IntKind.u64.wrap (c + 500) = kk := hkk
      obtain ⟨z, hz⟩ : ∃ z, IntKind.u64.wrap (x + 1) = z := ⟨_, rfl⟩
      have FE := Lib.hid (full_end FK.out HC0.out)
      rw [hkk] at FE
      have SR := Lib.hid SK.out.1.srt
      clear hkk
      go_wp2_with fail
      refine (s_read w.heap.size sb am wm Fk s kk 1 wr SK.out UK.out.size).mono ?_
      rintro e w2 ⟨va, F2, rfl, ea, h2, f2⟩
      rw [FE.out.1] at ea h2
      have S2 : Hid (Sets w.heap.size sb am wm F2 w2 s) := Lib.hid h2
      have U2 := Lib.hid (SK.out.rest UK.out f2)
      have EA := Lib.hid ea
      clear ea h2 f2
      go_wp2_with fail
      refine (no_err EA.out).mono ?_; rintro e w' ⟨rfl, rfl⟩
      clear EA
      go_wp2_with fail
      refine (s_write w.heap.size sb am wm F2 s kk x w2 S2.out U2.out.size (by rw [HLG.out]; simp)).mono ?_
      rintro e w3 ⟨va, F3, rfl, ea, h3, f3⟩
      have SW0 : sWrite s kk x = s := by unfold sWrite; rw [FE.out.2.1]; rfl
      rw [SW0] at h3
      rw [FE.out.2.1] at ea
      have S3 := Lib.hid h3
      have U3 := Lib.hid (S2.out.rest U2.out f3)
      have EA := Lib.hid ea
      clear ea h3 f3 SW0
      go_wp2_with fail
      refine (no_err EA.out).mono ?_; rintro e w' ⟨rfl, rfl⟩
      clear EA
      go_wp2_with fail
      refine (s_read w.heap.size sb am wm F3 s c 1 w3 S3.out U3.out.size).mono ?_
      rintro e w4 ⟨va, F4, rfl, ea, h2, f2⟩
      rw [FE.out.2.2.1] at ea h2
      have S4 : Hid (Sets w.heap.size sb am wm F4 w4 s) := Lib.hid h2
      have U4 := Lib.hid (S3.out.rest U3.out f2)
      have EA := Lib.hid ea
      clear ea h2 f2
      go_wp2_with fail
      refine (no_err EA.out).mono ?_; rintro e w' ⟨rfl, rfl⟩
      clear EA
      go_wp2_with fail
      refine (s_write w.heap.size sb am wm F4 s c z w4 S4.out U4.out.size (by rw [HLG.out]; simp)).mono ?_
      rintro e w5 ⟨va, F5, rfl, ea, h5, f5⟩
      rw [FE.out.2.2.2.1] at ea
      have SW1 : sWrite s c z = { s with W := put s.W c z } := by unfold sWrite; rw [FE.out.2.2.2.1, FK.out.marks]; rfl
      rw [SW1] at h5
      have S5 : Hid (Sets w.heap.size sb am wm F5 w5 { s with W := put s.W c z, marks := List.replicate 0 0 }) := Lib.hid (by have := FK.out.marks; cases s; simp only at this; subst this; exact h5)
      have U5 := Lib.hid (S4.out.rest U4.out f5)
      have EA := Lib.hid ea
      have WL : Hid ((put s.W c z).length = 500) := Lib.hid (by rw [len_put SR.out, FE.out.2.2.2.2, FK.out.wl]; rfl)
      have RL : Hid (s.R.length = 500) := Lib.hid FK.out.rl
      clear ea h5 f5 SW1
      go_wp2_with fail
      refine (no_err EA.out).mono ?_; rintro e w' ⟨rfl, rfl⟩
      clear EA
      go_wp2_with fail
      go_loopw [7] (fun v wr => ∃ i : Nat, v = .int .i64 ((i : Int) + 1) ∧ i ≤ 20 ∧ Hid (∃ F, Sets w.heap.size sb am wm F wr { s with W := put s.W c z, marks := List.replicate i 0 } ∧ Upd [] w wr)) (fun v _ => 30 - (intOf v).toNat)
      case atStart => exact ⟨0, rfl, by omega, Lib.hid ⟨F5, S5.out, U5.out⟩⟩
      case round =>
        obtain ⟨i, rfl, hi, HII⟩ := hrel
        obtain ⟨Fi, hs, hu⟩ := HII.out
        rename World => wi
        have SI := Lib.hid hs
        have UI := Lib.hid hu
        clear HII hs hu
        by_cases hi2 : i < 20
        · have q1 : (i : Int) + 1 ≤ 20 := by omega
          go_wp2_with fail
          refine (s_mark w.heap.size sb am wm Fi { s with W := put s.W c z, marks := List.replicate i 0 } wi SI.out UI.out.size).mono ?_
          rintro e w6 ⟨vb, F6, rfl, eb, h6, f6⟩
          rw [sMark_full { s with W := put s.W c z, marks := List.replicate i 0 } HLG.out i rfl hi2] at h6
          simp only [List.length_replicate] at eb
          simp only [List.length_replicate]
          rw [if_neg (by omega)] at eb ⊢
          have S6 := Lib.hid h6
          have U6 := Lib.hid (SI.out.rest UI.out f6)
          have EA := Lib.hid eb
          have q2 : ((i + 1 : Nat) : Int) = (i : Int) + 1 := by omega
          rw [q2]
          clear eb h6 f6 q2
          go_wp2_with fail
          refine (no_err EA.out).mono ?_; rintro e w' ⟨rfl, rfl⟩
          clear EA
          go_wp2_with fail
          go_roundw
          case rel => exact ⟨i + 1, by go_num, by omega, Lib.hid ⟨F6, S6.out, U6.out⟩⟩
          case measure => simp [intOf]; omega
        · obtain rfl : i = 20 := by omega
          go_wp2_with fail
          refine (s_mark w.heap.size sb am wm Fi { s with W := put s.W c z, marks := List.replicate 20 0 } wi SI.out UI.out.size).mono ?_
          rintro e w6 ⟨vb, F6, rfl, eb, h6, f6⟩
          unfold sMark at h6
          simp only [List.length_replicate] at eb h6
          simp only [List.length_replicate]
          rw [if_pos (by omega)] at eb h6 ⊢
          have S6 := Lib.hid h6
          have U6 := Lib.hid (SI.out.rest UI.out f6)
          have EA := Lib.hid eb
          clear eb h6 f6
          go_wp2_with fail
          refine (no_err EA.out).mono ?_; rintro e w' ⟨rfl, rfl⟩
          clear EA
          go_wp2_with fail
          refine (s_reads w.heap.size sb am wm F6 _ w6 S6.out).mono ?_; rintro e w7 ⟨vc, rfl, o7, u7⟩
          obtain ⟨Ac, cc, rfl, _, _⟩ := own_slice o7
          have S7 := Lib.hid (S6.out.upd0 u7)
          have U7 := Lib.hid (U6.out.trans u7)
          simp only
          rw [RL.out]
          clear o7 u7
          go_wp2_with fail
          refine (s_writes w.heap.size sb am wm F6 _ w7 S7.out).mono ?_; rintro e w8 ⟨vd, rfl, o8, u8⟩
          obtain ⟨Ad, cd, rfl, _, _⟩ := own_slice o8
          have U8 := Lib.hid (U7.out.trans u8)
          simp only
          rw [WL.out]
          clear o8 u8
          go_wp2_with fail
          refine (s_alive w8).mono ?_; rintro e w9 ⟨rfl, u9⟩
          have U9 := Lib.hid (U8.out.trans u9)
          clear u9
          go_wp2_with fail
          go_ret
          exact ⟨rfl, U9.out⟩
end Go.Proofs.Ytbpmkbcpnnpdjaa

/-
  The library's stable sort at pairs, whole: the row by rising keys.
-/
import Derived.Test.YthdjbflbhgbckaaDoorStab3
set_option linter.unusedVariables false
namespace Go.Proofs.YthdjbflbhgbckaaDoor
open Go.RowKit Stab
attribute [local go_sem] litStep_value

set_option maxRecDepth 100000 in
theorem ins_nil (v : Value) (w : World) : Calls Tryd.prog 57 #[v, .int .i64 0, .int .i64 0, byK] w fun e w' => e = .returned (.tuple #[]) ∧ w = w' := by
  unfold byK
  go_enter Tryd.func57, Tryd.ntmps57
  go_wp2_with fail
  go_loopw [8, 9] (fun v u wr => v = .int .i64 1 ∧ w = wr) (fun _ _ _ => 0)
  case atStart => exact ⟨rfl, rfl⟩
  case round =>
    obtain ⟨rfl, rfl⟩ := hrel
    go_wp2_with fail
    go_end0
    exact ⟨rfl, rfl⟩
/-- Sorted rows of k, and one that is shorter. -/
structure Runs (k : Nat) (L : List PL) (R X : PL) : Prop where
  each : ∀ l ∈ L, l.length = k ∧ Kle l
  rest : Kle R
  short : R.length < k
  perm : (L.flatten ++ R).Perm X
theorem flat_len_each {k : Nat} {L : List PL} (h : ∀ l ∈ L, l.length = k ∧ Kle l) : L.flatten.length = L.length * k := by
  induction L with
  | nil => simp
  | cons l L ih =>
    rw [List.flatten_cons, List.length_append, (h l (List.mem_cons_self ..)).1, ih (fun x hx => h x (List.mem_cons_of_mem _ hx)), List.length_cons, Nat.succ_mul]
    omega
theorem flat_snoc (L : List PL) (l : PL) : (L ++ [l]).flatten = L.flatten ++ l := by simp
theorem each_snoc {k : Nat} {L : List PL} {l : PL} (h : ∀ l ∈ L, l.length = k ∧ Kle l) (hl : l.length = k) (hk : Kle l) : ∀ x ∈ L ++ [l], x.length = k ∧ Kle x := by
  intro x hx
  rcases List.mem_append.1 hx with hx | hx
  · exact h x hx
  · simp at hx; subst hx; exact ⟨hl, hk⟩
theorem Runs.done {k : Nat} {L : List PL} {R X : PL} (h : Runs k L R X) (hk : X.length ≤ k) (h0 : 0 < k) : SortOf X (L.flatten ++ R) := by
  refine ⟨?_, h.perm⟩
  have e1 := flat_len_each h.each
  have e2 := h.perm.length_eq
  rw [List.length_append, e1] at e2
  match L, h with
  | [], h => exact h.rest
  | [l], h =>
    have hr : R = [] := len0 (by simp at e2; omega)
    have := (h.each l (List.mem_cons_self ..)).2
    rw [hr]
    simpa using this
  | l1 :: l2 :: L, h =>
    exfalso
    simp only [List.length_cons] at e2
    have : (L.length + 1 + 1) * k = L.length * k + k + k := by rw [Nat.succ_mul, Nat.succ_mul]
    omega
/-- In the midst of a pass: M is merged already, L is not. -/
structure Pass (k : Nat) (M L : List PL) (R X : PL) : Prop where
  two : ∀ l ∈ M, l.length = 2 * k ∧ Kle l
  each : ∀ l ∈ L, l.length = k ∧ Kle l
  rest : Kle R
  short : R.length < k
  perm : (M.flatten ++ (L.flatten ++ R)).Perm X
theorem Runs.pass {k : Nat} {L : List PL} {R X : PL} (h : Runs k L R X) : Pass k [] L R X := ⟨by simp, h.each, h.rest, h.short, by simpa using h.perm⟩
theorem Pass.left {k : Nat} {M L : List PL} {R X : PL} (h : Pass k M L R X) : M.flatten.length + L.length * k + R.length = X.length := by
  have := h.perm.length_eq
  rw [List.length_append, List.length_append, flat_len_each h.each] at this
  omega
theorem Pass.next {k : Nat} {M L : List PL} {l1 l2 R X Z : PL} (h : Pass k M (l1 :: l2 :: L) R X) (hz : SortOf (l1 ++ l2) Z) : Pass k (M ++ [Z]) L R X := by
  have e1 := (h.each l1 (by simp)).1
  have e2 := (h.each l2 (by simp)).1
  refine ⟨each_snoc h.two (by rw [hz.2.length_eq, List.length_append, e1, e2]; omega) hz.1, fun l hl => h.each l (by simp [hl]), h.rest, h.short, ?_⟩
  refine List.Perm.trans ?_ h.perm
  rw [flat_snoc, List.flatten_cons, List.flatten_cons]
  simp only [List.append_assoc]
  refine List.Perm.append_left _ ?_
  rw [← List.append_assoc l1]
  exact hz.2.append_right _
theorem Pass.end0 {k : Nat} {M : List PL} {R X : PL} (h : Pass k M [] R X) : Runs (2 * k) M R X := ⟨h.two, h.rest, by have := h.short; omega, by simpa using h.perm⟩
theorem Pass.end1 {k : Nat} {M : List PL} {l R X Z : PL} (h : Pass k M [l] R X) (hz : SortOf (l ++ R) Z) : Runs (2 * k) M Z X :=
  ⟨h.two, hz.1, by rw [hz.2.length_eq, List.length_append, (h.each l (by simp)).1]; have := h.short; omega, by
    refine List.Perm.trans (List.Perm.append_left _ hz.2) ?_
    have := h.perm
    simpa using this⟩
set_option maxRecDepth 100000 in
set_option maxHeartbeats 8000000 in
theorem stable_ok (B g N cp : Nat) (X : PL) (w : World) (ho : Ow encPr 39 w B (.slice (some ⟨g, 0, none⟩) N cp) X) (hN : N ≤ 1000) :
    Calls Tryd.prog 42 #[.slice (some ⟨g, 0, none⟩) N cp, .int .i64 N, byK] w fun e w' => e = .returned (.tuple #[]) ∧ ∃ Z, SortOf X Z ∧ Ow encPr 39 w' B (.slice (some ⟨g, 0, none⟩) N cp) Z ∧ Upd [g] w w' := by
  have HO := Lib.hid ho
  have HN := Lib.hid (row_len ho)
  have ent : ∀ args w, (callFunc 25 args).run Tryd.prog w = .ok (.enter 25 args) w := fun args w => rfl
  clear ho
  unfold byK
  go_enter Tryd.func42, Tryd.ntmps42
  go_wp2_with fail
  go_loopw [7, 8] (fun v u wr => ∃ (a b : Nat) (L : List PL), v = .int .i64 a ∧ u = .int .i64 b ∧ Hid (a + 20 = b) ∧ a ≤ N ∧ Hid ((∀ l ∈ L, l.length = 20 ∧ Kle l) ∧ L.flatten.length = a ∧ L.flatten.Perm (X.take a)) ∧ Hid (Ow encPr 39 wr B (.slice (some ⟨g, 0, none⟩) N cp) (L.flatten ++ X.drop a)) ∧ Hid (Upd [g] w wr)) (fun v _ _ => N - (intOf v).toNat)
  case atStart => exact ⟨0, 20, [], rfl, rfl, Lib.hid rfl, by omega, Lib.hid ⟨by simp, rfl, List.Perm.refl _⟩, Lib.hid (by simpa using HO.out), Lib.hid (.refl _ _)⟩
  case round =>
    obtain ⟨a, b, L, rfl, rfl, HBD, haN, HL, OL, UL⟩ := hrel
    rename World => wr
    by_cases hb : b ≤ N
    · have HX1 : Hid (a + ((X.drop a).take 20).length = b) := Lib.hid (by rw [List.length_take, List.length_drop, HN.out]; have := HBD.out; omega)
      have hb2 : b ≤ N := hb
      have q1 : (b : Int) ≤ (N : Int) := by omega
      obtain ⟨c, hc⟩ : ∃ c, b + 20 = c := ⟨_, rfl⟩
      have q2 : (b : Int) + 20 = (c : Int) := by omega
      have q2w : IntKind.i64.wrap (c : Int) = (c : Int) := by rw [IntKind.wrap_i64]; omega
      have HCD := Lib.hid hc
      have OA : Hid (Ow encPr 39 wr B (.slice (some ⟨g, 0, none⟩) N cp) (L.flatten ++ (X.drop a).take 20 ++ (X.drop a).drop 20)) := Lib.hid (by rw [List.append_assoc, List.take_append_drop]; exact OL.out)
      clear hc hb
      go_wp2_with fail
      refine (ins_ok B g N cp L.flatten ((X.drop a).take 20) ((X.drop a).drop 20) a b wr OA.out (row_len OA.out) HL.out.2.1 HX1.out hN).mono ?_
      rintro e w1 ⟨rfl, Z, hz, o1, u1⟩
      have HZ := Lib.hid hz
      have O1 := Lib.hid o1
      have U1 : Hid (Upd [g] w w1) := Lib.hid (UL.out.trans (by simpa [Value.ownBlock] using u1))
      clear hz o1 u1
      have HL2 : Hid ((∀ l ∈ L ++ [Z], l.length = 20 ∧ Kle l) ∧ (L ++ [Z]).flatten.length = b ∧ (L ++ [Z]).flatten.Perm (X.take b)) := Lib.hid (by
        have hzl : Z.length = 20 := by rw [HZ.out.2.length_eq]; have := HX1.out; have := HBD.out; omega
        refine ⟨each_snoc HL.out.1 hzl HZ.out.1, by rw [flat_snoc, List.length_append, HL.out.2.1, hzl]; exact HBD.out, ?_⟩
        rw [flat_snoc, ← HBD.out, List.take_add]
        exact HL.out.2.2.append HZ.out.2)
      have O2 : Hid (Ow encPr 39 w1 B (.slice (some ⟨g, 0, none⟩) N cp) ((L ++ [Z]).flatten ++ X.drop b)) := Lib.hid (by
        rw [flat_snoc, ← HBD.out, ← List.drop_drop]
        exact O1.out)
      have hm : a < b := by have := HBD.out; omega
      clear O1 OL HL
      go_wp2_with fail
      go_roundw
      case rel => exact ⟨b, c, L ++ [Z], rfl, by go_num, HCD, hb2, HL2, O2, U1⟩
      case measure => simp [intOf]; omega
    · have q1 : ¬ (b : Int) ≤ (N : Int) := by omega
      have HX1 : Hid (a + (X.drop a).length = N) := Lib.hid (by rw [List.length_drop, HN.out]; omega)
      have OA : Hid (Ow encPr 39 wr B (.slice (some ⟨g, 0, none⟩) N cp) (L.flatten ++ X.drop a ++ [])) := Lib.hid (by rw [List.append_nil]; exact OL.out)
      go_wp2_with fail
      refine (ins_ok B g N cp L.flatten (X.drop a) [] a N wr OA.out (row_len OA.out) HL.out.2.1 HX1.out hN).mono ?_
      rintro e w1 ⟨rfl, Z, hz, o1, u1⟩
      have RS : Hid (∃ L R, Runs 20 L R X ∧ Ow encPr 39 w1 B (.slice (some ⟨g, 0, none⟩) N cp) (L.flatten ++ R)) := Lib.hid ⟨L, Z, ⟨HL.out.1, hz.1, by rw [hz.2.length_eq]; have := HX1.out; have := HBD.out; omega, by
          have := HL.out.2.2.append hz.2
          rwa [List.take_append_drop] at this⟩, by rw [List.append_nil] at o1; exact o1⟩
      have U1 : Hid (Upd [g] w w1) := Lib.hid (UL.out.trans (by simpa [Value.ownBlock] using u1))
      clear hz o1 u1 HL OL UL OA HX1 q1 hb haN
      go_wp2_with fail
      clear HBD
      go_loopw [6, 7, 8, 9] (fun v v7 v8 v9 wr => ∃ (k : Nat), v = .int .i64 k ∧ 20 ≤ k ∧ k ≤ 2000 ∧ Hid (∃ L R, Runs k L R X ∧ Ow encPr 39 wr B (.slice (some ⟨g, 0, none⟩) N cp) (L.flatten ++ R)) ∧ Hid (Upd [g] w wr)) (fun v _ _ _ _ => N - (intOf v).toNat)
      case atStart => exact ⟨20, rfl, by omega, by omega, RS, U1⟩
      case round =>
        obtain ⟨k, rfl, hk20, hk2, HR, UR⟩ := hrel
        rename World => wr
        clear RS U1
        by_cases hkN : k < N
        · obtain ⟨kk, hkk⟩ : ∃ kk, 2 * k = kk := ⟨_, rfl⟩
          have HKK := Lib.hid hkk
          have q1 : (2 : Int) * (k : Int) = (kk : Int) := by omega
          have q2 : (k : Int) * 2 = (kk : Int) := by omega
          have q1w : IntKind.i64.wrap (kk : Int) = (kk : Int) := by rw [IntKind.wrap_i64]; omega
          have hkk2 : kk ≤ 2000 := by omega
          have hkk3 : k < kk := by omega
          obtain ⟨L, R, hr, o⟩ := HR.out
          have PS := Lib.hid hr.pass
          have OR : Hid (Ow encPr 39 wr B (.slice (some ⟨g, 0, none⟩) N cp) (([] : List PL).flatten ++ (L.flatten ++ R))) := Lib.hid (by simpa using o)
          clear hr o HR hkk
          go_wp2_with fail
          go_loopw [7, 8] (fun v u wi => ∃ (a b : Nat) (M L : List PL), v = .int .i64 a ∧ u = .int .i64 b ∧ Hid (a + kk = b) ∧ a ≤ N ∧ Hid (Pass k M L R X) ∧ Hid (M.flatten.length = a) ∧ Hid (Ow encPr 39 wi B (.slice (some ⟨g, 0, none⟩) N cp) (M.flatten ++ (L.flatten ++ R))) ∧ Hid (Upd [g] w wi)) (fun v _ _ => N - (intOf v).toNat)
          case atStart => exact ⟨0, kk, [], L, rfl, rfl, Lib.hid (by omega), by omega, PS, Lib.hid rfl, OR, UR⟩
          case round =>
            obtain ⟨a, b, M, L', rfl, rfl, HAB, haN, HP, HML, OI, UI⟩ := hrel
            rename World => wi
            clear PS OR UR
            obtain ⟨m, hm⟩ : ∃ m, a + k = m := ⟨_, rfl⟩
            have HM := Lib.hid hm
            have t1 : (a : Int) + (k : Int) = (m : Int) := by omega
            have t1w : IntKind.i64.wrap (m : Int) = (m : Int) := by rw [IntKind.wrap_i64]; omega
            have LFT := Lib.hid HP.out.left
            have hmz : a < m := by omega
            clear hm
            by_cases hb : b ≤ N
            · have q3 : (b : Int) ≤ (N : Int) := by omega
              obtain ⟨c, hc⟩ : ∃ c, b + kk = c := ⟨_, rfl⟩
              have q4 : (b : Int) + (kk : Int) = (c : Int) := by omega
              have q4w : IntKind.i64.wrap (c : Int) = (c : Int) := by rw [IntKind.wrap_i64]; omega
              have HC := Lib.hid hc
              clear hc
              match L', HP, OI, LFT with
              | [], HP, OI, LFT => exact absurd LFT.out (by have := HP.out.short; have := HML.out; have := HN.out; have := HAB.out; have := HKK.out; simp only [List.length_cons, List.length_nil, Nat.succ_mul, Nat.zero_mul, Nat.zero_add, Nat.one_mul]; omega)
              | [l], HP, OI, LFT => exact absurd LFT.out (by have := HP.out.short; have := HML.out; have := HN.out; have := HAB.out; have := HKK.out; simp only [List.length_cons, List.length_nil, Nat.succ_mul, Nat.zero_mul, Nat.zero_add, Nat.one_mul]; omega)
              | l1 :: l2 :: L'', HP, OI, LFT =>
                have E1 := Lib.hid (HP.out.each l1 (by simp))
                have E2 := Lib.hid (HP.out.each l2 (by simp))
                have OA : Hid (Ow encPr 39 wi B (.slice (some ⟨g, 0, none⟩) N cp) (M.flatten ++ (l1 ++ (l2 ++ (L''.flatten ++ R))))) := Lib.hid (by
                  have := OI.out
                  rw [List.flatten_cons, List.flatten_cons] at this
                  simpa only [List.append_assoc] using this)
                go_wp2_with fail
                refine (sym_ok B g N cp hN (b - a + 1) M.flatten l1 l2 (L''.flatten ++ R) a m b wi (by omega) OA.out (row_len OA.out) HML.out (by rw [E1.out.1]; exact HM.out) (by rw [E2.out.1]; have := HM.out; have := HAB.out; have := HKK.out; omega) hmz (by have := HM.out; have := HAB.out; have := HKK.out; omega) E1.out.2 E2.out.2).mono ?_
                rintro e w2 ⟨rfl, Z, hz, o2, u2⟩
                have HP2 := Lib.hid (HP.out.next hz)
                have HML2 : Hid ((M ++ [Z]).flatten.length = b) := Lib.hid (by
                  rw [flat_snoc, List.length_append, HML.out, hz.2.length_eq, List.length_append, E1.out.1, E2.out.1]
                  have := HAB.out
                  have := HKK.out
                  omega)
                have O2 : Hid (Ow encPr 39 w2 B (.slice (some ⟨g, 0, none⟩) N cp) ((M ++ [Z]).flatten ++ (L''.flatten ++ R))) := Lib.hid (by rw [flat_snoc, List.append_assoc]; exact o2)
                have U2 := Lib.hid (UI.out.trans u2)
                have hab : a < b := by have := HAB.out; omega
                clear hz o2 u2 OA OI
                go_wp2_with fail
                go_roundw
                case rel => exact ⟨b, c, M ++ [Z], L'', rfl, by go_num, HC, hb, HP2, HML2, O2, U2⟩
                case measure => simp [intOf]; omega
            · have q3 : ¬ (b : Int) ≤ (N : Int) := by omega
              by_cases hmN : m < N
              · have q5 : (m : Int) < (N : Int) := by omega
                match L', HP, OI, LFT with
                | [], HP, OI, LFT => exact absurd LFT.out (by have := HP.out.short; have := HML.out; have := HN.out; have := HM.out; simp only [List.length_cons, List.length_nil, Nat.succ_mul, Nat.zero_mul, Nat.zero_add, Nat.one_mul]; omega)
                | l1 :: l2 :: L'', HP, OI, LFT => exact absurd LFT.out (by have := HML.out; have := HN.out; have := HAB.out; have := HKK.out; simp only [List.length_cons, List.length_nil, Nat.succ_mul, Nat.zero_mul, Nat.zero_add, Nat.one_mul]; omega)
                | [l], HP, OI, LFT =>
                  have E1 := Lib.hid (HP.out.each l (by simp))
                  have OA : Hid (Ow encPr 39 wi B (.slice (some ⟨g, 0, none⟩) N cp) (M.flatten ++ (l ++ (R ++ [])))) := Lib.hid (by
                    have := OI.out
                    simpa using this)
                  go_wp2_with fail
                  refine (sym_ok B g N cp hN (N - a + 1) M.flatten l R [] a m N wi (by omega) OA.out (row_len OA.out) HML.out (by rw [E1.out.1]; exact HM.out) (by have := LFT.out; rw [HML.out, HN.out] at this; simp only [List.length_cons, List.length_nil, Nat.succ_mul, Nat.zero_mul, Nat.zero_add, Nat.one_mul] at this; have := HM.out; omega) hmz hmN E1.out.2 HP.out.rest).mono ?_
                  rintro e w2 ⟨rfl, Z, hz, o2, u2⟩
                  have RS : Hid (∃ L R, Runs kk L R X ∧ Ow encPr 39 w2 B (.slice (some ⟨g, 0, none⟩) N cp) (L.flatten ++ R)) := Lib.hid ⟨M, Z, by have := HP.out.end1 hz; rwa [HKK.out] at this, by rw [List.append_nil] at o2; exact o2⟩
                  have U2 := Lib.hid (UI.out.trans u2)
                  clear hz o2 u2 OA OI
                  go_wp2_with fail
                  go_roundw
                  case rel => exact ⟨kk, by go_num, by omega, hkk2, RS, U2⟩
                  case measure => simp [intOf]; omega
              · have q5 : ¬ (m : Int) < (N : Int) := by omega
                have RS : Hid (∃ L R, Runs kk L R X ∧ Ow encPr 39 wi B (.slice (some ⟨g, 0, none⟩) N cp) (L.flatten ++ R)) := Lib.hid (by
                  match L', HP, OI, LFT with
                  | [], HP, OI, LFT => exact ⟨M, R, by have := HP.out.end0; rwa [HKK.out] at this, by simpa using OI.out⟩
                  | l1 :: l2 :: L'', HP, OI, LFT => exact absurd LFT.out (by have := HML.out; have := HN.out; have := HAB.out; have := HKK.out; simp only [List.length_cons, List.length_nil, Nat.succ_mul, Nat.zero_mul, Nat.zero_add, Nat.one_mul]; omega)
                  | [l], HP, OI, LFT =>
                    have hr : R = [] := len0 (by have := LFT.out; rw [HML.out, HN.out] at this; simp only [List.length_cons, List.length_nil, Nat.succ_mul, Nat.zero_mul, Nat.zero_add, Nat.one_mul] at this; have := HM.out; omega)
                    have hz : SortOf (l ++ R) l := by rw [hr, List.append_nil]; exact ⟨(HP.out.each l (by simp)).2, List.Perm.refl _⟩
                    exact ⟨M, l, by have := HP.out.end1 hz; rwa [HKK.out] at this, by have := OI.out; rw [hr] at this; simpa using this⟩)
                clear OI HP LFT
                go_wp2_with fail
                go_roundw
                case rel => exact ⟨kk, by go_num, by omega, hkk2, RS, UI⟩
                case measure => simp [intOf]; omega
        · have q1 : ¬ (k : Int) < (N : Int) := by omega
          go_wp2_with fail
          go_end0
          obtain ⟨L, R, hr, o⟩ := HR.out
          exact ⟨rfl, _, hr.done (by rw [HN.out]; omega) (by omega), o, UR.out⟩
set_option maxRecDepth 100000 in
theorem stable_nil (v : Value) (w : World) : Calls Tryd.prog 42 #[v, .int .i64 0, byK] w fun e w' => e = .returned (.tuple #[]) ∧ w = w' := by
  unfold byK
  go_enter Tryd.func42, Tryd.ntmps42
  go_wp2_with fail
  go_loopw [7, 8] (fun v u wr => v = .int .i64 0 ∧ u = .int .i64 20 ∧ w = wr) (fun _ _ _ => 0)
  case atStart => exact ⟨rfl, rfl, rfl⟩
  case round =>
    obtain ⟨rfl, rfl, rfl⟩ := hrel
    go_wp2_with fail
    refine (ins_nil v w).mono ?_
    rintro e w1 ⟨rfl, rfl⟩
    go_wp2_with fail
    go_loopw [6, 7, 8, 9] (fun v v7 v8 v9 wr => v = .int .i64 20 ∧ w = wr) (fun _ _ _ _ _ => 0)
    case atStart => exact ⟨rfl, rfl⟩
    case round =>
      obtain ⟨rfl, rfl⟩ := hrel
      go_wp2_with fail
      go_end0
      exact ⟨rfl, rfl⟩
def StablePost (B : Nat) (v : Value) (X : PL) (w : World) (e : Ending) (w' : World) : Prop := e = .returned (.tuple #[]) ∧ ∃ Z, SortOf X Z ∧ Ow encPr 39 w' B v Z ∧ Upd v.ownBlock.toList w w'
set_option maxRecDepth 100000 in
theorem sortStable_ok (B : Nat) (v : Value) (X : PL) (w : World) (ho : Ow encPr 39 w B v X) (hN : X.length ≤ 1000) :
    Calls Tryd.prog 24 #[v, byK] w fun e w' => StablePost B v X w e w' := by
  obtain ⟨A, c, rfl, _, _⟩ := own_slice ho
  obtain ⟨N, hn⟩ : ∃ N, X.length = N := ⟨_, rfl⟩
  rw [hn] at hN ⊢
  have HO : Hid (Ow encPr 39 w B (.slice A N c) X) := Lib.hid (by rw [hn] at ho; exact ho)
  have HN := Lib.hid hn
  clear ho hn
  unfold byK
  go_enter Tryd.func24, Tryd.ntmps24
  go_wp2_with fail
  by_cases h0 : N = 0
  · subst h0
    refine (stable_nil (.slice A 0 c) w).mono ?_
    rintro e w1 ⟨rfl, rfl⟩
    go_wp2_with fail
    go_end0
    have : X = [] := len0 HN.out
    subst this
    exact ⟨rfl, [], ⟨Kle.nil, List.Perm.refl _⟩, HO.out, .refl _ _⟩
  · obtain ⟨g, cg, cur, e1, -⟩ := own_form HO.out (by rw [HN.out]; omega)
    injection e1 with e1 en e1'
    subst e1 e1'
    clear en
    refine (stable_ok B g N c X w HO.out hN).mono ?_
    rintro e w1 ⟨rfl, Z, hz, o1, u1⟩
    have HZ := Lib.hid hz
    have O1 := Lib.hid o1
    have U1 := Lib.hid u1
    clear hz o1 u1
    go_wp2_with fail
    go_end0
    exact ⟨rfl, Z, HZ.out, O1.out, by simpa [Value.ownBlock] using U1.out⟩
end Go.Proofs.YthdjbflbhgbckaaDoor

/-
  order.wrong: what is wrong with one.
-/
import Derived.Test.YtegpfhldbdegbaaDoorOWithin
set_option linter.unusedVariables false
namespace Go.Proofs.YtegpfhldbdegbaaDoor
open Go.RowKit

def dupB (L : List Att) (i k : Nat) : Bool := (L.getD i default).wr && (L.getD k default).wr && decide ((L.getD i default).st = (L.getD k default).st)
def confB (L : List Att) (i j : Nat) : Bool := decide (j ≠ i) && decide ((L.getD j default).en < (L.getD i default).be) && !ahd L j i
/-- What is wrong with the one at place i. -/
def wrongAt (L : List Att) (i : Nat) : Int :=
  if (L.getD i default).en < (L.getD i default).be then 2 else if (List.range i).any (dupB L i) then 7 else if (List.range L.length).any (confB L i) then 12 else 0
theorem any_range_no {p : Nat → Bool} {n : Nat} (h : ∀ k, k < n → p k = false) : (List.range n).any p = false := by
  rw [List.any_eq_false]
  intro x hx
  rw [h x (by simpa using hx)]
  simp
theorem any_range_yes {p : Nat → Bool} {n k : Nat} (hk : k < n) (h : p k = true) : (List.range n).any p = true := by
  rw [List.any_eq_true]
  exact ⟨k, by simpa using hk, h⟩
theorem wrong_2 {L : List Att} {i : Nat} (h : (L.getD i default).en < (L.getD i default).be) : wrongAt L i = 2 := by unfold wrongAt; rw [if_pos h]
theorem wrong_7 {L : List Att} {i k : Nat} (h : (L.getD i default).be ≤ (L.getD i default).en) (hk : k < i) (hd : dupB L i k = true) : wrongAt L i = 7 := by
  unfold wrongAt; rw [if_neg (Int.not_lt.2 h), if_pos (any_range_yes hk hd)]
theorem wrong_12 {L : List Att} {i j : Nat} (h : (L.getD i default).be ≤ (L.getD i default).en) (hd : ∀ k, k < i → dupB L i k = false) (hj : j < L.length) (hc : confB L i j = true) : wrongAt L i = 12 := by
  unfold wrongAt; rw [if_neg (Int.not_lt.2 h), any_range_no hd, any_range_yes hj hc]; rfl
theorem wrong_0 {L : List Att} {i : Nat} (h : (L.getD i default).be ≤ (L.getD i default).en) (hd : ∀ k, k < i → dupB L i k = false) (hc : ∀ j, j < L.length → confB L i j = false) : wrongAt L i = 0 := by
  unfold wrongAt; rw [if_neg (Int.not_lt.2 h), any_range_no hd, any_range_no hc]; rfl
theorem below_succ {p : Nat → Prop} {k : Nat} (h : ∀ j, j < k → p j) (hk : p k) : ∀ j, j < k + 1 → p j := by
  intro j hj
  rcases Nat.lt_or_eq_of_le (Nat.le_of_lt_succ hj) with h1 | h1
  · exact h j h1
  · exact h1 ▸ hk
/-- The cells of the attempt at place i. -/
theorem Atts.six {w : World} {A : Option Addr} {L : List Att} (h : Atts w A L) (i : Nat) (hi : i < L.length) (v : Att) (hv : L.getD i default = v) :
    ∃ ad, A = some ad ∧ w.cell? (ad.add (i * 6)) = some (.int .i64 v.th) ∧ w.cell? ⟨(ad.add (i * 6)).block, (ad.add (i * 6)).off + 1, none⟩ = some (.int .i64 v.ix) ∧ w.cell? ⟨(ad.add (i * 6)).block, (ad.add (i * 6)).off + 2, none⟩ = some (.int .i64 v.st) ∧
      w.cell? ⟨(ad.add (i * 6)).block, (ad.add (i * 6)).off + 3, none⟩ = some (.bool v.wr) ∧ w.cell? ⟨(ad.add (i * 6)).block, (ad.add (i * 6)).off + 4, none⟩ = some (.int .i64 v.be) ∧ w.cell? ⟨(ad.add (i * 6)).block, (ad.add (i * 6)).off + 5, none⟩ = some (.int .i64 v.en) := by
  obtain ⟨ad, rfl, c1, c2, c3, c4, c5, c6, _⟩ := h i _ (List.getElem?_eq_getElem hi)
  rw [List.getD_eq_getElem?_getD, List.getElem?_eq_getElem hi] at hv
  simp only [Option.getD_some] at hv
  rw [hv] at c1 c2 c3 c4 c5 c6
  exact ⟨ad, rfl, c1, c2, c3, c4, c5, c6⟩

set_option maxHeartbeats 2000000 in
theorem wrong_ok (A : Option Addr) (n c : Nat) (L : List Att) (i : Nat) (w : World) (hA : Atts w A L) (hn : L.length = n) (h60 : n ≤ 100) (hi : i < n) (hc : n ≤ c) (hcm : c ≤ 9223372036854775807) :
    Calls Tryd.prog 24 #[.slice A n c, .int .i64 i] w fun e w' => e = .returned (.int .i64 (wrongAt L i)) ∧ Upd [] w w' := by
  obtain ⟨v, hv⟩ : ∃ v, L.getD i default = v := ⟨_, rfl⟩
  obtain ⟨ad, rfl, x1, x2, x3, x4, x5, x6⟩ := hA.six i (by omega) v hv
  obtain ⟨a1, a2, a3, a4, a5, a6⟩ := v
  dsimp only at x1 x2 x3 x4 x5 x6
  have HN := Lib.hid hn
  have HA := Lib.hid hA
  have HV := Lib.hid hv
  have hi0 : (i : Int) ≤ c := by omega
  clear hn hA hv
  by_cases h2 : a6 < a5
  · have HR : Hid (wrongAt L i = 2) := Lib.hid (wrong_2 (by rw [HV.out]; exact h2))
    go_enter Tryd.func24, Tryd.ntmps24
    go_wp2_with fail
    go_ret
    rw [HR.out]
    exact ⟨rfl, (Upd.refl [] w).alloc _⟩
  · have HR : Hid ((L.getD i default).be ≤ (L.getD i default).en) := Lib.hid (by rw [HV.out]; exact Int.not_lt.1 h2)
    go_enter Tryd.func24, Tryd.ntmps24
    go_wp2_with fail
    clear x1 x2 x3 x4 x5 x6
    have b0 := Blk.new w 38 #[.int .i64 a1, .int .i64 a2, .int .i64 a3, .bool a4, .int .i64 a5, .int .i64 a6]
    have u0 := (Upd.refl [] w).alloc (.cells #[.int .i64 a1, .int .i64 a2, .int .i64 a3, .bool a4, .int .i64 a5, .int .i64 a6] 38)
    obtain ⟨p, hp⟩ : ∃ p, w.heap.size = p := ⟨_, rfl⟩
    rw [hp] at b0 ⊢
    have B0 := Lib.hid b0
    have U0 := Lib.hid u0
    clear b0 u0 hp
    generalize w.alloc (.cells #[.int .i64 a1, .int .i64 a2, .int .i64 a3, .bool a4, .int .i64 a5, .int .i64 a6] 38) = w0 at *
    go_loopw [23] (fun u wr => ∃ k : Nat, u = .int .i64 k ∧ k ≤ i ∧ Hid (Upd [] w0 wr) ∧ Hid (∀ j, j < k → dupB L i j = false)) (fun u _ => i - (intOf u).toNat)
    case atStart => exact ⟨0, rfl, by omega, Lib.hid (.refl _ _), Lib.hid (by intro j hj; omega)⟩
    case round =>
      obtain ⟨k, rfl, hk, HU, HD⟩ := hrel
      have b1 := B0.out.upd HU.out (by simp)
      have p2 : wr.cell? ⟨p, 2, none⟩ = some (.int .i64 a3) := b1.cell 2
      have p3 : wr.cell? ⟨p, 3, none⟩ = some (.bool a4) := b1.cell 3
      have pl : p < wr.heap.size := b1.lt
      clear b1
      by_cases hki : k < i
      · obtain ⟨v, hv⟩ : ∃ v, L.getD k default = v := ⟨_, rfl⟩
        obtain ⟨ad', he, y1, y2, y3, y4, y5, y6⟩ := (HA.out.upd (U0.out.trans HU.out)).six k (by rw [HN.out]; omega) v hv
        injection he with he
        subst he
        obtain ⟨b1, b2, b3, b4, b5, b6⟩ := v
        dsimp only at y1 y2 y3 y4 y5 y6
        have HK := Lib.hid hv
        clear hv
        have HDK : Hid (dupB L i k = (a4 && b4 && decide (a3 = b3))) := Lib.hid (by unfold dupB; rw [HV.out, HK.out])
        cases a4 with
        | false =>
          go_wp2_with fail
          go_roundw
          case rel => exact ⟨k + 1, by go_num, by omega, Lib.hid (HU.out.alloc _), Lib.hid (below_succ HD.out (by rw [HDK.out]; rfl))⟩
          case measure => simp [intOf]; omega
        | true =>
          cases b4 with
          | false =>
            go_wp2_with fail
            go_roundw
            case rel => exact ⟨k + 1, by go_num, by omega, Lib.hid (HU.out.alloc _), Lib.hid (below_succ HD.out (by rw [HDK.out]; rfl))⟩
            case measure => simp [intOf]; omega
          | true =>
            by_cases h3 : a3 = b3
            · subst h3
              have HX : Hid (wrongAt L i = 7) := Lib.hid (wrong_7 HR.out hki (by rw [HDK.out]; simp))
              go_wp2_with fail
              go_ret
              rw [HX.out]
              exact ⟨rfl, U0.out.trans (HU.out.alloc _)⟩
            · have e3 : (a3 == b3) = false := by simpa using h3
              have H3 : Hid (dupB L i k = false) := Lib.hid (by rw [HDK.out]; simp [h3])
              clear h3
              go_wp2_with fail
              go_roundw
              case rel => exact ⟨k + 1, by go_num, by omega, Lib.hid (HU.out.alloc _), Lib.hid (below_succ HD.out H3.out)⟩
              case measure => simp [intOf]; omega
      · obtain rfl : i = k := by omega
        go_wp2_with fail
        have U1 := Lib.hid (U0.out.trans HU.out)
        have B1 := Lib.hid (B0.out.upd HU.out (by simp))
        clear HU p2 p3 pl
        obtain ⟨w1, rfl⟩ : ∃ w1 : World, w1 = wr := ⟨_, rfl⟩
        go_loopw [43] (fun u ws => ∃ j : Nat, u = .int .i64 j ∧ j ≤ n ∧ Hid (Upd [] w1 ws) ∧ Hid (∀ k, k < j → confB L i k = false)) (fun u _ => n - (intOf u).toNat)
        case atStart => exact ⟨0, rfl, by omega, Lib.hid (.refl _ _), Lib.hid (by intro j hj; omega)⟩
        case round =>
          obtain ⟨j, rfl, hj, JU, JC⟩ := hrel
          have q1 := B1.out.upd JU.out (by simp)
          have p4 : wr.cell? ⟨p, 4, none⟩ = some (.int .i64 a5) := q1.cell 4
          have pl : p < wr.heap.size := q1.lt
          clear q1
          by_cases hjn : j < n
          · obtain ⟨v, hv⟩ : ∃ v, L.getD j default = v := ⟨_, rfl⟩
            obtain ⟨ad', he, y1, y2, y3, y4, y5, y6⟩ := (HA.out.upd (U1.out.trans JU.out)).six j (by rw [HN.out]; omega) v hv
            injection he with he
            subst he
            obtain ⟨b1, b2, b3, b4, b5, b6⟩ := v
            dsimp only at y1 y2 y3 y4 y5 y6
            have HK := Lib.hid hv
            clear hv
            have HCJ : Hid (confB L i j = (decide (j ≠ i) && decide (b6 < a5) && !ahd L j i)) := Lib.hid (by unfold confB; rw [HV.out, HK.out])
            by_cases hji : j = i
            · subst hji
              have H3 : Hid (confB L j j = false) := Lib.hid (by rw [HCJ.out]; simp)
              go_wp2_with fail
              go_roundw
              case rel => exact ⟨j + 1, by go_num, by omega, Lib.hid (JU.out.alloc _), Lib.hid (below_succ JC.out H3.out)⟩
              case measure => simp [intOf]; omega
            · have e1 : ((j : Int) != (i : Int)) = true := by
                have : ¬ (j : Int) = i := by omega
                simpa using this
              have hne := Lib.hid hji
              clear hji
              by_cases h5 : b6 < a5
              · go_wp2_with fail
                refine (ahead_at (some ad) n c L _ (HA.out.upd ((U1.out.trans JU.out).alloc _)) HN.out j i hjn hi).mono ?_; rintro e w2 ⟨rfl, u2⟩
                have U2 := Lib.hid ((JU.out.alloc _).trans u2)
                clear u2
                cases hb : ahd L j i with
                | true =>
                  have H3 : Hid (confB L i j = false) := Lib.hid (by rw [HCJ.out, hb]; simp)
                  clear hb
                  go_wp2_with fail
                  go_roundw
                  case rel => exact ⟨j + 1, by go_num, by omega, U2, Lib.hid (below_succ JC.out H3.out)⟩
                  case measure => simp [intOf]; omega
                | false =>
                  have H3 : Hid (wrongAt L i = 12) := Lib.hid (wrong_12 HR.out HD.out (by rw [HN.out]; exact hjn) (by rw [HCJ.out, hb]; simp [hne.out, h5]))
                  clear hb
                  go_wp2_with fail
                  go_ret
                  rw [H3.out]
                  exact ⟨rfl, U1.out.trans U2.out⟩
              · have H3 : Hid (confB L i j = false) := Lib.hid (by rw [HCJ.out]; simp [h5])
                go_wp2_with fail
                go_roundw
                case rel => exact ⟨j + 1, by go_num, by omega, Lib.hid (JU.out.alloc _), Lib.hid (below_succ JC.out H3.out)⟩
                case measure => simp [intOf]; omega
          · obtain rfl : n = j := by omega
            have H3 : Hid (wrongAt L i = 0) := Lib.hid (wrong_0 HR.out HD.out (by rw [HN.out]; exact JC.out))
            go_wp2_with fail
            go_ret
            rw [H3.out]
            exact ⟨rfl, U1.out.trans JU.out⟩
end Go.Proofs.YtegpfhldbdegbaaDoor

/-
  order.Within, concordref12.Within: how many are ahead.
-/
import Derived.Test.YtegpfhldbdegbaaDoorRSort
set_option linter.unusedVariables false
namespace Go.Proofs.YtegpfhldbdegbaaDoor
open Go.RowKit

/-- Behind the first k of the order: how many are ahead of what begins then. -/
def wthK (L : List Att) (S : List Nat) (begin_ : Int) : Nat → Nat
  | 0 => 0
  | k + 1 => if (L.getD (S.getD k 0) default).en < begin_ then k + 1 else wthK L S begin_ k
def wth (L : List Att) (begin_ : Int) : Nat := wthK L (srt (ahd L) (List.range L.length)) begin_ L.length
theorem wthK_le (L : List Att) (S : List Nat) (b : Int) : ∀ k, wthK L S b k ≤ k
  | 0 => Nat.le_refl _
  | k + 1 => by
    unfold wthK
    split
    · exact Nat.le_refl _
    · exact Nat.le_succ_of_le (wthK_le L S b k)
theorem wthK_yes {L : List Att} {S : List Nat} {b : Int} {k i : Nat} (h : S.getD k 0 = i) (he : (L.getD i default).en < b) : wthK L S b (k + 1) = k + 1 := by unfold wthK; rw [h, if_pos he]
theorem wthK_no {L : List Att} {S : List Nat} {b : Int} {k i : Nat} (h : S.getD k 0 = i) (he : ¬ (L.getD i default).en < b) : wthK L S b (k + 1) = wthK L S b k := by
  show (if (L.getD (S.getD k 0) default).en < b then k + 1 else wthK L S b k) = _
  rw [h, if_neg he]
theorem srt_len (L : List Att) (n : Nat) : (srt (ahd L) (List.range n)).length = n := by rw [(srt_perm _).length_eq, List.length_range]
theorem srt_lt (L : List Att) (n k : Nat) (hk : k < n) : (srt (ahd L) (List.range n)).getD k 0 < n := by
  rw [List.getD_eq_getElem?_getD, List.getElem?_eq_getElem (by rw [srt_len]; exact hk)]
  have := (srt_perm (lt := ahd L) (List.range n)).mem_iff.1 (List.getElem_mem (by rw [srt_len]; exact hk))
  simpa using this
/-- The End of the attempt at place i. -/
theorem Atts.en {w : World} {A : Option Addr} {L : List Att} (h : Atts w A L) (i : Nat) (hi : i < L.length) :
    ∃ ad, A = some ad ∧ w.cell? ⟨(ad.add (i * 6)).block, (ad.add (i * 6)).off + 5, none⟩ = some (.int .i64 (L.getD i default).en) := by
  obtain ⟨ad, rfl, _, _, _, _, _, c6, _⟩ := h i _ (List.getElem?_eq_getElem hi)
  exact ⟨ad, rfl, by rw [List.getD_eq_getElem?_getD, List.getElem?_eq_getElem hi]; exact c6⟩

set_option maxHeartbeats 1000000 in
theorem within_ok (A : Option Addr) (n c : Nat) (L : List Att) (b : Int) (w : World) (hA : Atts w A L) (hn : L.length = n) (h60 : n ≤ 100) :
    Calls Tryd.prog 17 #[.slice A n c, .int .i64 b] w fun e w' => e = .returned (.int .i64 (wth L b)) ∧ Upd [] w w' := by
  have HN := Lib.hid hn
  have HA := Lib.hid hA
  obtain ⟨S, hS⟩ : ∃ S, srt (ahd L) (List.range n) = S := ⟨_, rfl⟩
  have HW : Hid (wth L b = wthK L S b n) := Lib.hid (by unfold wth; rw [hn, hS])
  have HL : Hid (S.length = n) := Lib.hid (hS ▸ srt_len L n)
  have HT : Hid (∀ k, k < n → S.getD k 0 < n) := Lib.hid (hS ▸ fun k hk => srt_lt L n k hk)
  have HS := Lib.hid hS
  clear hn hA hS
  go_enter Tryd.func17, Tryd.ntmps17
  go_wp2_with fail
  refine (sort_ok A n c L _ HA.out HN.out h60).mono ?_; rintro e w1 ⟨v, rfl, o1, u1⟩
  rw [HS.out] at o1
  have O1 := Lib.hid o1
  have U1 := Lib.hid u1
  clear o1 u1
  obtain ⟨A1, c1, rfl, _⟩ := own_slice O1.out
  go_wp2_with fail
  go_loopw [5, 11] (fun m i wr => ∃ k : Nat, i = .int .i64 k ∧ k ≤ n ∧ m = .int .i64 (wthK L S b k) ∧ Hid (Upd [] w1 wr)) (fun _ i _ => n - (intOf i).toNat)
  case atStart => exact ⟨0, rfl, by omega, rfl, Lib.hid (.refl _ _)⟩
  case round =>
    obtain ⟨k, rfl, hk, rfl, HU⟩ := hrel
    by_cases hlt : k < n
    · have KO := own_upd0 O1.out HU.out
      obtain ⟨g, c', cur, he, _⟩ := own_form KO (by omega)
      injection he with he _ he2
      subst he he2
      obtain ⟨i, hi⟩ : ∃ i, S.getD k 0 = i := ⟨_, rfl⟩
      have f1 : wr.cell? ⟨g, k, none⟩ = some (.int .i64 i) := by
        have := own_cell KO k _ (ints_get S k (by rw [HL.out]; exact hlt))
        rw [this, ← hi]; rfl
      have hin : i < n := hi ▸ HT.out k hlt
      obtain ⟨ad, rfl, f2⟩ := ((HA.out.upd U1.out).upd HU.out).en i (by rw [HN.out]; exact hin)
      obtain ⟨x, hx⟩ : ∃ x, (L.getD i default).en = x := ⟨_, rfl⟩
      rw [hx] at f2
      have HX := Lib.hid hx
      have HI := Lib.hid hi
      clear hx hi KO
      by_cases hlb : x < b
      · go_wp2_with fail
        go_roundw
        case rel => exact ⟨k + 1, by go_num, by omega, by rw [wthK_yes HI.out (by rw [HX.out]; exact hlb)]; go_num, HU⟩
        case measure => simp [intOf]; omega
      · go_wp2_with fail
        go_roundw
        case rel => exact ⟨k + 1, by go_num, by omega, by rw [wthK_no HI.out (by rw [HX.out]; exact hlb)], HU⟩
        case measure => simp [intOf]; omega
    · obtain rfl : n = k := by omega
      go_wp2_with fail
      go_ret
      rw [HW.out]
      exact ⟨rfl, U1.out.trans HU.out⟩

set_option maxHeartbeats 1000000 in
theorem rwithin_ok (A : Option Addr) (n c : Nat) (L : List Att) (b : Int) (w : World) (hA : Atts w A L) (hn : L.length = n) (h60 : n ≤ 100) :
    Calls Tryd.prog 18 #[.slice A n c, .int .i64 b] w fun e w' => e = .returned (.int .i64 (wth L b)) ∧ Upd [] w w' := by
  have HN := Lib.hid hn
  have HA := Lib.hid hA
  obtain ⟨S, hS⟩ : ∃ S, srt (ahd L) (List.range n) = S := ⟨_, rfl⟩
  have HW : Hid (wth L b = wthK L S b n) := Lib.hid (by unfold wth; rw [hn, hS])
  have HL : Hid (S.length = n) := Lib.hid (hS ▸ srt_len L n)
  have HT : Hid (∀ k, k < n → S.getD k 0 < n) := Lib.hid (hS ▸ fun k hk => srt_lt L n k hk)
  have HS := Lib.hid hS
  clear hn hA hS
  go_enter Tryd.func18, Tryd.ntmps18
  go_wp2_with fail
  refine (rsort_ok A n c L _ HA.out HN.out h60).mono ?_; rintro e w1 ⟨v, rfl, o1, u1⟩
  rw [HS.out] at o1
  have O1 := Lib.hid o1
  have U1 := Lib.hid u1
  clear o1 u1
  obtain ⟨A1, c1, rfl, _⟩ := own_slice O1.out
  go_wp2_with fail
  go_loopw [5, 7] (fun m i wr => ∃ k : Nat, i = .int .i64 k ∧ k ≤ n ∧ m = .int .i64 (wthK L S b k) ∧ Hid (Upd [] w1 wr)) (fun _ i _ => n - (intOf i).toNat)
  case atStart => exact ⟨0, rfl, by omega, rfl, Lib.hid (.refl _ _)⟩
  case round =>
    obtain ⟨k, rfl, hk, rfl, HU⟩ := hrel
    by_cases hlt : k < n
    · have KO := own_upd0 O1.out HU.out
      obtain ⟨g, c', cur, he, _⟩ := own_form KO (by omega)
      injection he with he _ he2
      subst he he2
      obtain ⟨i, hi⟩ : ∃ i, S.getD k 0 = i := ⟨_, rfl⟩
      have f1 : wr.cell? ⟨g, k, none⟩ = some (.int .i64 i) := by
        have := own_cell KO k _ (ints_get S k (by rw [HL.out]; exact hlt))
        rw [this, ← hi]; rfl
      have hin : i < n := hi ▸ HT.out k hlt
      obtain ⟨ad, rfl, f2⟩ := ((HA.out.upd U1.out).upd HU.out).en i (by rw [HN.out]; exact hin)
      obtain ⟨x, hx⟩ : ∃ x, (L.getD i default).en = x := ⟨_, rfl⟩
      rw [hx] at f2
      have HX := Lib.hid hx
      have HI := Lib.hid hi
      clear hx hi KO
      by_cases hlb : x < b
      · go_wp2_with fail
        go_roundw
        case rel => exact ⟨k + 1, by go_num, by omega, by rw [wthK_yes HI.out (by rw [HX.out]; exact hlb)]; go_num, HU⟩
        case measure => simp [intOf]; omega
      · go_wp2_with fail
        go_roundw
        case rel => exact ⟨k + 1, by go_num, by omega, by rw [wthK_no HI.out (by rw [HX.out]; exact hlb)], HU⟩
        case measure => simp [intOf]; omega
    · obtain rfl : n = k := by omega
      go_wp2_with fail
      go_ret
      rw [HW.out]
      exact ⟨rfl, U1.out.trans HU.out⟩
end Go.Proofs.YtegpfhldbdegbaaDoor

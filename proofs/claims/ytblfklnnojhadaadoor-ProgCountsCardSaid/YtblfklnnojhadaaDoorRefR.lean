/-
  concordref09.Right, Deep, Waits.
-/
import Derived.Test.YtblfklnnojhadaaDoorLines
import Derived.Test.YtblfklnnojhadaaDoorOne
set_option linter.unusedVariables false
namespace Go.Proofs.YtblfklnnojhadaaDoor
open Go.RowKit

/-- The document's answer: from the line i on. -/
def refR (ks : List Int) : List (Stm × Nat) → Nat → Int × Int
  | [], _ => (0, 0)
  | (x, d) :: l, i => if 100 ≤ i then (8, (i : Int) + 1) else if 8 < d then (10, (i : Int) + 1) else if !rightS ks x then (9, (i : Int) + 1) else refR ks l (i + 1)
theorem refR_walk (ks : List Int) : ∀ (l : List (Stm × Nat)) (i : Nat), (walkF (stepR ks) l (0, 0) i).2.1 = refR ks l i
  | [], i => rfl
  | (x, d) :: l, i => by
    unfold walkF refR
    by_cases h1 : 100 ≤ i
    · rw [if_pos h1]
      have : stepR ks (0, 0) (i + 1) d x = (false, (8, ((i + 1 : Nat) : Int))) := by unfold stepR; rw [if_pos (by omega)]; rfl
      rw [this]
      simp
    · rw [if_neg h1]
      by_cases h2 : 8 < d
      · rw [if_pos h2]
        have : stepR ks (0, 0) (i + 1) d x = (false, (10, ((i + 1 : Nat) : Int))) := by unfold stepR; rw [if_neg (by omega), if_pos h2]; rfl
        rw [this]
        simp
      · rw [if_neg h2]
        cases h3 : rightS ks x with
        | false =>
          have : stepR ks (0, 0) (i + 1) d x = (false, (9, ((i + 1 : Nat) : Int))) := by unfold stepR; rw [if_neg (by omega), if_neg h2, h3]; rfl
          rw [this]
          simp
        | true =>
          have : stepR ks (0, 0) (i + 1) d x = (true, (0, 0)) := by unfold stepR; rw [if_neg (by omega), if_neg h2, h3]; rfl
          rw [this]
          simp only [Bool.not_true, Bool.false_eq_true, if_false]
          exact refR_walk ks l (i + 1)
theorem refR_drop {ks : List Int} {L : List (Stm × Nat)} {i : Nat} {x : Stm} {d : Nat} (h : L[i]? = some (x, d)) :
    refR ks (L.drop i) i = if 100 ≤ i then (8, (i : Int) + 1) else if 8 < d then (10, (i : Int) + 1) else if !rightS ks x then (9, (i : Int) + 1) else refR ks (L.drop (i + 1)) (i + 1) := by
  obtain ⟨hl, he⟩ := List.getElem?_eq_some_iff.1 h
  rw [List.drop_eq_getElem_cons hl, he]
  rfl

/-- The slice of lines: what its cells are. -/
structure LineAt (W : World) (B : Nat) (v : Value) (L : List (Stm × Nat)) : Prop where
  slice : ∃ A c, v = .slice A L.length c ∧ L.length ≤ c ∧ c ≤ 9223372036854775807 ∧ ∀ i k coll reg ar an br bn bo el d, L[i]? = some (.mk k coll reg ar an br bn bo el, d) → ∃ ad vb ve, A = some ad ∧ ad.block < W.heap.size ∧ Stms W B vb bo ∧ Stms W B ve el ∧
    W.cell? (ad.add (i * 10)) = some (.int .i64 k) ∧ ∀ j u, (stmCells k coll reg ar an br bn vb ve ++ [.int .i64 d])[j + 1]? = some u → W.cell? ⟨(ad.add (i * 10)).block, (ad.add (i * 10)).off + (j + 1), none⟩ = some u
theorem lineAt_of {W : World} {B B' : Nat} {v : Value} {n : Nat} {L : List (Stm × Nat)} {xs : List Value} (hn : n = L.length) (ho : W.ownsRow B' 42 10 v n xs) (hr : LinesR W B L xs) : LineAt W B v L := by
  subst hn
  obtain ⟨A, c, rfl, h1, h2⟩ := own_slice ho
  obtain ⟨_, A', c', he, hs⟩ := Src.of_own ho
  injection he with he _ _
  subst he
  refine ⟨A, c, rfl, h1, by simpa [maxLen] using h2, fun i k coll reg ar an br bn bo el d h => ?_⟩
  obtain ⟨vb, ve, g1, g2, g3⟩ := hr.get h
  obtain ⟨ad, rfl, hl, c0⟩ := hs (i * 10) _ (g3 0 _ rfl)
  refine ⟨ad, vb, ve, rfl, hl, g1, g2, c0, fun j u hu => ?_⟩
  obtain ⟨ad', e, _, cj⟩ := hs (i * 10 + (j + 1)) u (g3 (j + 1) u hu)
  cases e
  rw [← add_more]
  exact cj
theorem LineAt.keep {W W' : World} {B : Nat} {v : Value} {L : List (Stm × Nat)} (h : LineAt W B v L) (hB : B ≤ W.heap.size) (hu : Upd [] W W') : LineAt W' B v L := by
  obtain ⟨A, c, e, h1, h2, hh⟩ := h.slice
  have hb : Below W.heap.size W W' := hu.below (Nat.le_refl _) (by simp)
  have hbB : Below B W W' := hu.below hB (by simp)
  refine ⟨A, c, e, h1, h2, fun i k coll reg ar an br bn bo el d h => ?_⟩
  obtain ⟨ad, vb, ve, e, hl, g1, g2, c0, cj⟩ := hh i k coll reg ar an br bn bo el d h
  exact ⟨ad, vb, ve, e, Nat.lt_of_lt_of_le hl hu.size, g1.belowW hbB, g2.belowW hbB, (hb.cell (by rw [block_add]; exact hl)).trans c0, fun j u hu' => (hb.cell (p := ⟨_, _, none⟩) (by rw [block_add]; exact hl)).trans (cj j u hu')⟩

/-- Lines of all, put behind none. -/
theorem lines_all (l : List Stm) (v : Value) (w : World) (hv : Stms w w.heap.size v l) (hl : sizes l ≤ 900000) :
    Calls Tryd.prog 14 #[.slice none 0 0, v, .int .i64 1] w fun e w' => ∃ v', e = .returned v' ∧ LineAt w' w.heap.size v' (linesOf 1 l) ∧ Upd [] w w' := by
  have hc := lines_ok (Nat.le_refl w.heap.size) (sizes l + 1) l v (.slice none 0 0) w 1 0 [] (by omega) hv (own_nil _ _ _ _) (Nat.le_refl _) (by omega) (by omega)
  refine hc.mono ?_
  rintro e w' ⟨v', ys, rfl, h1, h2, h3, _⟩
  exact ⟨v', rfl, lineAt_of (by omega) h1 (by simpa using h2), by simpa [Value.ownBlock] using h3⟩

set_option maxRecDepth 100000 in
set_option maxHeartbeats 2000000 in
theorem ref_right_ok (l : List Stm) (v : Value) (A : Option Addr) (n c : Nat) (ks : List Int) (w : World) (hv : Stms w w.heap.size v l) (hk : Src w 1 (.slice A n c) n (ks.map (Value.int .i64))) (hn : n ≤ 1000000) (hl : sizes l ≤ 900000) :
    Calls Tryd.prog 11 #[v, .slice A n c] w fun e w' => e = .returned (.tuple #[.int .i64 (rightR ks l).1, .int .i64 (rightR ks l).2]) ∧ Upd [] w w' := by
  have HV := Lib.hid hv
  have HK := Lib.hid hk
  have HR : Hid (rightR ks l = refR ks ((linesOf 1 l).drop 0) 0) := Lib.hid (refR_walk ks _ _)
  have HLN := Lib.hid (lines_sizes _ l 1 (Nat.le_refl _))
  clear hv hk
  go_enter Tryd.func11, Tryd.ntmps11
  go_wp2_with fail
  refine (lines_all l v w HV.out hl).mono ?_; rintro e w1 ⟨v1, rfl, hla, u1⟩
  have HLA := Lib.hid hla
  have U1 := Lib.hid u1
  obtain ⟨A1, c1, rfl, hc1, hc2, _⟩ := hla.slice
  obtain ⟨L, hL⟩ : ∃ L, linesOf 1 l = L := ⟨_, rfl⟩
  rw [hL] at HLA HLN HR hc1
  rw [hL]
  have hln : L.length ≤ 900000 := by rw [HLN.out]; exact hl
  clear hla u1 hL
  obtain ⟨m, hm⟩ : ∃ m, L.length = m := ⟨_, rfl⟩
  rw [hm] at HLA hc1 hln ⊢
  have HM := Lib.hid hm
  clear hm HLN
  go_wp2_with fail
  go_loopw [7] (fun i wr => ∃ (k : Nat), i = .int .i64 k ∧ k ≤ m ∧ Hid (rightR ks l = refR ks (L.drop k) k) ∧ Hid (Upd [] w1 wr)) (fun i _ => m - (intOf i).toNat)
  case atStart => exact ⟨0, rfl, by omega, HR, Lib.hid (.refl _ _)⟩
  case round =>
    obtain ⟨k, rfl, hk, KR, KU⟩ := hrel
    by_cases hkm : k < m
    · obtain ⟨⟨x, d⟩, hx⟩ : ∃ x, L[k]? = some x := ⟨_, List.getElem?_eq_getElem (by rw [HM.out]; exact hkm)⟩
      obtain ⟨a1, a2, a3, a4, a5, a6, a7, bo, el⟩ := x
      obtain ⟨A2, c2, e2, _, _, hh⟩ := (HLA.out.keep U1.out.size KU.out).slice
      injection e2 with e2 e4 e3
      clear e4
      subst e2 e3
      obtain ⟨ad, vb, ve, rfl, hlt, hsb, hse, c0, cj⟩ := hh k a1 a2 a3 a4 a5 a6 a7 bo el d hx
      have HX := Lib.hid (KR.out.trans (refR_drop hx))
      obtain ⟨Ab, nb, cb, rfl⟩ := hsb.slice
      obtain ⟨Ae, ne, ce, rfl⟩ := hse.slice
      obtain ⟨hlb, hlb2⟩ := hsb.len
      obtain ⟨hle, hle2⟩ := hse.len
      subst hlb hle
      have c1 := cj 0 _ rfl
      have c2 := cj 1 _ rfl
      have c3 := cj 2 _ rfl
      have c4 := cj 3 _ rfl
      have c5 := cj 4 _ rfl
      have c6 := cj 5 _ rfl
      have c7 := cj 6 _ rfl
      have c8 := cj 7 _ rfl
      have c9 := cj 8 _ rfl
      have HK1 : Hid (Src wr 1 (.slice A n c) n (ks.map (Value.int .i64))) := Lib.hid ((HK.out.upd0 U1.out).upd0 KU.out)
      clear cj hsb hse hx hh
      by_cases h1 : 100 ≤ k
      · have h1' : decide ((100 : Int) ≤ k) = true := by simp; omega
        have HZ : Hid (rightR ks l = (8, (k : Int) + 1)) := Lib.hid (by rw [HX.out, if_pos h1])
        go_wp2_with fail
        go_ret2
        rw [HZ.out]
        exact ⟨rfl, U1.out.trans KU.out⟩
      · have h1' : decide ((100 : Int) ≤ k) = false := by simp; omega
        by_cases h2 : 8 < d
        · have h2' : decide ((8 : Int) < d) = true := by simp; omega
          have HZ : Hid (rightR ks l = (10, (k : Int) + 1)) := Lib.hid (by rw [HX.out, if_neg h1, if_pos h2])
          go_wp2_with fail
          go_ret2
          rw [HZ.out]
          exact ⟨rfl, U1.out.trans KU.out⟩
        · have h2' : decide ((8 : Int) < d) = false := by simp; omega
          have HZ : Hid (rightR ks l = if !rightV a1 a2 a3 a4 a5 a6 a7 bo.length el.length ks then (9, (k : Int) + 1) else refR ks (L.drop (k + 1)) (k + 1)) := Lib.hid (by rw [HX.out, if_neg h1, if_neg h2]; rfl)
          obtain ⟨b, hb⟩ : ∃ b, rightV a1 a2 a3 a4 a5 a6 a7 bo.length el.length ks = b := ⟨_, rfl⟩
          have HBV := Lib.hid hb
          rw [hb] at HZ
          clear hb
          go_wp2_with fail
          refine (one_ok a1 a2 a3 a4 a5 a6 a7 Ab Ae bo.length cb el.length ce A n c ks wr hn hlb2 hle2 HK1.out).mono ?_; rintro e w3 ⟨rfl, u3⟩
          rw [HBV.out]
          have U3 := Lib.hid (KU.out.trans u3)
          clear u3
          cases b with
          | false =>
            go_wp2_with fail
            go_ret2
            rw [HZ.out]
            exact ⟨rfl, U1.out.trans U3.out⟩
          | true =>
            go_wp2_with fail
            go_roundw
            case rel => exact ⟨k + 1, by go_num, by omega, Lib.hid (by rw [HZ.out]; rfl), U3⟩
            case measure => simp [intOf]; omega
    · obtain rfl : m = k := by omega
      have HZ : Hid (rightR ks l = (0, 0)) := Lib.hid (by rw [KR.out, List.drop_eq_nil_of_le (by rw [HM.out]; exact Nat.le_refl _)]; rfl)
      go_wp2_with fail
      go_ret2
      rw [HZ.out]
      exact ⟨rfl, U1.out.trans KU.out⟩
end Go.Proofs.YtblfklnnojhadaaDoor

/-
  stats: Join, Of.
-/
import Derived.Test.YtiahnlaplkeiaaaDoorSt1
set_option linter.unusedVariables false
namespace Go.Proofs.YtiahnlaplkeiaaaDoor
open Go.RowKit St
attribute [local go_sem] litStep_value

theorem take_snoc {α : Type} {L : List α} {k : Nat} {x : α} (h : L[k]? = some x) : L.take (k + 1) = L.take k ++ [x] := by
  obtain ⟨hk, rfl⟩ := List.getElem?_eq_some_iff.1 h
  exact List.take_succ_eq_append_getElem hk
/-- The cells of one that ended. -/
def EnAt (w : World) (ad : Addr) (x : En) : Prop := w.cell? ad = some (.int .i64 x.th) ∧ w.cell? ⟨ad.block, ad.off + 1, none⟩ = some (.int .i64 x.ix) ∧ w.cell? ⟨ad.block, ad.off + 2, none⟩ = some (.int .i64 x.st) ∧ w.cell? ⟨ad.block, ad.off + 3, none⟩ = some (.bool x.wr) ∧ w.cell? ⟨ad.block, ad.off + 4, none⟩ = some (.int .i64 x.be) ∧
  w.cell? ⟨ad.block, ad.off + 5, none⟩ = some (.int .i64 x.en) ∧ w.cell? ⟨ad.block, ad.off + 6, none⟩ = some (.int .i64 x.kd) ∧ w.cell? ⟨ad.block, ad.off + 7, none⟩ = some (.slice x.ta x.tn x.tc) ∧ w.cell? ⟨ad.block, ad.off + 8, none⟩ = some (.int .i64 x.er)
theorem en_cells {w : World} {A : Option Addr} {n c k : Nat} {L : List En} {a : En} (h : Rd encE w (.slice A n c) L) (hk : L[k]? = some a) : ∃ ad : Addr, A = some ad ∧ ad.block < w.heap.size ∧ EnAt w (ad.add (k * 9)) a := by
  obtain ⟨ad, h1, h2, hc⟩ := h.at_ hk
  refine ⟨ad, h1, h2, hc 0 _ rfl, ?_, ?_, ?_, ?_, ?_, ?_, ?_, ?_⟩
  · have := hc 1 _ rfl; rwa [show k * encE.s + 1 = k * 9 + (0 + 1) from rfl, add_more] at this
  · have := hc 2 _ rfl; rwa [show k * encE.s + 2 = k * 9 + (1 + 1) from rfl, add_more] at this
  · have := hc 3 _ rfl; rwa [show k * encE.s + 3 = k * 9 + (2 + 1) from rfl, add_more] at this
  · have := hc 4 _ rfl; rwa [show k * encE.s + 4 = k * 9 + (3 + 1) from rfl, add_more] at this
  · have := hc 5 _ rfl; rwa [show k * encE.s + 5 = k * 9 + (4 + 1) from rfl, add_more] at this
  · have := hc 6 _ rfl; rwa [show k * encE.s + 6 = k * 9 + (5 + 1) from rfl, add_more] at this
  · have := hc 7 _ rfl; rwa [show k * encE.s + 7 = k * 9 + (6 + 1) from rfl, add_more] at this
  · have := hc 8 _ rfl; rwa [show k * encE.s + 8 = k * 9 + (7 + 1) from rfl, add_more] at this
def talC (t : Tal) : Array Value := #[.int .i64 t.dn, .int .i64 t.ab, .int .i64 t.bl, .int .i64 t.cp, .int .i64 t.fl, .int .i64 t.wo, .int .i64 t.tm, .int .i64 t.lg]
def enC (x : En) : Array Value := #[.int .i64 x.th, .int .i64 x.ix, .int .i64 x.st, .bool x.wr, .int .i64 x.be, .int .i64 x.en, .int .i64 x.kd, .slice x.ta x.tn x.tc, .int .i64 x.er]
theorem blk_set8 {w : World} {T : Nat} {t : TypeId} {a0 a1 a2 a3 a4 a5 a6 a7 : Value} (h : Blk w T t #[a0, a1, a2, a3, a4, a5, a6, a7]) (v0 v1 v2 v3 v4 v5 v6 v7 : Value) :
    Blk ((((((((w.setCell ⟨T, 0, none⟩ v0).setCell ⟨T, 1, none⟩ v1).setCell ⟨T, 2, none⟩ v2).setCell ⟨T, 3, none⟩ v3).setCell ⟨T, 4, none⟩ v4).setCell ⟨T, 5, none⟩ v5).setCell ⟨T, 6, none⟩ v6).setCell ⟨T, 7, none⟩ v7) T t #[v0, v1, v2, v3, v4, v5, v6, v7] := by
  have h8 := (((((((h.set_ 0 v0).set_ 1 v1).set_ 2 v2).set_ 3 v3).set_ 4 v4).set_ 5 v5).set_ 6 v6).set_ 7 v7
  simp only [List.setIfInBounds_toArray, List.set_cons_zero, List.set_cons_succ] at h8
  exact h8
theorem upd_set8 {w : World} {T : Nat} (v0 v1 v2 v3 v4 v5 v6 v7 : Value) :
    Upd [T] w ((((((((w.setCell ⟨T, 0, none⟩ v0).setCell ⟨T, 1, none⟩ v1).setCell ⟨T, 2, none⟩ v2).setCell ⟨T, 3, none⟩ v3).setCell ⟨T, 4, none⟩ v4).setCell ⟨T, 5, none⟩ v5).setCell ⟨T, 6, none⟩ v6).setCell ⟨T, 7, none⟩ v7) := by
  have m : T ∈ [T] := List.mem_singleton.2 rfl
  exact ((((((((Upd.refl [T] w).setCell (p := ⟨T, 0, none⟩) (.inl m) v0).setCell (p := ⟨T, 1, none⟩) (.inl m) v1).setCell (p := ⟨T, 2, none⟩) (.inl m) v2).setCell (p := ⟨T, 3, none⟩) (.inl m) v3).setCell (p := ⟨T, 4, none⟩) (.inl m) v4).setCell (p := ⟨T, 5, none⟩) (.inl m) v5).setCell (p := ⟨T, 6, none⟩) (.inl m) v6).setCell (p := ⟨T, 7, none⟩) (.inl m) v7

set_option maxRecDepth 100000 in
set_option maxHeartbeats 2000000 in
theorem join_ok (a b : Tal) (n m : Nat) (w : World) (ha : Sm a n) (hb : Sm b m) (hn : n ≤ 1000) (hm : m ≤ 1000) :
    Calls Tryd.prog 9 #[talV a, talV b] w fun e w' => e = .returned (talV (join a b)) ∧ Upd [] w w' := by
  unfold talV
  obtain ⟨dn, wo, ab, bl, cp, fl, tm, lg⟩ := a
  obtain ⟨dn', wo', ab', bl', cp', fl', tm', lg'⟩ := b
  obtain ⟨⟨h1, h1'⟩, ⟨h2, h2'⟩, ⟨h3, h3'⟩, ⟨h4, h4'⟩, ⟨h5, h5'⟩, ⟨h6, h6'⟩, ⟨h7, h7'⟩, ⟨h8, h8'⟩, -⟩ := ha
  obtain ⟨⟨g1, g1'⟩, ⟨g2, g2'⟩, ⟨g3, g3'⟩, ⟨g4, g4'⟩, ⟨g5, g5'⟩, ⟨g6, g6'⟩, ⟨g7, g7'⟩, ⟨g8, g8'⟩, -⟩ := hb
  simp only at h1 h1' h2 h2' h3 h3' h4 h4' h5 h5' h6 h6' h7 h7' h8 h8' g1 g1' g2 g2' g3 g3' g4 g4' g5 g5' g6 g6' g7 g7' g8 g8'
  have w1 : dn ≤ 1000 := by omega
  have w2 : wo ≤ 1000 := by omega
  have w3 : ab ≤ 1000 := by omega
  have w4 : bl ≤ 1000 := by omega
  have w5 : cp ≤ 1000 := by omega
  have w6 : fl ≤ 1000 := by omega
  have w7 : tm ≤ 2000000000 := by omega
  have w8 : -2000000000 ≤ tm := by omega
  have v1 : dn' ≤ 1000 := by omega
  have v2 : wo' ≤ 1000 := by omega
  have v3 : ab' ≤ 1000 := by omega
  have v4 : bl' ≤ 1000 := by omega
  have v5 : cp' ≤ 1000 := by omega
  have v6 : fl' ≤ 1000 := by omega
  have v7 : tm' ≤ 2000000000 := by omega
  have v8 : -2000000000 ≤ tm' := by omega
  clear h1' h2' h3' h4' h5' h6' h7 h7' hn g1' g2' g3' g4' g5' g6' g7 g7' hm
  go_enter Tryd.func9, Tryd.ntmps9
  go_wp2_with fail
  · refine bodyPost_ret (v := .agg #[.int .i64 (dn + dn'), .int .i64 (ab + ab'), .int .i64 (bl + bl'), .int .i64 (cp + cp'), .int .i64 (fl + fl'), .int .i64 (wo + wo'), .int .i64 (tm + tm'), .int .i64 lg']) (by simp [results, Tryd.results9, go_sem]) rfl ⟨?_, ?_⟩
    · have hm : max lg lg' = lg' := by omega
      simp [join, hm]
    · repeat (first | exact Upd.refl _ _ | refine Upd.setCell ?_ (.inr (by simp <;> omega)) _ | refine Upd.alloc ?_ _)
  · refine bodyPost_ret (v := .agg #[.int .i64 (dn + dn'), .int .i64 (ab + ab'), .int .i64 (bl + bl'), .int .i64 (cp + cp'), .int .i64 (fl + fl'), .int .i64 (wo + wo'), .int .i64 (tm + tm'), .int .i64 lg]) (by simp [results, Tryd.results9, go_sem]) rfl ⟨?_, ?_⟩
    · have hm : max lg lg' = lg := by omega
      simp [join, hm]
    · repeat (first | exact Upd.refl _ _ | refine Upd.setCell ?_ (.inr (by simp <;> omega)) _ | refine Upd.alloc ?_ _)

set_option maxRecDepth 100000 in
set_option maxHeartbeats 2000000 in
theorem of_ok (A : Option Addr) (n c : Nat) (L : List En) (w : World) (h : Rd encE w (.slice A n c) L) (hn : L.length = n) (hl : n ≤ 200) (he : ∀ x ∈ L, EB x) :
    Calls Tryd.prog 8 #[.slice A n c] w fun e w' => e = .returned (talV (ofL L)) ∧ Upd [] w w' := by
  have H := Lib.hid h
  have HN := Lib.hid hn
  have HE := Lib.hid he
  clear h hn he
  go_enter Tryd.func8, Tryd.ntmps8
  go_wp2_with fail
  have BR : Hid (Blk ((w.alloc (.cells #[.int .i64 0, .int .i64 0, .int .i64 0, .int .i64 0, .int .i64 0, .int .i64 0, .int .i64 0, .int .i64 0] 26)).alloc (.cells #[.int .i64 0, .int .i64 0, .int .i64 0, .int .i64 0, .int .i64 0, .int .i64 0, .int .i64 0, .int .i64 0] 26)) w.heap.size 26 (talC zero)) := Lib.hid ((Blk.new w _ _).alloc _)
  have BT : Hid (Blk ((w.alloc (.cells #[.int .i64 0, .int .i64 0, .int .i64 0, .int .i64 0, .int .i64 0, .int .i64 0, .int .i64 0, .int .i64 0] 26)).alloc (.cells #[.int .i64 0, .int .i64 0, .int .i64 0, .int .i64 0, .int .i64 0, .int .i64 0, .int .i64 0, .int .i64 0] 26)) (w.heap.size + 1) 26 (talC (ofL (L.take 0)))) := Lib.hid (Blk.newAt _ _ (by simp))
  have UR : Hid (Upd [] w ((w.alloc (.cells #[.int .i64 0, .int .i64 0, .int .i64 0, .int .i64 0, .int .i64 0, .int .i64 0, .int .i64 0, .int .i64 0] 26)).alloc (.cells #[.int .i64 0, .int .i64 0, .int .i64 0, .int .i64 0, .int .i64 0, .int .i64 0, .int .i64 0, .int .i64 0] 26))) := Lib.hid (((Upd.refl [] w).alloc _).alloc _)
  generalize ((w.alloc (.cells #[.int .i64 0, .int .i64 0, .int .i64 0, .int .i64 0, .int .i64 0, .int .i64 0, .int .i64 0, .int .i64 0] 26)).alloc (.cells #[.int .i64 0, .int .i64 0, .int .i64 0, .int .i64 0, .int .i64 0, .int .i64 0, .int .i64 0, .int .i64 0] 26)) = w1 at *
  obtain ⟨R, hR⟩ : ∃ R, w.heap.size = R := ⟨_, rfl⟩
  have HR : Hid (w.heap.size = R) := Lib.hid hR
  try rw [hR]
  rw [hR] at BR BT
  obtain ⟨T, hT⟩ : ∃ T, R + 1 = T := ⟨_, rfl⟩
  have HT : Hid (R + 1 = T) := Lib.hid hT
  try rw [hT]
  rw [hT] at BT
  clear hR hT
  go_loopw [8] (fun v wr => ∃ k : Nat, v = .int .i64 k ∧ k ≤ n ∧ Hid (Blk wr T 26 (talC (ofL (L.take k)))) ∧ Hid (Blk wr R 26 (talC zero)) ∧ Hid (Upd [] w wr)) (fun v _ => n - (intOf v).toNat)
  case atStart => exact ⟨0, rfl, by omega, BT, BR, UR⟩
  case round =>
    obtain ⟨k, rfl, hk, KT, KR, KU⟩ := hrel
    by_cases hkn : k < n
    · obtain ⟨x, hx⟩ : ∃ x, L[k]? = some x := ⟨_, List.getElem?_eq_getElem (by rw [HN.out]; exact hkn)⟩
      have EX := Lib.hid (HE.out _ (List.mem_of_getElem? hx))
      have SM : Hid (Sm (ofL (L.take k)) k) := Lib.hid (by
        have := sm_ofL (l := L.take k) (fun y hy => HE.out y (List.mem_of_mem_take hy))
        rwa [List.length_take, HN.out, Nat.min_eq_left hk] at this)
      have TK : Hid (ofL (L.take (k + 1)) = join (ofL (L.take k)) (one x)) := Lib.hid (by rw [take_snoc hx, ofL_snoc])
      obtain ⟨ad, rfl, hlt, e0, e1, e2, e3, e4, e5, e6, e7, e8⟩ := en_cells (H.out.upd0 KU.out) hx
      obtain ⟨th, ix, st, wr', be, en, kd, er, ta, tn, tc⟩ := x
      have q1 : (0 : Int) ≤ (k : Int) := by omega
      have q2 : (k : Int) < (n : Int) := by omega
      obtain ⟨τ, hτ⟩ : ∃ τ, ofL (L.take k) = τ := ⟨_, rfl⟩
      obtain ⟨τ', hτ'⟩ : ∃ τ', ofL (L.take (k + 1)) = τ' := ⟨_, rfl⟩
      rw [hτ] at SM TK KT
      rw [hτ'] at TK
      have HT' := Lib.hid hτ'
      have c0 : wr.cell? ⟨T, 0, none⟩ = some (.int .i64 τ.dn) := KT.out.cell 0
      have c1 : wr.cell? ⟨T, 1, none⟩ = some (.int .i64 τ.ab) := KT.out.cell 1
      have c2 : wr.cell? ⟨T, 2, none⟩ = some (.int .i64 τ.bl) := KT.out.cell 2
      have c3 : wr.cell? ⟨T, 3, none⟩ = some (.int .i64 τ.cp) := KT.out.cell 3
      have c4 : wr.cell? ⟨T, 4, none⟩ = some (.int .i64 τ.fl) := KT.out.cell 4
      have c5 : wr.cell? ⟨T, 5, none⟩ = some (.int .i64 τ.wo) := KT.out.cell 5
      have c6 : wr.cell? ⟨T, 6, none⟩ = some (.int .i64 τ.tm) := KT.out.cell 6
      have c7 : wr.cell? ⟨T, 7, none⟩ = some (.int .i64 τ.lg) := KT.out.cell 7
      have cl : T < wr.heap.size := KT.out.lt
      clear hx hτ hτ'
      go_wp2_with fail
      refine (add_ok τ ⟨th, ix, st, wr', be, en, kd, er, ta, tn, tc⟩ k _ SM.out (by omega) EX.out).mono ?_; rintro e w2 ⟨rfl, u2⟩
      rw [← TK.out]
      simp only [talV]
      have U2 : Hid (Upd [] wr w2) := Lib.hid (((Upd.refl [] wr).alloc _).trans u2)
      have KT2 := Lib.hid (KT.out.upd U2.out (by simp))
      have KR2 := Lib.hid (KR.out.upd U2.out (by simp))
      have d0 := KT2.out.frozen
      have dl : T < w2.heap.size := KT2.out.lt
      have dc : ∀ i, i < 8 → ∃ v, w2.cell? ⟨T, i, none⟩ = some v := fun i hi => ⟨_, (KT2.out.cell i).trans (Array.getElem?_eq_getElem (by simpa [talC] using hi))⟩
      obtain ⟨_, z0⟩ := dc 0 (by omega)
      obtain ⟨_, z1⟩ := dc 1 (by omega)
      obtain ⟨_, z2⟩ := dc 2 (by omega)
      obtain ⟨_, z3⟩ := dc 3 (by omega)
      obtain ⟨_, z4⟩ := dc 4 (by omega)
      obtain ⟨_, z5⟩ := dc 5 (by omega)
      obtain ⟨_, z6⟩ := dc 6 (by omega)
      obtain ⟨_, z7⟩ := dc 7 (by omega)
      clear u2 c0 c1 c2 c3 c4 c5 c6 c7 cl e0 e1 e2 e3 e4 e5 e6 e7 e8 dc
      go_wp2_with fail
      go_roundw
      case rel =>
        refine ⟨k + 1, by go_num, by omega, Lib.hid ?_, Lib.hid (KR2.out.upd (upd_set8 _ _ _ _ _ _ _ _) (by simp; rw [← HT.out]; omega)), Lib.hid ?_⟩
        · rw [HT'.out]
          exact blk_set8 KT2.out _ _ _ _ _ _ _ _
        · exact (KU.out.trans U2.out).trans' (upd_set8 _ _ _ _ _ _ _ _) (by simp; rw [← HT.out, HR.out]; omega)
      case measure => simp [intOf]; omega
    · obtain rfl : n = k := by omega
      have FT : Hid (L.take n = L) := Lib.hid (List.take_of_length_le (by rw [HN.out]; exact Nat.le_refl _))
      rw [FT.out] at KT
      obtain ⟨τ, hτ⟩ : ∃ τ, ofL L = τ := ⟨_, rfl⟩
      rw [hτ] at KT
      have HTA := Lib.hid hτ
      have c0 : wr.cell? ⟨T, 0, none⟩ = some (.int .i64 τ.dn) := KT.out.cell 0
      have c1 : wr.cell? ⟨T, 1, none⟩ = some (.int .i64 τ.ab) := KT.out.cell 1
      have c2 : wr.cell? ⟨T, 2, none⟩ = some (.int .i64 τ.bl) := KT.out.cell 2
      have c3 : wr.cell? ⟨T, 3, none⟩ = some (.int .i64 τ.cp) := KT.out.cell 3
      have c4 : wr.cell? ⟨T, 4, none⟩ = some (.int .i64 τ.fl) := KT.out.cell 4
      have c5 : wr.cell? ⟨T, 5, none⟩ = some (.int .i64 τ.wo) := KT.out.cell 5
      have c6 : wr.cell? ⟨T, 6, none⟩ = some (.int .i64 τ.tm) := KT.out.cell 6
      have c7 : wr.cell? ⟨T, 7, none⟩ = some (.int .i64 τ.lg) := KT.out.cell 7
      have d0 := KR.out.frozen
      have dl : R < wr.heap.size := KR.out.lt
      have z0 : wr.cell? ⟨R, 0, none⟩ = some (.int .i64 0) := KR.out.cell 0
      have z1 : wr.cell? ⟨R, 1, none⟩ = some (.int .i64 0) := KR.out.cell 1
      have z2 : wr.cell? ⟨R, 2, none⟩ = some (.int .i64 0) := KR.out.cell 2
      have z3 : wr.cell? ⟨R, 3, none⟩ = some (.int .i64 0) := KR.out.cell 3
      have z4 : wr.cell? ⟨R, 4, none⟩ = some (.int .i64 0) := KR.out.cell 4
      have z5 : wr.cell? ⟨R, 5, none⟩ = some (.int .i64 0) := KR.out.cell 5
      have z6 : wr.cell? ⟨R, 6, none⟩ = some (.int .i64 0) := KR.out.cell 6
      have z7 : wr.cell? ⟨R, 7, none⟩ = some (.int .i64 0) := KR.out.cell 7
      clear hτ
      go_wp2_with fail
      have KX := blk_set8 KR.out (.int .i64 τ.dn) (.int .i64 τ.ab) (.int .i64 τ.bl) (.int .i64 τ.cp) (.int .i64 τ.fl) (.int .i64 τ.wo) (.int .i64 τ.tm) (.int .i64 τ.lg)
      have UX := upd_set8 (w := wr) (T := R) (.int .i64 τ.dn) (.int .i64 τ.ab) (.int .i64 τ.bl) (.int .i64 τ.cp) (.int .i64 τ.fl) (.int .i64 τ.wo) (.int .i64 τ.tm) (.int .i64 τ.lg)
      clear c0 c1 c2 c3 c4 c5 c6 c7 z0 z1 z2 z3 z4 z5 z6 z7 d0 dl
      generalize ((((((((wr.setCell ⟨R, 0, none⟩ _).setCell ⟨R, 1, none⟩ _).setCell ⟨R, 2, none⟩ _).setCell ⟨R, 3, none⟩ _).setCell ⟨R, 4, none⟩ _).setCell ⟨R, 5, none⟩ _).setCell ⟨R, 6, none⟩ _).setCell ⟨R, 7, none⟩ _) = w9 at KX UX ⊢
      have y0 : w9.cell? ⟨R, 0, none⟩ = some (.int .i64 τ.dn) := KX.cell 0
      have y1 : w9.cell? ⟨R, 1, none⟩ = some (.int .i64 τ.ab) := KX.cell 1
      have y2 : w9.cell? ⟨R, 2, none⟩ = some (.int .i64 τ.bl) := KX.cell 2
      have y3 : w9.cell? ⟨R, 3, none⟩ = some (.int .i64 τ.cp) := KX.cell 3
      have y4 : w9.cell? ⟨R, 4, none⟩ = some (.int .i64 τ.fl) := KX.cell 4
      have y5 : w9.cell? ⟨R, 5, none⟩ = some (.int .i64 τ.wo) := KX.cell 5
      have y6 : w9.cell? ⟨R, 6, none⟩ = some (.int .i64 τ.tm) := KX.cell 6
      have y7 : w9.cell? ⟨R, 7, none⟩ = some (.int .i64 τ.lg) := KX.cell 7
      refine bodyPost_ret (v := talV τ) (by simp [results, Tryd.results8, go_sem, y0, y1, y2, y3, y4, y5, y6, y7, talV]) rfl ⟨by rw [HTA.out], ?_⟩
      exact KU.out.trans' UX (by simp; rw [HR.out]; omega)
end Go.Proofs.YtiahnlaplkeiaaaDoor

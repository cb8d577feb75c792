/-
  concordlaw01.play: an arena of 8 words behind some accesses.
-/
import Derived.Test.YtopgaemibfigbaaDoorWords3
import Derived.Test.YtopgaemibfigbaaDoorPost
namespace Go.Proofs.YtopgaemibfigbaaDoor
open Go.RowKit Go.ChangeShapes Go.WideShapes

theorem Upd.cell {S : List Nat} {w w' : World} (h : Upd S w w') {p : Addr} (hp : p.block < w.heap.size) (hs : p.block ∉ S) : w'.cell? p = w.cell? p := World.cell?_of_block (h.keep _ hp hs)
theorem add_block (a : Addr) (i : Nat) : (a.add i).block = a.block := by unfold Addr.add; split <;> rfl
theorem add_more (a : Addr) (i j : Nat) : a.add (i + (j + 1)) = ⟨(a.add i).block, (a.add i).off + (j + 1), none⟩ := by
  unfold Addr.add
  by_cases h : i = 0 <;> simp [h, Nat.add_assoc]

/-- What a list of accesses reads as. -/
def Acts (w : World) (A : Option Addr) (n : Nat) : Prop := ∀ i, i < n → ∃ (a : Addr) (k at_ o x : Int), A = some a ∧ w.cell? (a.add (i * 4)) = some (.int .i64 k) ∧ w.cell? ⟨(a.add (i * 4)).block, (a.add (i * 4)).off + 1, none⟩ = some (.int .i64 at_) ∧
  w.cell? ⟨(a.add (i * 4)).block, (a.add (i * 4)).off + 2, none⟩ = some (.int .u64 o) ∧ w.cell? ⟨(a.add (i * 4)).block, (a.add (i * 4)).off + 3, none⟩ = some (.int .u64 x) ∧ (a.add (i * 4)).block < w.heap.size
theorem Acts.upd {S : List Nat} {w w' : World} {A : Option Addr} {n : Nat} (h : Acts w A n) (hu : Upd S w w') (hS : ∀ x ∈ S, w.heap.size ≤ x) : Acts w' A n := by
  intro i hi
  obtain ⟨a, k, at_, o, x, rfl, f0, f1, f2, f3, hb⟩ := h i hi
  have hn : (a.add (i * 4)).block ∉ S := fun hm => by have := hS _ hm; omega
  exact ⟨a, k, at_, o, x, rfl, (hu.cell hb hn).trans f0, (hu.cell (p := ⟨_, _, none⟩) hb hn).trans f1, (hu.cell (p := ⟨_, _, none⟩) hb hn).trans f2, (hu.cell (p := ⟨_, _, none⟩) hb hn).trans f3, Nat.lt_of_lt_of_le hb hu.size⟩

/-- What play hands back. -/
def Played (w w' : World) (v : Value) : Prop := v = .pointer none ∨ ∃ a b ws cnt, v = .pointer (some ⟨a, 0, none⟩) ∧ Arena w' a b ws cnt ∧ ws.length = 8 ∧ 0 ≤ cnt ∧ cnt ≤ 60 ∧ w.heap.size ≤ a ∧ w.heap.size ≤ b

set_option maxHeartbeats 400000 in
theorem play_long (A : Option Addr) (n c : Nat) (w : World) (hn : 60 < n) (hm : n ≤ 9223372036854775807) : Calls Tryd.prog 4 #[.slice A n c] w fun e w' => ∃ v, e = .returned v ∧ Played w w' v ∧ Upd [] w w' := by
  go_enter Tryd.func4, Tryd.ntmps4
  go_wp2_with fail
  refine (new_ok 8 _ (by omega) (by omega)).mono ?_; rintro e w1 ⟨a, b, rfl, hA, ha, hb, u1⟩
  go_wp2_with fail
  refine (no_nil _).mono ?_; rintro e w' ⟨rfl, rfl⟩
  go_wp2_with fail
  go_ret
  exact ⟨_, rfl, .inl rfl, u1⟩

/-- An access, whatever came of it. -/
def Went (w w' : World) (a b : Nat) (ws : List Int) (cnt : Int) : Prop := ∃ ws' cnt', Arena w' a b ws' cnt' ∧ ws'.length = ws.length ∧ cnt ≤ cnt' ∧ cnt' ≤ cnt + 1 ∧ Upd [a, b] w w'
theorem went_out {w w' : World} {a b : Nat} {ws : List Int} {cnt : Int} (h : Arena w a b ws cnt) (hu : Upd [] w w') : Went w w' a b ws cnt :=
  ⟨ws, cnt, h.upd hu (by simp) (by simp), rfl, by omega, by omega, hu.mono (by simp)⟩

theorem load_any (a b : Nat) (ws : List Int) (cnt i : Int) (w : World) (h : Arena w a b ws cnt) (hc : 0 ≤ cnt ∧ cnt ≤ 1000000) :
    Calls Tryd.prog 13 #[.pointer (some ⟨a, 0, none⟩), .int .i64 i] w fun e w' => ∃ v, e = .returned v ∧ Went w w' a b ws cnt := by
  by_cases hin : 0 ≤ i ∧ i < ws.length
  · obtain ⟨y, hy⟩ : ∃ y, ws[i.toNat]? = some y := ⟨_, List.getElem?_eq_getElem (by omega)⟩
    refine (load_ok a b ws cnt i  _ w h hc hin.1 hy).mono ?_
    rintro e w' ⟨rfl, hA, hu⟩
    exact ⟨_, rfl, _, _, hA, rfl, by omega, by omega, hu.mono (by simp)⟩
  · refine (load_out a b ws cnt i  w h (by omega)).mono ?_
    rintro e w' ⟨v, rfl, _, hu⟩
    exact ⟨_, rfl, went_out h hu⟩

theorem store_any (a b : Nat) (ws : List Int) (cnt i : Int) (x : Int) (w : World) (h : Arena w a b ws cnt) (hc : 0 ≤ cnt ∧ cnt ≤ 1000000) :
    Calls Tryd.prog 14 #[.pointer (some ⟨a, 0, none⟩), .int .i64 i, .int .u64 x] w fun e w' => ∃ v, e = .returned v ∧ Went w w' a b ws cnt := by
  by_cases hin : 0 ≤ i ∧ i < ws.length
  · obtain ⟨y, hy⟩ : ∃ y, ws[i.toNat]? = some y := ⟨_, List.getElem?_eq_getElem (by omega)⟩
    refine (store_ok a b ws cnt i x _ w h hc hin.1 hy).mono ?_
    rintro e w' ⟨rfl, hA, hu⟩
    exact ⟨_, rfl, _, _, hA, (by simp), by omega, by omega, hu⟩
  · refine (store_out a b ws cnt i x w h (by omega)).mono ?_
    rintro e w' ⟨v, rfl, _, hu⟩
    exact ⟨_, rfl, went_out h hu⟩

theorem cas_any (a b : Nat) (ws : List Int) (cnt i : Int) (old x : Int) (w : World) (h : Arena w a b ws cnt) (hc : 0 ≤ cnt ∧ cnt ≤ 1000000) :
    Calls Tryd.prog 15 #[.pointer (some ⟨a, 0, none⟩), .int .i64 i, .int .u64 old, .int .u64 x] w fun e w' => ∃ v, e = .returned v ∧ Went w w' a b ws cnt := by
  by_cases hin : 0 ≤ i ∧ i < ws.length
  · obtain ⟨y, hy⟩ : ∃ y, ws[i.toNat]? = some y := ⟨_, List.getElem?_eq_getElem (by omega)⟩
    refine (cas_ok a b ws cnt i old x _ w h hc hin.1 hy).mono ?_
    rintro e w' ⟨rfl, hA, hu⟩
    exact ⟨_, rfl, _, _, hA, (by split <;> simp), by omega, by omega, hu⟩
  · refine (cas_out a b ws cnt i old x w h (by omega)).mono ?_
    rintro e w' ⟨v, rfl, _, hu⟩
    exact ⟨_, rfl, went_out h hu⟩

set_option maxHeartbeats 1000000 in
theorem play_ok (A : Option Addr) (n c : Nat) (w : World) (hl : Acts w A n) (hn : n ≤ 60) : Calls Tryd.prog 4 #[.slice A n c] w fun e w' => ∃ v, e = .returned v ∧ Played w w' v ∧ Upd [] w w' := by
  have HL := Lib.hid hl
  clear hl
  go_enter Tryd.func4, Tryd.ntmps4
  go_wp2_with fail
  refine (new_ok 8 _ (by omega) (by omega)).mono ?_; rintro e w1 ⟨a, b, rfl, hA, ha, hb, u1⟩
  go_wp2_with fail
  refine (no_nil _).mono ?_; rintro e w' ⟨rfl, rfl⟩
  go_wp2_with fail
  have HA := Lib.hid hA
  clear hA
  go_loopw [21] (fun v wr => ∃ (k : Nat) (ws : List Int) (cnt : Int), k ≤ n ∧ v = .int .i64 k ∧ Arena wr a b ws cnt ∧ ws.length = 8 ∧ 0 ≤ cnt ∧ cnt ≤ k ∧ Upd [] w wr) (fun v _ => n - (intOf v).toNat)
  case atStart => exact ⟨0, _, 0, by omega, rfl, HA.out, by simp, by omega, by omega, u1⟩
  case round =>
    obtain ⟨k, ws, cnt, hk, rfl, hAr, hws, hc0, hck, ur⟩ := hrel
    have HW := Lib.hid hws
    clear hws
    have HAr := Lib.hid hAr
    clear hAr
    by_cases hlt : k < n
    · obtain ⟨ad, kd, at_, o, x, rfl, f0, f1, f2, f3, hbl⟩ := (HL.out.upd ur (by simp)) k hlt
      have hcase : kd = 1 ∨ kd = 2 ∨ kd = 3 ∨ ((kd == 1) = false ∧ (kd == 2) = false ∧ (kd == 3) = false) := by simp; omega
      rcases hcase with hk1 | hk2 | hk3 | ⟨hk4, hk5, hk6⟩
      · subst hk1
        go_wp2_with fail
        refine (load_any a b ws cnt at_ _ (HAr.out.upd ((Upd.refl [] _).alloc _) (by simp) (by simp)) (by omega)).mono ?_; rintro e w2 ⟨v2, rfl, ws2, cnt2, hA2, hl2, hc2, hc2', u2⟩
        have HW2 := Lib.hid (hl2.trans HW.out)
        clear hl2
        go_wp2_with fail
        go_roundw
        case rel => exact ⟨k + 1, _, _, by omega, by go_num, hA2, HW2.out, by omega, by omega, (ur.trans ((Upd.refl [] _).alloc _)).trans' u2 (by simp; omega)⟩
        case measure => simp [intOf]; omega
      · subst hk2
        go_wp2_with fail
        refine (store_any a b ws cnt at_ x _ (HAr.out.upd ((Upd.refl [] _).alloc _) (by simp) (by simp)) (by omega)).mono ?_; rintro e w2 ⟨v2, rfl, ws2, cnt2, hA2, hl2, hc2, hc2', u2⟩
        have HW2 := Lib.hid (hl2.trans HW.out)
        clear hl2
        go_wp2_with fail
        go_roundw
        case rel => exact ⟨k + 1, _, _, by omega, by go_num, hA2, HW2.out, by omega, by omega, (ur.trans ((Upd.refl [] _).alloc _)).trans' u2 (by simp; omega)⟩
        case measure => simp [intOf]; omega
      · subst hk3
        go_wp2_with fail
        refine (cas_any a b ws cnt at_ o x _ (HAr.out.upd ((Upd.refl [] _).alloc _) (by simp) (by simp)) (by omega)).mono ?_; rintro e w2 ⟨v2, rfl, ws2, cnt2, hA2, hl2, hc2, hc2', u2⟩
        have HW2 := Lib.hid (hl2.trans HW.out)
        clear hl2
        go_wp2_with fail
        go_roundw
        case rel => exact ⟨k + 1, _, _, by omega, by go_num, hA2, HW2.out, by omega, by omega, (ur.trans ((Upd.refl [] _).alloc _)).trans' u2 (by simp; omega)⟩
        case measure => simp [intOf]; omega
      · go_wp2_with fail
        go_roundw
        case rel => exact ⟨k + 1, _, _, by omega, by go_num, HAr.out.upd ((Upd.refl [] _).alloc _) (by simp) (by simp), HW.out, by omega, by omega, ur.trans ((Upd.refl [] _).alloc _)⟩
        case measure => simp [intOf]; omega
    · go_wp2_with fail
      go_ret
      exact ⟨_, rfl, .inr ⟨a, b, ws, cnt, rfl, HAr.out, HW.out, by omega, by omega, ha, hb⟩, ur⟩
set_option maxRecDepth 100000 in
/-- An argument that is a list of accesses. -/
theorem acts_of {H : Type} {enc : TypeId × Value → H} {W : World} {base b0 : Nat} {spare : Nat → Bool} {held : Bool} {v : Value} {d : DataW H} {ps : List MemPlace} {r : Reach}
    (hok : Value.okWide Tryd.prog W r b0 22 v) (h : DataW.Trod enc Tryd.prog W base spare held 22 v d ps) :
    ∃ A n c, v = .slice A n c ∧ n ≤ 9223372036854775807 ∧ Acts W A n := by
  obtain ⟨A, n, c, rfl, h1, h2, h3⟩ := rows_of_slice Tryd.underlying22 Tryd.underlying37 (by kernel_rfl) (by kernel_rfl) hok h
  refine ⟨A, n, c, rfl, by simp only [maxLen] at h2; omega, fun i hi => ?_⟩
  obtain ⟨a, rfl, vs, hl, hc, hf⟩ := h3 i hi
  obtain ⟨u0, y0, k0, e0, t0⟩ := hf 0 _ rfl
  obtain ⟨u1, y1, k1, e1, t1⟩ := hf 1 _ rfl
  obtain ⟨u2, y2, k2, e2, t2⟩ := hf 2 _ rfl
  obtain ⟨u3, y3, k3, e3, t3⟩ := hf 3 _ rfl
  obtain ⟨x0, g0, _, _⟩ := DataW.trod_int Tryd.underlying3 t0
  obtain ⟨x1, g1, _, _⟩ := DataW.trod_int Tryd.underlying3 t1
  obtain ⟨x2, g2, _, _⟩ := DataW.trod_int Tryd.underlying35 t2
  obtain ⟨x3, g3, _, _⟩ := DataW.trod_int Tryd.underlying35 t3
  simp only [List.cons.injEq, and_true] at g0 g1 g2 g3
  subst g0 g1 g2 g3
  have c0 := hc 0 _ e0
  have c1 := hc 1 _ e1
  have c2 := hc 2 _ e2
  have c3 := hc 3 _ e3
  simp only [List.size_toArray, List.length_cons, List.length_nil, Nat.zero_add, Nat.reduceAdd, Nat.add_zero] at c0 c1 c2 c3
  rw [add_more a (i * 4) 0] at c1
  rw [add_more a (i * 4) 1] at c2
  rw [add_more a (i * 4) 2] at c3
  exact ⟨a, x0, x1, x2, x3, rfl, c0, c1, c2, c3, World.block_lt_of_cell? _ _ c0⟩

theorem play_any (A : Option Addr) (n c : Nat) (w : World) (hl : Acts w A n) (hm : n ≤ 9223372036854775807) : Calls Tryd.prog 4 #[.slice A n c] w fun e w' => ∃ v, e = .returned v ∧ Played w w' v ∧ Upd [] w w' := by
  by_cases h : n ≤ 60
  · exact play_ok A n c w hl h
  · exact play_long A n c w (by omega) hm
end Go.Proofs.YtopgaemibfigbaaDoor

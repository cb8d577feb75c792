/-
  Package words by contracts: Load, Store, CAS, Words, and an arena that is none.
-/
import Derived.Test.YtopgaemibfigbaaDoorWords
namespace Go.Proofs.YtopgaemibfigbaaDoor
open Go.RowKit

theorem Arena.facts {w : World} {a b : Nat} {ws : List Int} {cnt : Int} (h : Arena w a b ws cnt) : ∃ c, w.cell? ⟨a, 0, none⟩ = some (.slice (some ⟨b, 0, none⟩) ws.length c) := by
  obtain ⟨c, k, at_, o, nw, d, h1⟩ := h.hdr
  exact ⟨c, by rw [h1.cell]; rfl⟩
theorem Arena.cellAt {w : World} {a b : Nat} {ws : List Int} {cnt : Int} (h : Arena w a b ws cnt) (j : Nat) (x : Int) (hx : ws[j]? = some x) : w.cell? ⟨b, j, none⟩ = some (.int .u64 x) :=
  h.row.cell j _ (by simp [hx])
theorem Arena.noted {w w' : World} {a b : Nat} {ws : List Int} {cnt : Int} (h : Arena w a b ws cnt) {c : Nat} (hn : Noted w w' a (.slice (some ⟨b, 0, none⟩) ws.length c) cnt) : Arena w' a b ws (cnt + 1) := by
  obtain ⟨⟨k, at_, o, nw, d, h1⟩, hu⟩ := hn
  exact ⟨⟨c, k, at_, o, nw, d, h1⟩, h.row.upd hu (by simpa using h.ne.symm)⟩

set_option maxHeartbeats 400000 in
theorem load_ok (a b : Nat) (ws : List Int) (cnt i x : Int) (w : World) (h : Arena w a b ws cnt) (hc : 0 ≤ cnt ∧ cnt ≤ 1000000) (h0 : 0 ≤ i) (hx : ws[i.toNat]? = some x) :
    Calls Tryd.prog 13 #[.pointer (some ⟨a, 0, none⟩), .int .i64 i] w fun e w' => e = .returned (.tuple #[.int .u64 x, .nilIface]) ∧ Arena w' a b ws (cnt + 1) ∧ Upd [a] w w' := by
  have hlen : i < ws.length := by have := (List.getElem?_eq_some_iff.1 hx).1; omega
  have hH := Lib.hid h
  obtain ⟨c, k, at_, o, nw, d, hb⟩ := h.hdr
  have f0 : w.cell? ⟨a, 0, none⟩ = some (.slice (some ⟨b, 0, none⟩) ws.length c) := by rw [hb.cell]; rfl
  have fx := h.cellAt _ _ hx
  have HX := Lib.hid hx
  clear h hx
  go_enter Tryd.func13, Tryd.ntmps13
  go_wp2_with (first
    | ((go_at_call 20); (refine (word_ok a b ws.length c i _ f0 h0 hlen).mono ?_); (rintro e w' ⟨rfl, rfl⟩))
    | ((go_at_call 21); (refine (note_any a _ cnt _ _ _ _ _ _ _ _ _ _ _ (by omega) hc hb).mono ?_); (rintro e w1 ⟨rfl, hn⟩); (have fx1 := (hH.out.noted hn).cellAt _ _ HX.out)))
  go_ret2
  exact ⟨rfl, hH.out.noted hn, hn.2⟩

theorem Heads.frozen {w : World} {b : Nat} {e : TypeId} {xs : List Value} (h : Heads w b e xs) (j : Nat) : w.frozen? ⟨b, j, none⟩ = false := by
  obtain ⟨cs, h1, _⟩ := h
  exact h1.frozen j

set_option maxHeartbeats 400000 in
theorem load_nil (i : Int) (w : World) : Calls Tryd.prog 13 #[.pointer none, .int .i64 i] w fun e w' => e = .returned (.tuple #[.int .u64 0, .iface 57 (.int .i64 1)]) ∧ w = w' := by
  go_enter Tryd.func13, Tryd.ntmps13
  go_wp2_with ((go_at_call 20); (refine (word_nil i _).mono ?_); (rintro e w' ⟨rfl, rfl⟩))
  go_ret2
  exact ⟨rfl, rfl⟩

set_option maxHeartbeats 400000 in
theorem load_out (a b : Nat) (ws : List Int) (cnt i : Int) (w : World) (h : Arena w a b ws cnt) (h0 : i < 0 ∨ ws.length ≤ i) :
    Calls Tryd.prog 13 #[.pointer (some ⟨a, 0, none⟩), .int .i64 i] w fun e w' => ∃ v, e = .returned (.tuple #[.int .u64 0, v]) ∧ IsFault w w' v i 3 ∧ Upd [] w w' := by
  obtain ⟨c, f0⟩ := h.facts
  go_enter Tryd.func13, Tryd.ntmps13
  go_wp2_with ((go_at_call 20); (refine (word_out a b ws.length c i _ f0 h0).mono ?_); (rintro e w1 ⟨v, rfl, ⟨g, rfl, hg, hb⟩, hu⟩))
  go_ret2
  exact ⟨_, rfl, ⟨g, rfl, hg, hb⟩, hu⟩

set_option maxHeartbeats 400000 in
theorem store_nil (i : Int) (x : Int) (w : World) : Calls Tryd.prog 14 #[.pointer none, .int .i64 i, .int .u64 x] w fun e w' => e = .returned (.iface 57 (.int .i64 1)) ∧ w = w' := by
  go_enter Tryd.func14, Tryd.ntmps14
  go_wp2_with ((go_at_call 20); (refine (word_nil i _).mono ?_); (rintro e w' ⟨rfl, rfl⟩))
  go_ret
  exact ⟨rfl, rfl⟩

set_option maxHeartbeats 400000 in
theorem store_out (a b : Nat) (ws : List Int) (cnt i : Int) (x : Int) (w : World) (h : Arena w a b ws cnt) (h0 : i < 0 ∨ ws.length ≤ i) :
    Calls Tryd.prog 14 #[.pointer (some ⟨a, 0, none⟩), .int .i64 i, .int .u64 x] w fun e w' => ∃ v, e = .returned (v) ∧ IsFault w w' v i 3 ∧ Upd [] w w' := by
  obtain ⟨c, f0⟩ := h.facts
  go_enter Tryd.func14, Tryd.ntmps14
  go_wp2_with ((go_at_call 20); (refine (word_out a b ws.length c i _ f0 h0).mono ?_); (rintro e w1 ⟨v, rfl, ⟨g, rfl, hg, hb⟩, hu⟩))
  go_ret
  exact ⟨_, rfl, ⟨g, rfl, hg, hb⟩, hu⟩

set_option maxHeartbeats 400000 in
theorem cas_nil (i : Int) (old x : Int) (w : World) : Calls Tryd.prog 15 #[.pointer none, .int .i64 i, .int .u64 old, .int .u64 x] w fun e w' => e = .returned (.tuple #[.bool false, .iface 57 (.int .i64 1)]) ∧ w = w' := by
  go_enter Tryd.func15, Tryd.ntmps15
  go_wp2_with ((go_at_call 20); (refine (word_nil i _).mono ?_); (rintro e w' ⟨rfl, rfl⟩))
  go_ret2
  exact ⟨rfl, rfl⟩

set_option maxHeartbeats 400000 in
theorem cas_out (a b : Nat) (ws : List Int) (cnt i : Int) (old x : Int) (w : World) (h : Arena w a b ws cnt) (h0 : i < 0 ∨ ws.length ≤ i) :
    Calls Tryd.prog 15 #[.pointer (some ⟨a, 0, none⟩), .int .i64 i, .int .u64 old, .int .u64 x] w fun e w' => ∃ v, e = .returned (.tuple #[.bool false, v]) ∧ IsFault w w' v i 3 ∧ Upd [] w w' := by
  obtain ⟨c, f0⟩ := h.facts
  go_enter Tryd.func15, Tryd.ntmps15
  go_wp2_with ((go_at_call 20); (refine (word_out a b ws.length c i _ f0 h0).mono ?_); (rintro e w1 ⟨v, rfl, ⟨g, rfl, hg, hb⟩, hu⟩))
  go_ret2
  exact ⟨_, rfl, ⟨g, rfl, hg, hb⟩, hu⟩

theorem Arena.noted' {w1 w' : World} {a b : Nat} {ws ws' : List Int} {cnt : Int} (h : Heads w1 b 35 (ws'.map (.int .u64))) {c : Nat} (hl : ws'.length = ws.length) (hne : a ≠ b) (hn : Noted w1 w' a (.slice (some ⟨b, 0, none⟩) ws.length c) cnt) : Arena w' a b ws' (cnt + 1) := by
  obtain ⟨⟨k, at_, o, nw, d, h1⟩, hu⟩ := hn
  exact ⟨⟨c, k, at_, o, nw, d, by rw [hl]; exact h1⟩, h.upd hu (by simpa using hne.symm)⟩
theorem Arena.stored {w : World} {a b : Nat} {ws : List Int} {cnt : Int} (h : Arena w a b ws cnt) (i : Nat) (x : Int) (hi : i < ws.length) : Arena (w.setCell ⟨b, i, none⟩ (.int .u64 x)) a b (ws.set i x) cnt := by
  obtain ⟨c, k, at_, o, nw, d, h1⟩ := h.hdr
  exact ⟨⟨c, k, at_, o, nw, d, by rw [List.length_set]; exact h1.far h.ne _⟩, by rw [List.map_set]; exact h.row.set i _ (by simpa using hi)⟩

set_option maxHeartbeats 400000 in
theorem store_ok (a b : Nat) (ws : List Int) (cnt i x y : Int) (w : World) (h : Arena w a b ws cnt) (hc : 0 ≤ cnt ∧ cnt ≤ 1000000) (h0 : 0 ≤ i) (hx : ws[i.toNat]? = some y) :
    Calls Tryd.prog 14 #[.pointer (some ⟨a, 0, none⟩), .int .i64 i, .int .u64 x] w fun e w' => e = .returned .nilIface ∧ Arena w' a b (ws.set i.toNat x) (cnt + 1) ∧ Upd [a, b] w w' := by
  have hlen : i < ws.length := by have := (List.getElem?_eq_some_iff.1 hx).1; omega
  have hH := Lib.hid h
  obtain ⟨c, k, at_, o, nw, d, hb⟩ := h.hdr
  have f0 : w.cell? ⟨a, 0, none⟩ = some (.slice (some ⟨b, 0, none⟩) ws.length c) := by rw [hb.cell]; rfl
  have fx := h.cellAt _ _ hx
  have HX := Lib.hid hx
  clear h hx
  go_enter Tryd.func14, Tryd.ntmps14
  go_wp2_with (first
    | ((go_at_call 20); (refine (word_ok a b ws.length c i _ f0 h0 hlen).mono ?_); (rintro e w' ⟨rfl, rfl⟩))
    | ((go_at_call 21); (refine (note_any a _ cnt _ _ _ _ _ _ _ _ _ _ _ (by omega) hc hb).mono ?_); (rintro e w1 ⟨rfl, hn⟩); (have hA := hH.out.noted hn); (have fb := hA.row.frozen); (have fx1 := hA.cellAt _ _ HX.out)))
  go_ret
  exact ⟨rfl, hA.stored _ _ (by omega), (hn.2.mono (by simp)).setCell (by simp) _⟩

set_option maxHeartbeats 800000 in
theorem cas_ok (a b : Nat) (ws : List Int) (cnt i old x y : Int) (w : World) (h : Arena w a b ws cnt) (hc : 0 ≤ cnt ∧ cnt ≤ 1000000) (h0 : 0 ≤ i) (hx : ws[i.toNat]? = some y) :
    Calls Tryd.prog 15 #[.pointer (some ⟨a, 0, none⟩), .int .i64 i, .int .u64 old, .int .u64 x] w fun e w' => e = .returned (.tuple #[.bool (y == old), .nilIface]) ∧ Arena w' a b (if y = old then ws.set i.toNat x else ws) (cnt + 1) ∧ Upd [a, b] w w' := by
  have hlen : i < ws.length := by have := (List.getElem?_eq_some_iff.1 hx).1; omega
  have hH := Lib.hid h
  have hne := h.ne
  obtain ⟨c, k, at_, o, nw, d, hb⟩ := h.hdr
  have f0 : w.cell? ⟨a, 0, none⟩ = some (.slice (some ⟨b, 0, none⟩) ws.length c) := by rw [hb.cell]; rfl
  have fx := h.cellAt _ _ hx
  have fb := h.row.frozen
  by_cases hyo : y = old
  · subst hyo
    have hyy : (y == y) = true := by simp
    have hS := (h.stored i.toNat x (by omega)).row
    have HX := Lib.hid (show (ws.set i.toNat x)[i.toNat]? = some x by rw [List.getElem?_set]; simp; omega)
    have fx' := (h.stored i.toNat x (by omega)).cellAt _ _ HX.out
    have hb' := hb.far (p := ⟨b, i.toNat, none⟩) hne (.int .u64 x)
    have HS := Lib.hid hS
    clear h hx hS
    go_enter Tryd.func15, Tryd.ntmps15
    go_wp2_with (first
      | ((go_at_call 20); (refine (word_ok a b ws.length c i _ f0 h0 hlen).mono ?_); (rintro e w' ⟨rfl, rfl⟩))
      | ((go_at_call 21); (refine (note_any a _ cnt _ _ _ _ _ _ _ _ _ _ _ (by omega) hc hb').mono ?_); (rintro e w1 ⟨rfl, hn⟩)))
    go_ret2
    exact ⟨rfl, Arena.noted' HS.out (by simp) hne hn, ((Upd.refl _ _).setCell (by simp) _).trans (hn.2.mono (by simp))⟩
  · have hyy : (y == old) = false := by simpa using hyo
    have HY := Lib.hid hyo
    clear h hx hyo
    go_enter Tryd.func15, Tryd.ntmps15
    go_wp2_with (first
      | ((go_at_call 20); (refine (word_ok a b ws.length c i _ f0 h0 hlen).mono ?_); (rintro e w' ⟨rfl, rfl⟩))
      | ((go_at_call 21); (refine (note_any a _ cnt _ _ _ _ _ _ _ _ _ _ _ (by omega) hc hb).mono ?_); (rintro e w1 ⟨rfl, hn⟩)))
    go_ret2
    refine ⟨rfl, ?_, hn.2.mono (by simp)⟩
    exact hH.out.noted hn
end Go.Proofs.YtopgaemibfigbaaDoor

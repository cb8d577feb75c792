/-
  concordlaw01.do: an access of both arenas: they agree.
-/
import Derived.Test.YtopgaemibfigbaaDoorRef01
import Derived.Test.YtopgaemibfigbaaDoorAs
import Derived.Test.YtopgaemibfigbaaDoorReg
import Derived.Deep.RegionHeld3
import Derived.Deep.DrawnRows
import Derived.Deep.RegionWith
import Derived.Deep.QuietTactic
import Derived.BigQuiet
set_option linter.unusedVariables false
set_option linter.unusedSimpArgs false
namespace Go.Proofs.YtopgaemibfigbaaDoor
open Go.RowKit
attribute [local go_sem ↓] Go.wp_at_zero Go.wp_at_succ

/-- An access of both: both have the same words again. -/
def Both (w0 w w' : World) (a b r : Nat) (bad : List Nat) (ws : List Int) (cnt : Int) (n : Nat) : Prop := ∃ ws' cnt' n', Arena w' a b ws' cnt' ∧ RefA w0 w' r bad ws' n' ∧ ws'.length = ws.length ∧ cnt ≤ cnt' ∧ cnt' ≤ cnt + 1 ∧ n ≤ n' ∧ n' ≤ n + 1 ∧ Low w0.heap.size [a, b, r] w w'

set_option maxRecDepth 100000 in
set_option maxHeartbeats 2000000 in
theorem both_load (w0 w : World) (a b r : Nat) (bad : List Nat) (ws : List Int) (cnt : Int) (n : Nat) (o : Int) (i x y : Int) (hA : Arena w a b ws cnt) (hR : RefA w0 w r bad ws n) (ha : a < w0.heap.size) (hb : b < w0.heap.size) (hr : r < w0.heap.size) (hra : r ≠ a) (hrb : r ≠ b) (hba : a ∈ bad) (hbb : b ∈ bad) (hbl : ∀ x ∈ bad, x < w0.heap.size) (hrn : r ∉ bad)
    (hc : 0 ≤ cnt ∧ cnt ≤ 1000) (hn : n ≤ 1000) (hl : ws.length ≤ 1000) (h0 : 0 ≤ i) (hy : ws[i.toNat]? = some y) :
    Calls Tryd.prog 10 #[.pointer (some ⟨a, 0, none⟩), .pointer (some ⟨r, 0, none⟩), .agg #[.int .i64 1, .int .i64 i, .int .u64 o, .int .u64 x]] w fun e w' => e = .returned (.bool true) ∧ Both w0 w w' a b r bad ws cnt n := by
  have hz : w0.heap.size ≤ w.heap.size := by obtain ⟨q, c, v, xs, _, _, _, hz, _⟩ := hR; exact hz
  have hset : ws.set i.toNat y = ws := by
    obtain ⟨hk, rfl⟩ := List.getElem?_eq_some_iff.1 hy
    exact List.set_getElem_self hk
  have HSET := Lib.hid hset
  have HY := Lib.hid hy
  have hyy : (y == y) = true := by simp
  have uB := ((Upd.refl [] w).alloc (.cells #[.int .i64 1, .int .i64 i, .int .u64 o, .int .u64 x] 37))
  have hA1 := hA.upd uB (by simp) (by simp)
  have hR1 := hR.upd (uB.mono (by simp)) hrn hbl
  have hbx := Blk.new w 37 #[.int .i64 1, .int .i64 i, .int .u64 o, .int .u64 x]
  have HB := Lib.hid hbx
  clear hset hy hA hR hbx
  go_enter Tryd.func10, Tryd.ntmps10
  go_wp2_with fail
  refine (load_ok a b ws cnt i y _ hA1 (by omega) h0 HY.out).mono ?_; rintro e w1 ⟨rfl, hA2, u1⟩
  have hR2 := hR1.upd (u1.mono (by simp [hba, hbb])) hrn hbl
  have hb1 := HB.out.upd u1 (by simp; omega)
  have z1 : w.heap.size < w1.heap.size := Nat.lt_of_lt_of_le (by simp) u1.size
  have f1 := hb1.cell
  clear hA1 hR1
  
  go_wp2_with fail
  refine (do_load w0 _ r bad ws n i _ _ y hR2 hr hbl h0 HY.out hn (by omega)).mono ?_; rintro e w2 ⟨rfl, hR3, l2⟩
  have hA3 := hA2.low l2 ha hb (by simpa using hra.symm) (by simpa using hrb.symm)
  clear hA2 hR2 f1
  go_wp2_with fail
  go_quiet ((go_at_call 12; exact Calls.quiet_of_same ((no_nil _).mono fun _ _ hh => ⟨hh.1, hh.2.symm⟩)))
  go_wp2_with fail
  go_ret
  have ud : Upd [] w2 (w2.drewN nq) := (Upd.refl [] w2).drewN _
  refine ⟨rfl, ws, cnt + 1, n + 1, hA3.upd ud (by simp) (by simp), by rw [← HSET.out]; exact hR3.upd (ud.mono (by simp)) hrn hbl, by simp, by omega, by omega, by omega, by omega, ?_⟩
  have lz : w0.heap.size ≤ w1.heap.size := by omega
  exact (((Low.of_upd (uB.mono (T := [a, b, r]) (by simp)) hz (by simp)).trans (Low.of_upd (u1.mono (T := [a, b, r]) (by simp)) (by simp; omega) (by simp))).trans (l2.mono (by simp))).trans (Low.of_upd (ud.mono (T := [a, b, r]) (by simp)) (Nat.le_trans lz l2.size) (by simp))

set_option maxRecDepth 100000 in
set_option maxHeartbeats 2000000 in
theorem both_store (w0 w : World) (a b r : Nat) (bad : List Nat) (ws : List Int) (cnt : Int) (n : Nat) (o : Int) (i x y : Int) (hA : Arena w a b ws cnt) (hR : RefA w0 w r bad ws n) (ha : a < w0.heap.size) (hb : b < w0.heap.size) (hr : r < w0.heap.size) (hra : r ≠ a) (hrb : r ≠ b) (hba : a ∈ bad) (hbb : b ∈ bad) (hbl : ∀ x ∈ bad, x < w0.heap.size) (hrn : r ∉ bad)
    (hc : 0 ≤ cnt ∧ cnt ≤ 1000) (hn : n ≤ 1000) (hl : ws.length ≤ 1000) (h0 : 0 ≤ i) (hy : ws[i.toNat]? = some y) :
    Calls Tryd.prog 10 #[.pointer (some ⟨a, 0, none⟩), .pointer (some ⟨r, 0, none⟩), .agg #[.int .i64 2, .int .i64 i, .int .u64 o, .int .u64 x]] w fun e w' => e = .returned (.bool true) ∧ Both w0 w w' a b r bad ws cnt n := by
  have hz : w0.heap.size ≤ w.heap.size := by obtain ⟨q, c, v, xs, _, _, _, hz, _⟩ := hR; exact hz
  have hset : ws.set i.toNat y = ws := by
    obtain ⟨hk, rfl⟩ := List.getElem?_eq_some_iff.1 hy
    exact List.set_getElem_self hk
  have HSET := Lib.hid hset
  have HY := Lib.hid hy
  have hyy : (y == y) = true := by simp
  have uB := ((Upd.refl [] w).alloc (.cells #[.int .i64 2, .int .i64 i, .int .u64 o, .int .u64 x] 37))
  have hA1 := hA.upd uB (by simp) (by simp)
  have hR1 := hR.upd (uB.mono (by simp)) hrn hbl
  have hbx := Blk.new w 37 #[.int .i64 2, .int .i64 i, .int .u64 o, .int .u64 x]
  have HB := Lib.hid hbx
  clear hset hy hA hR hbx
  go_enter Tryd.func10, Tryd.ntmps10
  go_wp2_with fail
  refine (store_ok a b ws cnt i x y _ hA1 (by omega) h0 HY.out).mono ?_; rintro e w1 ⟨rfl, hA2, u1⟩
  have hR2 := hR1.upd (u1.mono (by simp [hba, hbb])) hrn hbl
  have hb1 := HB.out.upd u1 (by simp; omega)
  have z1 : w.heap.size < w1.heap.size := Nat.lt_of_lt_of_le (by simp) u1.size
  have f1 := hb1.cell
  clear hA1 hR1
  
  go_wp2_with fail
  refine (do_store w0 _ r bad ws n i _ x y hR2 hr hbl h0 HY.out hn (by omega)).mono ?_; rintro e w2 ⟨rfl, hR3, l2⟩
  have hA3 := hA2.low l2 ha hb (by simpa using hra.symm) (by simpa using hrb.symm)
  clear hA2 hR2 f1
  go_wp2_with fail
  go_quiet ((go_at_call 12; exact Calls.quiet_of_same ((no_nil _).mono fun _ _ hh => ⟨hh.1, hh.2.symm⟩)))
  go_wp2_with fail
  go_ret
  have ud : Upd [] w2 (w2.drewN nq) := (Upd.refl [] w2).drewN _
  refine ⟨rfl, (ws.set i.toNat x), cnt + 1, n + 1, hA3.upd ud (by simp) (by simp), hR3.upd (ud.mono (by simp)) hrn hbl, by simp, by omega, by omega, by omega, by omega, ?_⟩
  have lz : w0.heap.size ≤ w1.heap.size := by omega
  exact (((Low.of_upd (uB.mono (T := [a, b, r]) (by simp)) hz (by simp)).trans (Low.of_upd (u1.mono (T := [a, b, r]) (by simp)) (by simp; omega) (by simp))).trans (l2.mono (by simp))).trans (Low.of_upd (ud.mono (T := [a, b, r]) (by simp)) (Nat.le_trans lz l2.size) (by simp))

set_option maxRecDepth 100000 in
set_option maxHeartbeats 2000000 in
theorem both_casy (w0 w : World) (a b r : Nat) (bad : List Nat) (ws : List Int) (cnt : Int) (n : Nat) (i x y : Int) (hA : Arena w a b ws cnt) (hR : RefA w0 w r bad ws n) (ha : a < w0.heap.size) (hb : b < w0.heap.size) (hr : r < w0.heap.size) (hra : r ≠ a) (hrb : r ≠ b) (hba : a ∈ bad) (hbb : b ∈ bad) (hbl : ∀ x ∈ bad, x < w0.heap.size) (hrn : r ∉ bad)
    (hc : 0 ≤ cnt ∧ cnt ≤ 1000) (hn : n ≤ 1000) (hl : ws.length ≤ 1000) (h0 : 0 ≤ i) (hy : ws[i.toNat]? = some y) :
    Calls Tryd.prog 10 #[.pointer (some ⟨a, 0, none⟩), .pointer (some ⟨r, 0, none⟩), .agg #[.int .i64 3, .int .i64 i, .int .u64 y, .int .u64 x]] w fun e w' => e = .returned (.bool true) ∧ Both w0 w w' a b r bad ws cnt n := by
  have hz : w0.heap.size ≤ w.heap.size := by obtain ⟨q, c, v, xs, _, _, _, hz, _⟩ := hR; exact hz
  have hset : ws.set i.toNat y = ws := by
    obtain ⟨hk, rfl⟩ := List.getElem?_eq_some_iff.1 hy
    exact List.set_getElem_self hk
  have HSET := Lib.hid hset
  have HY := Lib.hid hy
  have hyy : (y == y) = true := by simp
  have uB := ((Upd.refl [] w).alloc (.cells #[.int .i64 3, .int .i64 i, .int .u64 y, .int .u64 x] 37))
  have hA1 := hA.upd uB (by simp) (by simp)
  have hR1 := hR.upd (uB.mono (by simp)) hrn hbl
  have hbx := Blk.new w 37 #[.int .i64 3, .int .i64 i, .int .u64 y, .int .u64 x]
  have HB := Lib.hid hbx
  clear hset hy hA hR hbx
  go_enter Tryd.func10, Tryd.ntmps10
  go_wp2_with fail
  refine (cas_ok a b ws cnt i y x y _ hA1 (by omega) h0 HY.out).mono ?_; rintro e w1 ⟨rfl, hA2, u1⟩
  have hR2 := hR1.upd (u1.mono (by simp [hba, hbb])) hrn hbl
  have hb1 := HB.out.upd u1 (by simp; omega)
  have z1 : w.heap.size < w1.heap.size := Nat.lt_of_lt_of_le (by simp) u1.size
  have f1 := hb1.cell
  clear hA1 hR1
  rw [if_pos rfl] at hA2
  go_wp2_with fail
  refine (do_cas_yes w0 _ r bad ws n i x y hR2 hr hbl h0 HY.out hn (by omega)).mono ?_; rintro e w2 ⟨rfl, hR3, l2⟩
  have hA3 := hA2.low l2 ha hb (by simpa using hra.symm) (by simpa using hrb.symm)
  clear hA2 hR2 f1
  go_wp2_with fail
  go_quiet ((go_at_call 12; exact Calls.quiet_of_same ((no_nil _).mono fun _ _ hh => ⟨hh.1, hh.2.symm⟩)))
  go_wp2_with fail
  go_ret
  have ud : Upd [] w2 (w2.drewN nq) := (Upd.refl [] w2).drewN _
  refine ⟨rfl, (ws.set i.toNat x), cnt + 1, n + 1, hA3.upd ud (by simp) (by simp), hR3.upd (ud.mono (by simp)) hrn hbl, by simp, by omega, by omega, by omega, by omega, ?_⟩
  have lz : w0.heap.size ≤ w1.heap.size := by omega
  exact (((Low.of_upd (uB.mono (T := [a, b, r]) (by simp)) hz (by simp)).trans (Low.of_upd (u1.mono (T := [a, b, r]) (by simp)) (by simp; omega) (by simp))).trans (l2.mono (by simp))).trans (Low.of_upd (ud.mono (T := [a, b, r]) (by simp)) (Nat.le_trans lz l2.size) (by simp))

set_option maxRecDepth 100000 in
set_option maxHeartbeats 2000000 in
theorem both_casn (w0 w : World) (a b r : Nat) (bad : List Nat) (ws : List Int) (cnt : Int) (n : Nat) (o : Int) (i x y : Int) (hA : Arena w a b ws cnt) (hR : RefA w0 w r bad ws n) (ha : a < w0.heap.size) (hb : b < w0.heap.size) (hr : r < w0.heap.size) (hra : r ≠ a) (hrb : r ≠ b) (hba : a ∈ bad) (hbb : b ∈ bad) (hbl : ∀ x ∈ bad, x < w0.heap.size) (hrn : r ∉ bad)
    (hc : 0 ≤ cnt ∧ cnt ≤ 1000) (hn : n ≤ 1000) (hl : ws.length ≤ 1000) (h0 : 0 ≤ i) (hy : ws[i.toNat]? = some y) (hne : (y == o) = false) :
    Calls Tryd.prog 10 #[.pointer (some ⟨a, 0, none⟩), .pointer (some ⟨r, 0, none⟩), .agg #[.int .i64 3, .int .i64 i, .int .u64 o, .int .u64 x]] w fun e w' => e = .returned (.bool true) ∧ Both w0 w w' a b r bad ws cnt n := by
  have hz : w0.heap.size ≤ w.heap.size := by obtain ⟨q, c, v, xs, _, _, _, hz, _⟩ := hR; exact hz
  have hset : ws.set i.toNat y = ws := by
    obtain ⟨hk, rfl⟩ := List.getElem?_eq_some_iff.1 hy
    exact List.set_getElem_self hk
  have HSET := Lib.hid hset
  have HY := Lib.hid hy
  have HN := Lib.hid hne
  have uB := ((Upd.refl [] w).alloc (.cells #[.int .i64 3, .int .i64 i, .int .u64 o, .int .u64 x] 37))
  have hA1 := hA.upd uB (by simp) (by simp)
  have hR1 := hR.upd (uB.mono (by simp)) hrn hbl
  have hbx := Blk.new w 37 #[.int .i64 3, .int .i64 i, .int .u64 o, .int .u64 x]
  have HB := Lib.hid hbx
  clear hset hy hA hR hbx
  go_enter Tryd.func10, Tryd.ntmps10
  go_wp2_with fail
  refine (cas_ok a b ws cnt i o x y _ hA1 (by omega) h0 HY.out).mono ?_; rintro e w1 ⟨rfl, hA2, u1⟩
  have hR2 := hR1.upd (u1.mono (by simp [hba, hbb])) hrn hbl
  have hb1 := HB.out.upd u1 (by simp; omega)
  have z1 : w.heap.size < w1.heap.size := Nat.lt_of_lt_of_le (by simp) u1.size
  have f1 := hb1.cell
  clear hA1 hR1
  rw [if_neg (by simpa using HN.out)] at hA2
  go_wp2_with fail
  refine (do_cas_no w0 _ r bad ws n i o x y hR2 hr hbl h0 HY.out hn (by omega) HN.out).mono ?_; rintro e w2 ⟨rfl, hR3, l2⟩
  have hA3 := hA2.low l2 ha hb (by simpa using hra.symm) (by simpa using hrb.symm)
  clear hA2 hR2 f1
  go_wp2_with fail
  go_quiet ((go_at_call 12; exact Calls.quiet_of_same ((no_nil _).mono fun _ _ hh => ⟨hh.1, hh.2.symm⟩)))
  go_wp2_with fail
  go_ret
  have ud : Upd [] w2 (w2.drewN nq) := (Upd.refl [] w2).drewN _
  refine ⟨rfl, ws, cnt + 1, n + 1, hA3.upd ud (by simp) (by simp), by rw [← HSET.out]; exact hR3.upd (ud.mono (by simp)) hrn hbl, by simp, by omega, by omega, by omega, by omega, ?_⟩
  have lz : w0.heap.size ≤ w1.heap.size := by omega
  exact (((Low.of_upd (uB.mono (T := [a, b, r]) (by simp)) hz (by simp)).trans (Low.of_upd (u1.mono (T := [a, b, r]) (by simp)) (by simp; omega) (by simp))).trans (l2.mono (by simp))).trans (Low.of_upd (ud.mono (T := [a, b, r]) (by simp)) (Nat.le_trans lz l2.size) (by simp))

set_option maxRecDepth 100000 in
set_option maxHeartbeats 2000000 in
theorem both_load_out (w0 w : World) (a b r : Nat) (bad : List Nat) (ws : List Int) (cnt : Int) (n : Nat) (i o x : Int) (hA : Arena w a b ws cnt) (hR : RefA w0 w r bad ws n) (ha : a < w0.heap.size) (hb : b < w0.heap.size) (_hr : r < w0.heap.size) (hra : r ≠ a) (hrb : r ≠ b) (hba : a ∈ bad) (hbb : b ∈ bad) (hbl : ∀ x ∈ bad, x < w0.heap.size) (hrn : r ∉ bad)
    (hT : Typed w) (h0 : i < 0 ∨ ws.length ≤ i) :
    Calls Tryd.prog 10 #[.pointer (some ⟨a, 0, none⟩), .pointer (some ⟨r, 0, none⟩), .agg #[.int .i64 1, .int .i64 i, .int .u64 o, .int .u64 x]] w fun e w' => e = .returned (.bool true) ∧ Both w0 w w' a b r bad ws cnt n := by
  have hz : w0.heap.size ≤ w.heap.size := by obtain ⟨q, c, v, xs, _, _, _, hz, _⟩ := hR; exact hz
  have hii : (i == i) = true := by simp
  have uB := ((Upd.refl [] w).alloc (.cells #[.int .i64 1, .int .i64 i, .int .u64 o, .int .u64 x] 37))
  have hA1 := hA.upd uB (by simp) (by simp)
  have hR1 := hR.upd (uB.mono (by simp)) hrn hbl
  have hT1 := hT.upd uB (by simp)
  have hbx := Blk.new w 37 #[.int .i64 1, .int .i64 i, .int .u64 o, .int .u64 x]
  have HB := Lib.hid hbx
  clear hA hR hbx hT
  go_enter Tryd.func10, Tryd.ntmps10
  go_wp2_with fail
  refine (load_out a b ws cnt i _ hA1 h0).mono ?_; rintro e w1 ⟨v, rfl, ⟨g, rfl, hg, hbf⟩, u1⟩
  have hA2 := hA1.upd u1 (by simp) (by simp)
  have hR2 := hR1.upd (u1.mono (by simp [hba, hbb])) hrn hbl
  have hT2 := hT1.upd u1 (by simp)
  have hb1 := HB.out.upd u1 (by simp)
  have z1 : w.heap.size < w1.heap.size := Nat.lt_of_lt_of_le (by simp) u1.size
  have f1 : w1.cell? ⟨w.heap.size, 1, none⟩ = some (.int .i64 i) := by rw [hb1.cell]; rfl
  have fe : w1.cell? ⟨g, 1, none⟩ = some (.int .i64 3) := by rw [hbf.cell]; rfl
  have ff := hb1.cell
  clear hA1 hR1 hT1
  go_wp2_with fail
  refine (do_out w0 _ r bad ws n 1 i 0 0 hR2 h0).mono ?_; rintro e w' ⟨rfl, rfl⟩
  clear ff
  go_wp2_with fail
  go_region_held3 (fun w' => w'.cell? ⟨w.heap.size, 1, none⟩ = some (.int .i64 i)) (first | exact f1 | exact fk)
    (first | (go_at_call 12; refine (no_fault g 3 (by omega) (by omega) _ ?_).mono ?_; (exact fe); rintro e w' ⟨rfl, rfl⟩) | (go_at_call 18; refine (place_fault g i 3 _ ?_ ?_).mono ?_; (exact hT2); (exact hbf.drew); rintro e w2 ⟨rfl, u2⟩; have fk : w2.cell? ⟨w.heap.size, 1, none⟩ = some (.int .i64 i) := (u2.cell (p := ⟨w.heap.size, 1, none⟩) z1 (by simp)).trans f1))
  all_goals go_wp2_with fail
  all_goals go_ret
  all_goals have ud : Upd [] w1 w2 := ((Upd.refl [] w1).drew).trans u2
  all_goals refine ⟨rfl, ws, cnt, n, hA2.upd ud (by simp) (by simp), hR2.upd (ud.mono (by simp)) hrn hbl, rfl, by omega, by omega, by omega, by omega, ?_⟩
  all_goals exact ((Low.of_upd (uB.mono (T := [a, b, r]) (by simp)) hz (by simp)).trans (Low.of_upd (u1.mono (T := [a, b, r]) (by simp)) (by simp; omega) (by simp))).trans (Low.of_upd (ud.mono (T := [a, b, r]) (by simp)) (by omega) (by simp))

set_option maxRecDepth 100000 in
set_option maxHeartbeats 2000000 in
theorem both_store_out (w0 w : World) (a b r : Nat) (bad : List Nat) (ws : List Int) (cnt : Int) (n : Nat) (i o x : Int) (hA : Arena w a b ws cnt) (hR : RefA w0 w r bad ws n) (ha : a < w0.heap.size) (hb : b < w0.heap.size) (_hr : r < w0.heap.size) (hra : r ≠ a) (hrb : r ≠ b) (hba : a ∈ bad) (hbb : b ∈ bad) (hbl : ∀ x ∈ bad, x < w0.heap.size) (hrn : r ∉ bad)
    (hT : Typed w) (h0 : i < 0 ∨ ws.length ≤ i) :
    Calls Tryd.prog 10 #[.pointer (some ⟨a, 0, none⟩), .pointer (some ⟨r, 0, none⟩), .agg #[.int .i64 2, .int .i64 i, .int .u64 o, .int .u64 x]] w fun e w' => e = .returned (.bool true) ∧ Both w0 w w' a b r bad ws cnt n := by
  have hz : w0.heap.size ≤ w.heap.size := by obtain ⟨q, c, v, xs, _, _, _, hz, _⟩ := hR; exact hz
  have hii : (i == i) = true := by simp
  have uB := ((Upd.refl [] w).alloc (.cells #[.int .i64 2, .int .i64 i, .int .u64 o, .int .u64 x] 37))
  have hA1 := hA.upd uB (by simp) (by simp)
  have hR1 := hR.upd (uB.mono (by simp)) hrn hbl
  have hT1 := hT.upd uB (by simp)
  have hbx := Blk.new w 37 #[.int .i64 2, .int .i64 i, .int .u64 o, .int .u64 x]
  have HB := Lib.hid hbx
  clear hA hR hbx hT
  go_enter Tryd.func10, Tryd.ntmps10
  go_wp2_with fail
  refine (store_out a b ws cnt i x _ hA1 h0).mono ?_; rintro e w1 ⟨v, rfl, ⟨g, rfl, hg, hbf⟩, u1⟩
  have hA2 := hA1.upd u1 (by simp) (by simp)
  have hR2 := hR1.upd (u1.mono (by simp [hba, hbb])) hrn hbl
  have hT2 := hT1.upd u1 (by simp)
  have hb1 := HB.out.upd u1 (by simp)
  have z1 : w.heap.size < w1.heap.size := Nat.lt_of_lt_of_le (by simp) u1.size
  have f1 : w1.cell? ⟨w.heap.size, 1, none⟩ = some (.int .i64 i) := by rw [hb1.cell]; rfl
  have fe : w1.cell? ⟨g, 1, none⟩ = some (.int .i64 3) := by rw [hbf.cell]; rfl
  have ff := hb1.cell
  clear hA1 hR1 hT1
  go_wp2_with fail
  refine (do_out w0 _ r bad ws n 2 i 0 x hR2 h0).mono ?_; rintro e w' ⟨rfl, rfl⟩
  clear ff
  go_wp2_with fail
  go_region_held3 (fun w' => w'.cell? ⟨w.heap.size, 1, none⟩ = some (.int .i64 i)) (first | exact f1 | exact fk)
    (first | (go_at_call 12; refine (no_fault g 3 (by omega) (by omega) _ ?_).mono ?_; (exact fe); rintro e w' ⟨rfl, rfl⟩) | (go_at_call 18; refine (place_fault g i 3 _ ?_ ?_).mono ?_; (exact hT2); (exact hbf.drew); rintro e w2 ⟨rfl, u2⟩; have fk : w2.cell? ⟨w.heap.size, 1, none⟩ = some (.int .i64 i) := (u2.cell (p := ⟨w.heap.size, 1, none⟩) z1 (by simp)).trans f1))
  all_goals go_wp2_with fail
  all_goals go_ret
  all_goals have ud : Upd [] w1 w2 := ((Upd.refl [] w1).drew).trans u2
  all_goals refine ⟨rfl, ws, cnt, n, hA2.upd ud (by simp) (by simp), hR2.upd (ud.mono (by simp)) hrn hbl, rfl, by omega, by omega, by omega, by omega, ?_⟩
  all_goals exact ((Low.of_upd (uB.mono (T := [a, b, r]) (by simp)) hz (by simp)).trans (Low.of_upd (u1.mono (T := [a, b, r]) (by simp)) (by simp; omega) (by simp))).trans (Low.of_upd (ud.mono (T := [a, b, r]) (by simp)) (by omega) (by simp))

set_option maxRecDepth 100000 in
set_option maxHeartbeats 2000000 in
theorem both_cas_out (w0 w : World) (a b r : Nat) (bad : List Nat) (ws : List Int) (cnt : Int) (n : Nat) (i o x : Int) (hA : Arena w a b ws cnt) (hR : RefA w0 w r bad ws n) (ha : a < w0.heap.size) (hb : b < w0.heap.size) (_hr : r < w0.heap.size) (hra : r ≠ a) (hrb : r ≠ b) (hba : a ∈ bad) (hbb : b ∈ bad) (hbl : ∀ x ∈ bad, x < w0.heap.size) (hrn : r ∉ bad)
    (hT : Typed w) (h0 : i < 0 ∨ ws.length ≤ i) :
    Calls Tryd.prog 10 #[.pointer (some ⟨a, 0, none⟩), .pointer (some ⟨r, 0, none⟩), .agg #[.int .i64 3, .int .i64 i, .int .u64 o, .int .u64 x]] w fun e w' => e = .returned (.bool true) ∧ Both w0 w w' a b r bad ws cnt n := by
  have hz : w0.heap.size ≤ w.heap.size := by obtain ⟨q, c, v, xs, _, _, _, hz, _⟩ := hR; exact hz
  have hii : (i == i) = true := by simp
  have uB := ((Upd.refl [] w).alloc (.cells #[.int .i64 3, .int .i64 i, .int .u64 o, .int .u64 x] 37))
  have hA1 := hA.upd uB (by simp) (by simp)
  have hR1 := hR.upd (uB.mono (by simp)) hrn hbl
  have hT1 := hT.upd uB (by simp)
  have hbx := Blk.new w 37 #[.int .i64 3, .int .i64 i, .int .u64 o, .int .u64 x]
  have HB := Lib.hid hbx
  clear hA hR hbx hT
  go_enter Tryd.func10, Tryd.ntmps10
  go_wp2_with fail
  refine (cas_out a b ws cnt i o x _ hA1 h0).mono ?_; rintro e w1 ⟨v, rfl, ⟨g, rfl, hg, hbf⟩, u1⟩
  have hA2 := hA1.upd u1 (by simp) (by simp)
  have hR2 := hR1.upd (u1.mono (by simp [hba, hbb])) hrn hbl
  have hT2 := hT1.upd u1 (by simp)
  have hb1 := HB.out.upd u1 (by simp)
  have z1 : w.heap.size < w1.heap.size := Nat.lt_of_lt_of_le (by simp) u1.size
  have f1 : w1.cell? ⟨w.heap.size, 1, none⟩ = some (.int .i64 i) := by rw [hb1.cell]; rfl
  have fe : w1.cell? ⟨g, 1, none⟩ = some (.int .i64 3) := by rw [hbf.cell]; rfl
  have ff := hb1.cell
  clear hA1 hR1 hT1
  go_wp2_with fail
  refine (do_out w0 _ r bad ws n 3 i o x hR2 h0).mono ?_; rintro e w' ⟨rfl, rfl⟩
  clear ff
  go_wp2_with fail
  refine wp_region_held_drew (S := fun w' => w'.cell? ⟨w.heap.size, 1, none⟩ = some (.int .i64 i)) (by kernel_rfl) f1 (fun hS0 => ?_)
  refine wpAnyH_take (i := 0) (v := ?_) rfl (by kernel_rfl) (by kernel_rfl) (by kernel_rfl) (fun _ _ _ h => h) (Or.inl ⟨by rfl, ?_⟩) hS0 ?_
  rotate_left
  · intro W hSW
    first
      | (go_simp; with_reducible rfl)
      | (go_simp; done)
  simp only [Act.put, List.getElem_toArray, List.getElem_cons_zero, List.getElem_cons_succ, List.setIfInBounds_toArray, List.set_cons_zero, List.set_cons_succ]
  refine wpAnyH_take (i := 1) (v := ?_) rfl (by kernel_rfl) (by kernel_rfl) (by kernel_rfl) (fun _ _ _ h => h) (Or.inl ⟨by rfl, ?_⟩) hS0 ?_
  rotate_left
  · intro W hSW
    first
      | (go_simp; with_reducible rfl)
      | (go_simp; done)
  simp only [Act.put, List.getElem_toArray, List.getElem_cons_zero, List.getElem_cons_succ, List.setIfInBounds_toArray, List.set_cons_zero, List.set_cons_succ]
  refine wpAnyH_take (i := 2) (v := ?_) rfl (by kernel_rfl) (by kernel_rfl) (by kernel_rfl) (fun _ _ _ h => h) (Or.inl ⟨by rfl, ?_⟩) hS0 ?_
  rotate_left
  · intro W hSW
    first
      | (go_simp; with_reducible rfl)
      | (go_simp; done)
  simp only [Act.put, List.getElem_toArray, List.getElem_cons_zero, List.getElem_cons_succ, List.setIfInBounds_toArray, List.set_cons_zero, List.set_cons_succ]
  refine wpAnyH_take (i := 3) (v := undef) rfl (by kernel_rfl) (by kernel_rfl) (by kernel_rfl) (fun _ _ _ h => h) (Or.inr ⟨by rfl, rfl⟩) hS0 ?_
  simp only [Act.put, List.getElem_toArray, List.getElem_cons_zero, List.getElem_cons_succ, List.setIfInBounds_toArray, List.set_cons_zero, List.set_cons_succ]
  refine wpAnyH_take (i := 4) (v := undef) rfl (by kernel_rfl) (by kernel_rfl) (by kernel_rfl) (fun _ _ _ h => h) (Or.inr ⟨by rfl, rfl⟩) hS0 ?_
  simp only [Act.put, List.getElem_toArray, List.getElem_cons_zero, List.getElem_cons_succ, List.setIfInBounds_toArray, List.set_cons_zero, List.set_cons_succ]
  refine wpAnyH_take (i := 5) (v := ?_) rfl (by kernel_rfl) (by kernel_rfl) (by kernel_rfl) (fun _ _ _ h => h) (Or.inl ⟨by rfl, ?_⟩) hS0 ?_
  rotate_left
  · intro W hSW
    first
      | (go_simp; with_reducible rfl)
      | (go_simp; done)
  simp only [Act.put, List.getElem_toArray, List.getElem_cons_zero, List.getElem_cons_succ, List.setIfInBounds_toArray, List.set_cons_zero, List.set_cons_succ]
  refine wpAnyH_take (i := 6) (v := ?_) rfl (by kernel_rfl) (by kernel_rfl) (by kernel_rfl) (fun _ _ _ h => h) (Or.inl ⟨by rfl, ?_⟩) hS0 ?_
  rotate_left
  · intro W hSW
    first
      | (go_simp; with_reducible rfl)
      | (go_simp; done)
  simp only [Act.put, List.getElem_toArray, List.getElem_cons_zero, List.getElem_cons_succ, List.setIfInBounds_toArray, List.set_cons_zero, List.set_cons_succ]
  refine wpAnyH_take (i := 7) (v := ?_) rfl (by kernel_rfl) (by kernel_rfl) (by kernel_rfl) (fun _ _ _ h => h) (Or.inl ⟨by rfl, ?_⟩) hS0 ?_
  rotate_left
  · intro W hSW
    first
      | (go_simp; with_reducible rfl)
      | (go_simp; done)
  simp only [Act.put, List.getElem_toArray, List.getElem_cons_zero, List.getElem_cons_succ, List.setIfInBounds_toArray, List.set_cons_zero, List.set_cons_succ]
  refine wpAnyH_take (i := 8) (v := ?_) rfl (by kernel_rfl) (by kernel_rfl) (by kernel_rfl) (fun _ _ _ h => h) (Or.inl ⟨by rfl, ?_⟩) hS0 ?_
  rotate_left
  · intro W hSW
    first
      | (go_simp; with_reducible rfl)
      | (go_simp; done)
  simp only [Act.put, List.getElem_toArray, List.getElem_cons_zero, List.getElem_cons_succ, List.setIfInBounds_toArray, List.set_cons_zero, List.set_cons_succ]
  refine wpAnyH_take (i := 10) (v := ?_) rfl (by kernel_rfl) (by kernel_rfl) (by kernel_rfl) (fun _ _ _ h => h) (Or.inl ⟨by rfl, ?_⟩) hS0 ?_
  rotate_left
  · intro W hSW
    first
      | (go_simp; with_reducible rfl)
      | (go_simp; done)
  simp only [Act.put, List.getElem_toArray, List.getElem_cons_zero, List.getElem_cons_succ, List.setIfInBounds_toArray, List.set_cons_zero, List.set_cons_succ]
  refine regH_heavy (i := 9) rfl (by kernel_rfl) (by rfl) ?_
  intro K1 hK1
  go_wp2_with (go_at_call 12; refine (no_fault g 3 (by omega) (by omega) _ ?_).mono ?_; (exact fe); rintro e w9 ⟨rfl, rfl⟩)
  refine hK1.out _ _ f1 ?_
  clear hK1 K1
  try simp only [Act.put, List.getElem_toArray, List.getElem_cons_zero, List.getElem_cons_succ, List.setIfInBounds_toArray, List.set_cons_zero, List.set_cons_succ]
  refine wpAnyH_take (i := 11) (v := ?_) rfl (by kernel_rfl) (by kernel_rfl) (by kernel_rfl) (fun _ _ _ h => h) (Or.inl ⟨by rfl, ?_⟩) hS0 ?_
  rotate_left
  · intro W hSW
    first
      | (go_simp; with_reducible rfl)
      | (go_simp; done)
  simp only [Act.put, List.getElem_toArray, List.getElem_cons_zero, List.getElem_cons_succ, List.setIfInBounds_toArray, List.set_cons_zero, List.set_cons_succ]
  refine wpAnyH_take (i := 12) (v := ?_) rfl (by kernel_rfl) (by kernel_rfl) (by kernel_rfl) (fun _ _ _ h => h) (Or.inl ⟨by rfl, ?_⟩) hS0 ?_
  rotate_left
  · intro W hSW
    first
      | (go_simp; with_reducible rfl)
      | (go_simp; done)
  simp only [Act.put, List.getElem_toArray, List.getElem_cons_zero, List.getElem_cons_succ, List.setIfInBounds_toArray, List.set_cons_zero, List.set_cons_succ]
  refine wpAnyH_take (i := 13) (v := ?_) rfl (by kernel_rfl) (by kernel_rfl) (by kernel_rfl) (fun _ _ _ h => h) (Or.inl ⟨by rfl, ?_⟩) hS0 ?_
  rotate_left
  · intro W hSW
    first
      | (go_simp; with_reducible rfl)
      | (go_simp; done)
  simp only [Act.put, List.getElem_toArray, List.getElem_cons_zero, List.getElem_cons_succ, List.setIfInBounds_toArray, List.set_cons_zero, List.set_cons_succ]
  refine wpAnyH_take (i := 14) (v := ?_) rfl (by kernel_rfl) (by kernel_rfl) (by kernel_rfl) (fun _ _ _ h => h) (Or.inl ⟨by rfl, ?_⟩) hS0 ?_
  rotate_left
  · intro W hSW
    first
      | (go_simp; with_reducible rfl)
      | (go_simp; done)
  simp only [Act.put, List.getElem_toArray, List.getElem_cons_zero, List.getElem_cons_succ, List.setIfInBounds_toArray, List.set_cons_zero, List.set_cons_succ]
  refine wpAnyH_take (i := 15) (v := ?_) rfl (by kernel_rfl) (by kernel_rfl) (by kernel_rfl) (fun _ _ _ h => h) (Or.inl ⟨by rfl, ?_⟩) hS0 ?_
  rotate_left
  · intro W hSW
    first
      | (go_simp; with_reducible rfl)
      | (go_simp; done)
  simp only [Act.put, List.getElem_toArray, List.getElem_cons_zero, List.getElem_cons_succ, List.setIfInBounds_toArray, List.set_cons_zero, List.set_cons_succ]
  refine wpAnyH_take (i := 16) (v := ?_) rfl (by kernel_rfl) (by kernel_rfl) (by kernel_rfl) (fun _ _ _ h => h) (Or.inl ⟨by rfl, ?_⟩) hS0 ?_
  rotate_left
  · intro W hSW
    first
      | (go_simp; with_reducible rfl)
      | (go_simp; done)
  simp only [Act.put, List.getElem_toArray, List.getElem_cons_zero, List.getElem_cons_succ, List.setIfInBounds_toArray, List.set_cons_zero, List.set_cons_succ]
  refine wpAnyH_take (i := 17) (v := ?_) rfl (by kernel_rfl) (by kernel_rfl) (by kernel_rfl) (fun _ _ _ h => h) (Or.inl ⟨by rfl, ?_⟩) hS0 ?_
  rotate_left
  · intro W hSW
    first
      | (go_simp; with_reducible rfl)
      | (go_simp; done)
  simp only [Act.put, List.getElem_toArray, List.getElem_cons_zero, List.getElem_cons_succ, List.setIfInBounds_toArray, List.set_cons_zero, List.set_cons_succ]
  refine wpAnyH_take (i := 19) (v := ?_) rfl (by kernel_rfl) (by kernel_rfl) (by kernel_rfl) (fun _ _ _ h => h) (Or.inl ⟨by rfl, ?_⟩) hS0 ?_
  rotate_left
  · intro W hSW
    first
      | (go_simp; with_reducible rfl)
      | (go_simp; done)
  simp only [Act.put, List.getElem_toArray, List.getElem_cons_zero, List.getElem_cons_succ, List.setIfInBounds_toArray, List.set_cons_zero, List.set_cons_succ]
  refine wpAnyH_take (i := 20) (v := ?_) rfl (by kernel_rfl) (by kernel_rfl) (by kernel_rfl) (fun _ _ _ h => h) (Or.inl ⟨by rfl, ?_⟩) hS0 ?_
  rotate_left
  · intro W hSW
    first
      | (go_simp; with_reducible rfl)
      | (go_simp; done)
  simp only [Act.put, List.getElem_toArray, List.getElem_cons_zero, List.getElem_cons_succ, List.setIfInBounds_toArray, List.set_cons_zero, List.set_cons_succ]
  refine regH_heavy (i := 18) rfl (by kernel_rfl) (by rfl) ?_
  intro K2 hK2
  go_wp2_with (go_at_call 18; refine (place_fault g i 3 _ ?_ ?_).mono ?_; (exact hT2); (exact hbf.drew); rintro e w2 ⟨rfl, u2⟩; have fk : w2.cell? ⟨w.heap.size, 1, none⟩ = some (.int .i64 i) := (u2.cell (p := ⟨w.heap.size, 1, none⟩) z1 (by simp)).trans f1)
  refine hK2.out _ _ fk ?_
  clear hK2 K2
  try simp only [Act.put, List.getElem_toArray, List.getElem_cons_zero, List.getElem_cons_succ, List.setIfInBounds_toArray, List.set_cons_zero, List.set_cons_succ]
  refine wpAnyH_take (i := 21) (v := ?_) rfl (by kernel_rfl) (by kernel_rfl) (by kernel_rfl) (fun _ _ _ h => h) (Or.inl ⟨by rfl, ?_⟩) fk ?_
  rotate_left
  · intro W hSW
    first
      | (go_simp; with_reducible rfl)
      | (go_simp; done)
  simp only [Act.put, List.getElem_toArray, List.getElem_cons_zero, List.getElem_cons_succ, List.setIfInBounds_toArray, List.set_cons_zero, List.set_cons_succ]
  refine wpAnyH_take (i := 22) (v := ?_) rfl (by kernel_rfl) (by kernel_rfl) (by kernel_rfl) (fun _ _ _ h => h) (Or.inl ⟨by rfl, ?_⟩) fk ?_
  rotate_left
  · intro W hSW
    first
      | (go_simp; with_reducible rfl)
      | (go_simp; done)
  simp only [Act.put, List.getElem_toArray, List.getElem_cons_zero, List.getElem_cons_succ, List.setIfInBounds_toArray, List.set_cons_zero, List.set_cons_succ]
  refine wpAnyH_take (i := 23) (v := ?_) rfl (by kernel_rfl) (by kernel_rfl) (by kernel_rfl) (fun _ _ _ h => h) (Or.inl ⟨by rfl, ?_⟩) fk ?_
  rotate_left
  · intro W hSW
    first
      | (go_simp; with_reducible rfl)
      | (go_simp; done)
  simp only [Act.put, List.getElem_toArray, List.getElem_cons_zero, List.getElem_cons_succ, List.setIfInBounds_toArray, List.set_cons_zero, List.set_cons_succ]
  refine wpAnyH_take (i := 24) (v := ?_) rfl (by kernel_rfl) (by kernel_rfl) (by kernel_rfl) (fun _ _ _ h => h) (Or.inl ⟨by rfl, ?_⟩) fk ?_
  rotate_left
  · intro W hSW
    first
      | (go_simp; with_reducible rfl)
      | (go_simp; done)
  simp only [Act.put, List.getElem_toArray, List.getElem_cons_zero, List.getElem_cons_succ, List.setIfInBounds_toArray, List.set_cons_zero, List.set_cons_succ]
  refine wpAnyH_done (by kernel_rfl) ?_ _
  all_goals go_wp2_with fail
  all_goals go_ret
  all_goals have ud : Upd [] w1 w2 := ((Upd.refl [] w1).drew).trans u2
  all_goals refine ⟨rfl, ws, cnt, n, hA2.upd ud (by simp) (by simp), hR2.upd (ud.mono (by simp)) hrn hbl, rfl, by omega, by omega, by omega, by omega, ?_⟩
  all_goals exact ((Low.of_upd (uB.mono (T := [a, b, r]) (by simp)) hz (by simp)).trans (Low.of_upd (u1.mono (T := [a, b, r]) (by simp)) (by simp; omega) (by simp))).trans (Low.of_upd (ud.mono (T := [a, b, r]) (by simp)) (by omega) (by simp))
end Go.Proofs.YtopgaemibfigbaaDoor

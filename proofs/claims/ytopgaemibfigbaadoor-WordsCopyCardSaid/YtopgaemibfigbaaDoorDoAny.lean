/-
  concordlaw01.do at any access.
-/
import Derived.Test.YtopgaemibfigbaaDoorDo01
set_option linter.unusedVariables false
set_option linter.unusedSimpArgs false
namespace Go.Proofs.YtopgaemibfigbaaDoor
open Go.RowKit

set_option maxHeartbeats 1000000 in
theorem both_other (w0 w : World) (a b r : Nat) (bad : List Nat) (ws : List Int) (cnt : Int) (n : Nat) (k i o x : Int) (hA : Arena w a b ws cnt) (hR : RefA w0 w r bad ws n) (hrn : r ∉ bad) (hbl : ∀ x ∈ bad, x < w0.heap.size)
    (h1 : (k == 1) = false) (h2 : (k == 2) = false) (h3 : (k == 3) = false) :
    Calls Tryd.prog 10 #[.pointer (some ⟨a, 0, none⟩), .pointer (some ⟨r, 0, none⟩), .agg #[.int .i64 k, .int .i64 i, .int .u64 o, .int .u64 x]] w fun e w' => e = .returned (.bool true) ∧ Both w0 w w' a b r bad ws cnt n := by
  have hz : w0.heap.size ≤ w.heap.size := by obtain ⟨q, c, v, xs, _, _, _, hz, _⟩ := hR; exact hz
  have uB := ((Upd.refl [] w).alloc (.cells #[.int .i64 k, .int .i64 i, .int .u64 o, .int .u64 x] 37))
  have HA := Lib.hid (hA.upd uB (by simp) (by simp))
  have HR := Lib.hid (hR.upd (uB.mono (by simp)) hrn hbl)
  clear hA hR
  go_enter Tryd.func10, Tryd.ntmps10
  go_wp2_with fail
  go_ret
  exact ⟨rfl, ws, cnt, n, HA.out, HR.out, rfl, by omega, by omega, by omega, by omega, Low.of_upd (uB.mono (T := [a, b, r]) (by simp)) hz (by simp)⟩

theorem do_any (w0 w : World) (a b r : Nat) (bad : List Nat) (ws : List Int) (cnt : Int) (n : Nat) (k i o x : Int) (hA : Arena w a b ws cnt) (hR : RefA w0 w r bad ws n) (ha : a < w0.heap.size) (hb : b < w0.heap.size) (hr : r < w0.heap.size) (hra : r ≠ a) (hrb : r ≠ b) (hba : a ∈ bad) (hbb : b ∈ bad) (hbl : ∀ x ∈ bad, x < w0.heap.size) (hrn : r ∉ bad)
    (hT : Typed w) (hc : 0 ≤ cnt ∧ cnt ≤ 1000) (hn : n ≤ 1000) (hl : ws.length ≤ 1000) :
    Calls Tryd.prog 10 #[.pointer (some ⟨a, 0, none⟩), .pointer (some ⟨r, 0, none⟩), .agg #[.int .i64 k, .int .i64 i, .int .u64 o, .int .u64 x]] w fun e w' => e = .returned (.bool true) ∧ Both w0 w w' a b r bad ws cnt n := by
  have hcase : k = 1 ∨ k = 2 ∨ k = 3 ∨ ((k == 1) = false ∧ (k == 2) = false ∧ (k == 3) = false) := by simp; omega
  by_cases hi : 0 ≤ i ∧ i < ws.length
  · obtain ⟨y, hy⟩ : ∃ y, ws[i.toNat]? = some y := ⟨_, List.getElem?_eq_getElem (by omega)⟩
    rcases hcase with rfl | rfl | rfl | ⟨h1, h2, h3⟩
    · exact both_load w0 w a b r bad ws cnt n o i x y hA hR ha hb hr hra hrb hba hbb hbl hrn hc hn hl hi.1 hy
    · exact both_store w0 w a b r bad ws cnt n o i x y hA hR ha hb hr hra hrb hba hbb hbl hrn hc hn hl hi.1 hy
    · by_cases e : y = o
      · subst e
        exact both_casy w0 w a b r bad ws cnt n i x y hA hR ha hb hr hra hrb hba hbb hbl hrn hc hn hl hi.1 hy
      · exact both_casn w0 w a b r bad ws cnt n o i x y hA hR ha hb hr hra hrb hba hbb hbl hrn hc hn hl hi.1 hy (by simpa using e)
    · exact both_other w0 w a b r bad ws cnt n k i o x hA hR hrn hbl h1 h2 h3
  · have h0 : i < 0 ∨ ws.length ≤ i := by omega
    rcases hcase with rfl | rfl | rfl | ⟨h1, h2, h3⟩
    · exact both_load_out w0 w a b r bad ws cnt n i o x hA hR ha hb hr hra hrb hba hbb hbl hrn hT h0
    · exact both_store_out w0 w a b r bad ws cnt n i o x hA hR ha hb hr hra hrb hba hbb hbl hrn hT h0
    · exact both_cas_out w0 w a b r bad ws cnt n i o x hA hR ha hb hr hra hrb hba hbb hbl hrn hT h0
    · exact both_other w0 w a b r bad ws cnt n k i o x hA hR hrn hbl h1 h2 h3
end Go.Proofs.YtopgaemibfigbaaDoor

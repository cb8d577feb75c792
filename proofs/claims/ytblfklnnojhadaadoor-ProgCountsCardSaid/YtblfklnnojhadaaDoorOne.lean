/-
  concordref09.One: is a statement right?
-/
import Derived.Test.YtblfklnnojhadaaDoorOne0
import Derived.Test.YtblfklnnojhadaaDoorOne1
import Derived.Test.YtblfklnnojhadaaDoorOne2
import Derived.Test.YtblfklnnojhadaaDoorOne3
set_option linter.unusedVariables false
namespace Go.Proofs.YtblfklnnojhadaaDoor
open Go.RowKit
attribute [local go_sem] litStep_value

set_option maxRecDepth 100000 in
set_option maxHeartbeats 4000000 in
theorem one_ok (k coll : Int) (reg ar an br bn : Int) (Ab Ae : Option Addr) (nb cb ne ce : Nat) (A : Option Addr) (n c : Nat) (ks : List Int) (w : World) (hn : n ≤ 1000000) (hlb : nb ≤ 9223372036854775807) (hle : ne ≤ 9223372036854775807) (hk : Src w 1 (.slice A n c) n (ks.map (Value.int .i64))) :
    Calls Tryd.prog 30 #[.agg #[.int .i64 k, .int .i64 coll, .int .i64 reg, .int .i64 ar, .int .i64 an, .int .i64 br, .int .i64 bn, .slice Ab nb cb, .slice Ae ne ce], .slice A n c] w fun e w' => e = .returned (.bool (rightV k coll reg ar an br bn nb ne ks)) ∧ Upd [] w w' := by
  by_cases h1 : k = 1
  · subst h1; exact one_1 coll reg ar an br bn Ab Ae nb cb ne ce A n c ks w hn hlb hle hk
  by_cases h2 : k = 2
  · subst h2; exact one_2 coll reg ar an br bn Ab Ae nb cb ne ce A n c ks w hn hlb hle hk
  by_cases h3 : k = 3
  · subst h3; exact one_3 coll reg ar an br bn Ab Ae nb cb ne ce A n c ks w hn hlb hle hk
  by_cases h4 : k = 4
  · subst h4; exact one_4 coll reg ar an br bn Ab Ae nb cb ne ce A n c ks w hn hlb hle hk
  by_cases h5 : k = 5
  · subst h5; exact one_5 coll reg ar an br bn Ab Ae nb cb ne ce A n c ks w hn hlb hle hk
  by_cases h6 : k = 6
  · subst h6; exact one_6 coll reg ar an br bn Ab Ae nb cb ne ce A n c ks w hn hlb hle hk
  by_cases h7 : k = 7
  · subst h7; exact one_7 coll reg ar an br bn Ab Ae nb cb ne ce A n c ks w hn hlb hle hk
  by_cases h8 : k = 8
  · subst h8; exact one_8 coll reg ar an br bn Ab Ae nb cb ne ce A n c ks w hn hlb hle hk
  by_cases h9 : k = 9
  · subst h9; exact one_9 coll reg ar an br bn Ab Ae nb cb ne ce A n c ks w hn hlb hle hk
  by_cases h10 : k = 10
  · subst h10; exact one_10 coll reg ar an br bn Ab Ae nb cb ne ce A n c ks w hn hlb hle hk
  by_cases h11 : k = 11
  · subst h11; exact one_11 coll reg ar an br bn Ab Ae nb cb ne ce A n c ks w hn hlb hle hk
  by_cases h12 : k = 12
  · subst h12; exact one_12 coll reg ar an br bn Ab Ae nb cb ne ce A n c ks w hn hlb hle hk
  by_cases h13 : k = 13
  · subst h13; exact one_13 coll reg ar an br bn Ab Ae nb cb ne ce A n c ks w hn hlb hle hk
  by_cases h14 : k = 14
  · subst h14; exact one_14 coll reg ar an br bn Ab Ae nb cb ne ce A n c ks w hn hlb hle hk
  by_cases h15 : k = 15
  · subst h15; exact one_15 coll reg ar an br bn Ab Ae nb cb ne ce A n c ks w hn hlb hle hk
  by_cases h16 : k = 16
  · subst h16; exact one_16 coll reg ar an br bn Ab Ae nb cb ne ce A n c ks w hn hlb hle hk
  clear hk
  have HR : Hid (rightV k coll reg ar an br bn nb ne ks = false) := Lib.hid (by unfold rightV; rw [show pIs k = false by unfold pIs; simp; omega]; simp)
  by_cases h : k < 1
  · clear h1 h2 h3 h4 h5 h6 h7 h8 h9 h10 h11 h12 h13 h14 h15 h16
    go_enter Tryd.func30, Tryd.ntmps30
    go_wp2_with fail
    go_ret
    rw [HR.out]
    exact ⟨rfl, (Upd.refl [] w).alloc _⟩
  · have g : 16 < k := by omega
    have g2 : decide (k < 1) = false := by simp; omega
    clear h h1 h2 h3 h4 h5 h6 h7 h8 h9 h10 h11 h12 h13 h14 h15 h16
    go_enter Tryd.func30, Tryd.ntmps30
    go_wp2_with fail
    go_ret
    rw [HR.out]
    exact ⟨rfl, (Upd.refl [] w).alloc _⟩
end Go.Proofs.YtblfklnnojhadaaDoor

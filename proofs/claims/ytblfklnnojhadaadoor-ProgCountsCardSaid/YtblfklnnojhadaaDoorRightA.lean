/-
  prog.arg, prog.coll: is an argument, a statement's collection right?
-/
import Derived.Test.YtblfklnnojhadaaDoorStm
import Derived.LoadGo3
set_option linter.unusedVariables false
namespace Go.Proofs.YtblfklnnojhadaaDoor
open Go.RowKit
def argB (r n : Int) (there : Bool) : Bool := if there then decide (0 ≤ r) && decide (r ≤ 8) && decide (-999 ≤ n) && decide (n ≤ 999) else decide (r = 0) && decide (n = 0)

set_option maxHeartbeats 1000000 in
theorem arg_ok (r n : Int) (there : Bool) (w : World) : Calls Tryd.prog 43 #[.agg #[.int .i64 r, .int .i64 n], .bool there] w fun e w' => e = .returned (.bool (argB r n there)) ∧ Upd [] w w' := by
  cases there with
  | false =>
    have HR : Hid (argB r n false = (r == 0 && n == 0)) := Lib.hid (by unfold argB; rw [Bool.eq_iff_iff]; simp)
    go_enter Tryd.func43, Tryd.ntmps43
    go_wp2_with fail
    all_goals
      go_ret
      exact ⟨by rw [HR.out]; simp [*], (Upd.refl [] w).alloc _⟩
  | true =>
    by_cases h1 : 0 ≤ r
    · by_cases h2 : r ≤ 8
      · by_cases h3 : -999 ≤ n
        · by_cases h4 : n ≤ 999
          · have HR : Hid (argB r n true = true) := Lib.hid (by unfold argB; simp [h1, h2, h3, h4])
            go_enter Tryd.func43, Tryd.ntmps43
            go_wp2_with fail
            go_ret
            rw [HR.out]
            exact ⟨rfl, (Upd.refl [] w).alloc _⟩
          · have HR : Hid (argB r n true = false) := Lib.hid (by unfold argB; simp [h4])
            have e4 : decide (n ≤ 999) = false := by simpa using h4
            go_enter Tryd.func43, Tryd.ntmps43
            go_wp2_with fail
            go_ret
            rw [HR.out]
            exact ⟨rfl, (Upd.refl [] w).alloc _⟩
        · have HR : Hid (argB r n true = false) := Lib.hid (by unfold argB; simp [h3])
          have e3 : decide (-999 ≤ n) = false := by simpa using h3
          go_enter Tryd.func43, Tryd.ntmps43
          go_wp2_with fail
          go_ret
          rw [HR.out]
          exact ⟨rfl, (Upd.refl [] w).alloc _⟩
      · have HR : Hid (argB r n true = false) := Lib.hid (by unfold argB; simp [h2])
        have e2 : decide (r ≤ 8) = false := by simpa using h2
        go_enter Tryd.func43, Tryd.ntmps43
        go_wp2_with fail
        go_ret
        rw [HR.out]
        exact ⟨rfl, (Upd.refl [] w).alloc _⟩
    · have HR : Hid (argB r n true = false) := Lib.hid (by unfold argB; simp [h1])
      have e1 : decide (0 ≤ r) = false := by simpa using h1
      go_enter Tryd.func43, Tryd.ntmps43
      go_wp2_with fail
      go_ret
      rw [HR.out]
      exact ⟨rfl, (Upd.refl [] w).alloc _⟩

/-- Is the collection right? -/
def collB (c : Int) (pc po : Bool) (ks : List Int) : Bool := if pc then decide (0 ≤ c) && decide (c < ks.length) && (!po || ks.getD c.toNat 0 == 3) else c == 0
set_option maxHeartbeats 1000000 in
theorem coll_ok (kind coll reg ar an br bn : Int) (Ab Ae : Option Addr) (nb cb ne ce : Nat) (pc po pr pa pb pbo pe : Bool) (A : Option Addr) (n c : Nat) (ks : List Int) (w : World) (hk : Src w 1 (.slice A n c) n (ks.map (Value.int .i64))) (hn : n ≤ 1000000) :
    Calls Tryd.prog 42 #[.agg #[.int .i64 kind, .int .i64 coll, .int .i64 reg, .int .i64 ar, .int .i64 an, .int .i64 br, .int .i64 bn, .slice Ab nb cb, .slice Ae ne ce], .agg #[.bool pc, .bool po, .bool pr, .bool pa, .bool pb, .bool pbo, .bool pe], .slice A n c] w fun e w' => e = .returned (.bool (collB coll pc po ks)) ∧ Upd [] w w' := by
  have hl : ks.length = n := by simpa using hk.1
  have HL := Lib.hid hl
  have HK := Lib.hid hk
  clear hl hk
  cases pc with
  | false =>
    have HR : Hid (collB coll false po ks = (coll == 0)) := Lib.hid rfl
    go_enter Tryd.func42, Tryd.ntmps42
    go_wp2_with fail
    go_ret
    rw [HR.out]
    exact ⟨rfl, ((Upd.refl [] w).alloc _).alloc _⟩
  | true =>
    by_cases h1 : 0 ≤ coll
    · by_cases h2 : coll < n
      · cases po with
        | false =>
          have HR : Hid (collB coll true false ks = true) := Lib.hid (by unfold collB; rw [HL.out]; simp [h1, h2])
          go_enter Tryd.func42, Tryd.ntmps42
          go_wp2_with fail
          go_ret
          rw [HR.out]
          exact ⟨rfl, ((Upd.refl [] w).alloc _).alloc _⟩
        | true =>
          obtain ⟨k, rfl⟩ : ∃ k : Nat, coll = k := ⟨coll.toNat, by omega⟩
          obtain ⟨x, hx⟩ : ∃ x, ks[k]? = some x := ⟨_, List.getElem?_eq_getElem (by rw [HL.out]; omega)⟩
          have HR : Hid (collB k true true ks = (x == 3)) := Lib.hid (by unfold collB; rw [HL.out]; simp [h2, hx])
          obtain ⟨A', c', he, hc⟩ := HK.out.2
          injection he with he _ _
          subst he
          obtain ⟨ad, rfl, hlt, hcell⟩ := hc k (.int .i64 x) (by simp [hx])
          have n1 : ad.block < w.heap.size + 1 := by omega
          have hb : (ad.add k).block < w.heap.size := by rw [block_add]; exact hlt
          clear hx hc
          go_enter Tryd.func42, Tryd.ntmps42
          go_wp2_with fail
          go_ret
          rw [HR.out]
          exact ⟨rfl, ((Upd.refl [] w).alloc _).alloc _⟩
      · have HR : Hid (collB coll true po ks = false) := Lib.hid (by unfold collB; rw [HL.out]; simp [h2])
        have e2 : decide (coll < n) = false := by simpa using h2
        go_enter Tryd.func42, Tryd.ntmps42
        go_wp2_with fail
        go_ret
        rw [HR.out]
        exact ⟨rfl, ((Upd.refl [] w).alloc _).alloc _⟩
    · have HR : Hid (collB coll true po ks = false) := Lib.hid (by unfold collB; simp [h1])
      have e1 : decide (0 ≤ coll) = false := by simpa using h1
      go_enter Tryd.func42, Tryd.ntmps42
      go_wp2_with fail
      go_ret
      rw [HR.out]
      exact ⟨rfl, ((Upd.refl [] w).alloc _).alloc _⟩
end Go.Proofs.YtblfklnnojhadaaDoor

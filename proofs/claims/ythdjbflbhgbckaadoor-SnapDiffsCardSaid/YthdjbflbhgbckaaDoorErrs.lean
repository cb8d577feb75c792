/-
  errors.Is over the program's own errors (a number, or a place that wraps a number), and the law's 'No': by contracts.
-/
import Derived.Test.YthdjbflbhgbckaaDoorBase
import Derived.Test.YthdjbflbhgbckaaDoorProg
import Derived.Stop.Asserts
import Derived.RowKitTokens
namespace Go.Proofs.YthdjbflbhgbckaaDoor
open Go.RowKit Go.Extern.Stop Go.Stop Go.Extern

/-- The model's entry for a reflectlite type's Comparable. -/
def cmpEntry : Array Value → Sem Value := Extern.ReflectliteType.method fun t => do Extern.Rtype.noPackHeld "Comparable" t; pure (.bool (← typeInfo t).comparable)
theorem errnoTypeOf (v : Value) (w : World) : (Extern.ReflectliteType.typeOf #[.iface 59 v]).run Tryd.prog w = .ok (.iface 120 (.agg #[.pointer (some ⟨1, 59, none⟩)])) w := by kernel_rfl
theorem errnoComparable (w : World) : (cmpEntry #[.agg #[.pointer (some ⟨1, 59, none⟩)]]).run Tryd.prog w = .ok (.bool true) w := by kernel_rfl
theorem errnoComp : (Tryd.prog.info? 59).map (·.comparable) = some true := by kernel_rfl
theorem errnoNoIs (v : Value) (xT : TypeId) (w : World) : (Instr.typeAssert (.iface 59 v) xT 122 true).run Tryd.prog w = .ok (.tuple #[.nilIface, .bool false]) w := run_typeAssert_lacksB Tryd.underlying122 (by kernel_rfl) (by kernel_rfl) v xT w
theorem errnoNoUnwrap (v : Value) (xT : TypeId) (w : World) : (Instr.typeAssert (.iface 59 v) xT 125 true).run Tryd.prog w = .ok (.tuple #[.nilIface, .bool false]) w := run_typeAssert_lacksB Tryd.underlying125 (by kernel_rfl) (by kernel_rfl) v xT w
theorem errnoNoUnwraps (v : Value) (xT : TypeId) (w : World) : (Instr.typeAssert (.iface 59 v) xT 127 true).run Tryd.prog w = .ok (.tuple #[.nilIface, .bool false]) w := run_typeAssert_lacksB Tryd.underlying127 (by kernel_rfl) (by kernel_rfl) v xT w
theorem faultNoIs (v : Value) (xT : TypeId) (w : World) : (Instr.typeAssert (.iface 58 v) xT 122 true).run Tryd.prog w = .ok (.tuple #[.nilIface, .bool false]) w := run_typeAssert_lacksB Tryd.underlying122 (by kernel_rfl) (by kernel_rfl) v xT w
theorem faultHasUnwrap (v : Value) (xT : TypeId) (w : World) : (Instr.typeAssert (.iface 58 v) xT 125 true).run Tryd.prog w = .ok (.tuple #[.iface 58 v, .bool true]) w := run_typeAssert_hasB Tryd.underlying125 (by kernel_rfl) v xT w

set_option maxHeartbeats 1000000 in
/-- errors.Is of two numbers. -/
theorem is_errno (a b : Int) (w : World) :
    Calls Tryd.prog 27 #[.iface 59 (.int .i64 a), .iface 59 (.int .i64 b)] w fun e w' => e = .returned (.bool (a == b)) ∧ w = w' := by
  obtain ⟨i, hi, hcmp⟩ := Option.map_eq_some_iff.1 errnoComp
  have h8 := @run_callFunc_extern Tryd.prog 44 _ Extern.ReflectliteType.typeOf Tryd.func44 (by kernel_rfl) (by kernel_rfl) (by kernel_rfl) (by kernel_rfl)
  have h32 := @run_callFunc_extern Tryd.prog 99 _ cmpEntry Tryd.func99 (by kernel_rfl) (by kernel_rfl) (by kernel_rfl) (by kernel_rfl)
  have tT := errnoTypeOf
  have cT := errnoComparable
  have heq := run_eql_iface_int (P := Tryd.prog) w a b Tryd.underlying26 Tryd.underlying59 hi hcmp
  have n1 := errnoNoIs
  have n2 := errnoNoUnwrap
  have n3 := errnoNoUnwraps
  by_cases hab : a = b
  · subst hab
    have hb : (a == a) = true := by simp
    go_enter Tryd.func27, Tryd.ntmps27
    go_wp2
    refine wp_loop_rounds 1 ?_
    rw [rounds_succ]
    go_wp2
    go_ret
    exact ⟨by rw [hb]; rfl, rfl⟩
  · have hb : (a == b) = false := by simpa using hab
    clear hab
    go_enter Tryd.func27, Tryd.ntmps27
    go_wp2
    refine wp_loop_rounds 1 ?_
    rw [rounds_succ]
    go_wp2
    go_ret
    exact ⟨by rw [hb]; rfl, rfl⟩

set_option maxHeartbeats 1000000 in
/-- errors.Is of a place that wraps a number, and a number. -/
theorem is_fault (g : Nat) (a b : Int) (w : World) (hc : w.cell? ⟨g, 1, none⟩ = some (.int .i64 a)) :
    Calls Tryd.prog 27 #[.iface 58 (.pointer (some ⟨g, 0, none⟩)), .iface 59 (.int .i64 b)] w fun e w' => e = .returned (.bool (a == b)) ∧ w = w' := by
  obtain ⟨i, hi, hcmp⟩ := Option.map_eq_some_iff.1 errnoComp
  have h8 := @run_callFunc_extern Tryd.prog 44 _ Extern.ReflectliteType.typeOf Tryd.func44 (by kernel_rfl) (by kernel_rfl) (by kernel_rfl) (by kernel_rfl)
  have h32 := @run_callFunc_extern Tryd.prog 99 _ cmpEntry Tryd.func99 (by kernel_rfl) (by kernel_rfl) (by kernel_rfl) (by kernel_rfl)
  have tT := errnoTypeOf
  have cT := errnoComparable
  have heq := run_eql_iface_int (P := Tryd.prog) w a b Tryd.underlying26 Tryd.underlying59 hi hcmp
  have hty := run_eql_iface_types (P := Tryd.prog) 58 59 (.pointer (some ⟨g, 0, none⟩)) (.int .i64 b) Tryd.underlying26 (by decide) w
  have n1 := errnoNoIs
  have n2 := errnoNoUnwrap
  have n3 := errnoNoUnwraps
  have m1 := faultNoIs
  have m2 := faultHasUnwrap
  by_cases hab : a = b
  · subst hab
    have hb : (a == a) = true := by simp
    go_enter Tryd.func27, Tryd.ntmps27
    go_wp2
    refine wp_loop_rounds 2 ?_
    rw [rounds_succ]
    go_wp2
    rw [rounds_succ]
    go_wp2
    go_ret
    exact ⟨by rw [hb]; rfl, rfl⟩
  · have hb : (a == b) = false := by simpa using hab
    clear hab
    go_enter Tryd.func27, Tryd.ntmps27
    go_wp2
    refine wp_loop_rounds 2 ?_
    rw [rounds_succ]
    go_wp2
    rw [rounds_succ]
    go_wp2
    go_ret
    exact ⟨by rw [hb]; rfl, rfl⟩
end Go.Proofs.YthdjbflbhgbckaaDoor

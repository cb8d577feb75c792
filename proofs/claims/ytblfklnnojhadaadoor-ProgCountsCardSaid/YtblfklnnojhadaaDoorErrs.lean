/-
  errors.Is over the program's own errors (a number, or a place that wraps a number), and the law's 'No': by contracts.
-/
import Derived.Test.YtblfklnnojhadaaDoorBase
import Derived.Test.YtblfklnnojhadaaDoorProg
import Derived.Stop.Asserts
import Derived.RowKitTokens
namespace Go.Proofs.YtblfklnnojhadaaDoor
open Go.RowKit Go.Extern.Stop Go.Stop Go.Extern

/-- The model's entry for a reflectlite type's Comparable. -/
def cmpEntry : Array Value → Sem Value := Extern.ReflectliteType.method fun t => do Extern.Rtype.noPackHeld "Comparable" t; pure (.bool (← typeInfo t).comparable)
theorem errnoTypeOf (v : Value) (w : World) : (Extern.ReflectliteType.typeOf #[.iface 52 v]).run Tryd.prog w = .ok (.iface 89 (.agg #[.pointer (some ⟨1, 52, none⟩)])) w := by kernel_rfl
theorem errnoComparable (w : World) : (cmpEntry #[.agg #[.pointer (some ⟨1, 52, none⟩)]]).run Tryd.prog w = .ok (.bool true) w := by kernel_rfl
theorem errnoComp : (Tryd.prog.info? 52).map (·.comparable) = some true := by kernel_rfl
theorem errnoNoIs (v : Value) (xT : TypeId) (w : World) : (Instr.typeAssert (.iface 52 v) xT 91 true).run Tryd.prog w = .ok (.tuple #[.nilIface, .bool false]) w := run_typeAssert_lacksB Tryd.underlying91 (by kernel_rfl) (by kernel_rfl) v xT w
theorem errnoNoUnwrap (v : Value) (xT : TypeId) (w : World) : (Instr.typeAssert (.iface 52 v) xT 94 true).run Tryd.prog w = .ok (.tuple #[.nilIface, .bool false]) w := run_typeAssert_lacksB Tryd.underlying94 (by kernel_rfl) (by kernel_rfl) v xT w
theorem errnoNoUnwraps (v : Value) (xT : TypeId) (w : World) : (Instr.typeAssert (.iface 52 v) xT 96 true).run Tryd.prog w = .ok (.tuple #[.nilIface, .bool false]) w := run_typeAssert_lacksB Tryd.underlying96 (by kernel_rfl) (by kernel_rfl) v xT w
theorem faultNoIs (v : Value) (xT : TypeId) (w : World) : (Instr.typeAssert (.iface 51 v) xT 91 true).run Tryd.prog w = .ok (.tuple #[.nilIface, .bool false]) w := run_typeAssert_lacksB Tryd.underlying91 (by kernel_rfl) (by kernel_rfl) v xT w
theorem faultHasUnwrap (v : Value) (xT : TypeId) (w : World) : (Instr.typeAssert (.iface 51 v) xT 94 true).run Tryd.prog w = .ok (.tuple #[.iface 51 v, .bool true]) w := run_typeAssert_hasB Tryd.underlying94 (by kernel_rfl) v xT w

set_option maxHeartbeats 1000000 in
/-- errors.Is of two numbers. -/
theorem is_errno (a b : Int) (w : World) :
    Calls Tryd.prog 31 #[.iface 52 (.int .i64 a), .iface 52 (.int .i64 b)] w fun e w' => e = .returned (.bool (a == b)) ∧ w = w' := by
  obtain ⟨i, hi, hcmp⟩ := Option.map_eq_some_iff.1 errnoComp
  have h8 := @run_callFunc_extern Tryd.prog 45 _ Extern.ReflectliteType.typeOf Tryd.func45 (by kernel_rfl) (by kernel_rfl) (by kernel_rfl) (by kernel_rfl)
  have h32 := @run_callFunc_extern Tryd.prog 98 _ cmpEntry Tryd.func98 (by kernel_rfl) (by kernel_rfl) (by kernel_rfl) (by kernel_rfl)
  have tT := errnoTypeOf
  have cT := errnoComparable
  have heq := run_eql_iface_int (P := Tryd.prog) w a b Tryd.underlying27 Tryd.underlying52 hi hcmp
  have n1 := errnoNoIs
  have n2 := errnoNoUnwrap
  have n3 := errnoNoUnwraps
  by_cases hab : a = b
  · subst hab
    have hb : (a == a) = true := by simp
    go_enter Tryd.func31, Tryd.ntmps31
    go_wp2
    refine wp_loop_rounds 1 ?_
    rw [rounds_succ]
    go_wp2
    go_ret
    exact ⟨by rw [hb]; rfl, rfl⟩
  · have hb : (a == b) = false := by simpa using hab
    clear hab
    go_enter Tryd.func31, Tryd.ntmps31
    go_wp2
    refine wp_loop_rounds 1 ?_
    rw [rounds_succ]
    go_wp2
    go_ret
    exact ⟨by rw [hb]; rfl, rfl⟩

set_option maxHeartbeats 1000000 in
/-- errors.Is of a place that wraps a number, and a number. -/
theorem is_fault (g : Nat) (a b : Int) (w : World) (hc : w.cell? ⟨g, 1, none⟩ = some (.int .i64 a)) :
    Calls Tryd.prog 31 #[.iface 51 (.pointer (some ⟨g, 0, none⟩)), .iface 52 (.int .i64 b)] w fun e w' => e = .returned (.bool (a == b)) ∧ w = w' := by
  obtain ⟨i, hi, hcmp⟩ := Option.map_eq_some_iff.1 errnoComp
  have h8 := @run_callFunc_extern Tryd.prog 45 _ Extern.ReflectliteType.typeOf Tryd.func45 (by kernel_rfl) (by kernel_rfl) (by kernel_rfl) (by kernel_rfl)
  have h32 := @run_callFunc_extern Tryd.prog 98 _ cmpEntry Tryd.func98 (by kernel_rfl) (by kernel_rfl) (by kernel_rfl) (by kernel_rfl)
  have tT := errnoTypeOf
  have cT := errnoComparable
  have heq := run_eql_iface_int (P := Tryd.prog) w a b Tryd.underlying27 Tryd.underlying52 hi hcmp
  have hty := run_eql_iface_types (P := Tryd.prog) 51 52 (.pointer (some ⟨g, 0, none⟩)) (.int .i64 b) Tryd.underlying27 (by decide) w
  have n1 := errnoNoIs
  have n2 := errnoNoUnwrap
  have n3 := errnoNoUnwraps
  have m1 := faultNoIs
  have m2 := faultHasUnwrap
  by_cases hab : a = b
  · subst hab
    have hb : (a == a) = true := by simp
    go_enter Tryd.func31, Tryd.ntmps31
    go_wp2
    refine wp_loop_rounds 2 ?_
    rw [rounds_succ]
    go_wp2
    rw [rounds_succ]
    go_wp2
    go_ret
    exact ⟨by rw [hb]; rfl, rfl⟩
  · have hb : (a == b) = false := by simpa using hab
    clear hab
    go_enter Tryd.func31, Tryd.ntmps31
    go_wp2
    refine wp_loop_rounds 2 ?_
    rw [rounds_succ]
    go_wp2
    rw [rounds_succ]
    go_wp2
    go_ret
    exact ⟨by rw [hb]; rfl, rfl⟩
end Go.Proofs.YtblfklnnojhadaaDoor

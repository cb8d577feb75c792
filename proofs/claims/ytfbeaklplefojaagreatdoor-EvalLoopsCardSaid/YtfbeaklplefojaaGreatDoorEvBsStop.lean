/-
  errors.Is and errors.As at *eval.stop: by contracts.
-/
import Derived.Test.YtfbeaklplefojaaGreatDoorEvB9
set_option linter.unusedVariables false
namespace Go.Proofs.YtfbeaklplefojaaGreatDoor.Stp
open Go.RowKit Go.Extern.Stop Go.Stop Go.Extern

theorem stopNoIs (v : Value) (xT : TypeId) (w : World) : (Instr.typeAssert (.iface 106 v) xT 148 true).run Tryz.prog w = .ok (.tuple #[.nilIface, .bool false]) w := run_typeAssert_lacksB Tryz.underlying148 (by kernel_rfl) (by kernel_rfl) v xT w
theorem stopHasUnwrap (v : Value) (xT : TypeId) (w : World) : (Instr.typeAssert (.iface 106 v) xT 151 true).run Tryz.prog w = .ok (.tuple #[.iface 106 v, .bool true]) w := run_typeAssert_hasB Tryz.underlying151 (by kernel_rfl) v xT w

set_option maxHeartbeats 1000000 in
/-- errors.Is of a place that wraps a number, and a number. -/
theorem is_stop (g : Nat) (a b : Int) (w : World) (hc : w.cell? ⟨g, 1, none⟩ = some (.int .i64 a)) :
    Calls Tryz.prog 27 #[.iface 106 (.pointer (some ⟨g, 0, none⟩)), .iface 63 (.int .i64 b)] w fun e w' => e = .returned (.bool (a == b)) ∧ w = w' := by
  obtain ⟨i, hi, hcmp⟩ := Option.map_eq_some_iff.1 errnoComp
  have h8 := @run_callFunc_extern Tryz.prog 47 _ Extern.ReflectliteType.typeOf Tryz.func47 (by kernel_rfl) (by kernel_rfl) (by kernel_rfl) (by kernel_rfl)
  have h32 := @run_callFunc_extern Tryz.prog 132 _ cmpEntry Tryz.func132 (by kernel_rfl) (by kernel_rfl) (by kernel_rfl) (by kernel_rfl)
  have tT := errnoTypeOf
  have cT := errnoComparable
  have heq := run_eql_iface_int (P := Tryz.prog) w a b Tryz.underlying34 Tryz.underlying63 hi hcmp
  have hty := run_eql_iface_types (P := Tryz.prog) 106 63 (.pointer (some ⟨g, 0, none⟩)) (.int .i64 b) Tryz.underlying34 (by decide) w
  have n1 := errnoNoIs
  have n2 := errnoNoUnwrap
  have n3 := errnoNoUnwraps
  have m1 := stopNoIs
  have m2 := stopHasUnwrap
  by_cases hab : a = b
  · subst hab
    have hb : (a == a) = true := by simp
    go_enter Tryz.func27, Tryz.ntmps27
    go_wp2
    refine wp_loop_rounds 2 ?_
    rw [rounds_succ]
    go_wp2
    rw [rounds_succ]
    go_wp2
    go_ret
    exact ⟨by rw [hb]; rfl, rfl⟩
  · have hb : (a == b) = false := by simpa using hab
    clear hab
    go_enter Tryz.func27, Tryz.ntmps27
    go_wp2
    refine wp_loop_rounds 2 ?_
    rw [rounds_succ]
    go_wp2
    rw [rounds_succ]
    go_wp2
    go_ret
    exact ⟨by rw [hb]; rfl, rfl⟩
theorem valueOfPP (t : Addr) (w : World) : (ReflectliteValue.unpack (.iface 111 (.pointer (some t)))).run Tryz.prog w
    = .ok (.agg #[.pointer (some ⟨1, 111, none⟩), .pointer (some ⟨w.heap.size, 0, none⟩), .int .u64 150]) (w.alloc (.cells #[.pointer (some t)] 111)) := by kernel_rfl
theorem typePP (a : Addr) (w : World) : (ReflectliteValue.methodAny (ReflectliteValue.valueError "reflectlite.Value.Type" 0) (fun t _ _ _ => ReflectliteType.toType t) #[.agg #[.pointer (some ⟨1, 111, none⟩), .pointer (some a), .int .u64 150]]).run Tryz.prog w
    = .ok (.iface 146 (.agg #[.pointer (some ⟨1, 111, none⟩)])) w := by kernel_rfl
theorem kindPP (w : World) : (kindEntry #[.pointer (some ⟨1, 111, none⟩)]).run Tryz.prog w = .ok (.int .u8 22) w := by kernel_rfl
theorem kindP (w : World) : (kindEntry #[.pointer (some ⟨1, 106, none⟩)]).run Tryz.prog w = .ok (.int .u8 22) w := by kernel_rfl
theorem partsPP (a : Addr) (w : World) : (ReflectliteValue.parts (.agg #[.pointer (some ⟨1, 111, none⟩), .pointer (some a), .int .u64 150])).run Tryz.prog w = .ok (some (111, a, 150)) w := by kernel_rfl
theorem isNilPP (a p : Addr) (W : World) (ha : W.cell? a = some (.pointer (some p))) :
    (ReflectliteValue.method (ReflectliteValue.valueError "reflectlite.Value.IsNil" 0) ReflectliteValue.isNil #[.agg #[.pointer (some ⟨1, 111, none⟩), .pointer (some a), .int .u64 150]]).run Tryz.prog W = .ok (.bool false) W := by
  rw [rlm]
  simp only [Sem.run_bind, partsPP, Result.andThen]
  simp [ReflectliteValue.isNil, loadVar, isAgg, underlying, Tryz.underlying111, ha, Result.andThen]
theorem elemPP (w : World) : (ReflectliteType.method ReflectliteType.elem #[.agg #[.pointer (some ⟨1, 111, none⟩)]]).run Tryz.prog w = .ok (.iface 146 (.agg #[.pointer (some ⟨1, 106, none⟩)])) w := by kernel_rfl
theorem implementsP (w : World) : (ReflectliteType.relation "Implements" ReflectliteType.implements_ #[.agg #[.pointer (some ⟨1, 106, none⟩)], .iface 146 (.agg #[.pointer (some ⟨1, 34, none⟩)])]).run Tryz.prog w = .ok (.bool true) w := by kernel_rfl
theorem typeOfP (v : Value) (w : World) : (ReflectliteType.typeOf #[.iface 106 v]).run Tryz.prog w = .ok (.iface 146 (.agg #[.pointer (some ⟨1, 106, none⟩)])) w := by kernel_rfl
theorem assignableP (w : World) : (ReflectliteType.relation "AssignableTo" ReflectliteType.assignableTo #[.agg #[.pointer (some ⟨1, 106, none⟩)], .iface 146 (.agg #[.pointer (some ⟨1, 106, none⟩)])]).run Tryz.prog w = .ok (.bool true) w := by kernel_rfl
theorem assignableE (w : World) : (ReflectliteType.relation "AssignableTo" ReflectliteType.assignableTo #[.agg #[.pointer (some ⟨1, 63, none⟩)], .iface 146 (.agg #[.pointer (some ⟨1, 106, none⟩)])]).run Tryz.prog w = .ok (.bool false) w := by kernel_rfl
theorem valueOfP (e : Addr) (w : World) : (ReflectliteValue.unpack (.iface 106 (.pointer (some e)))).run Tryz.prog w
    = .ok (.agg #[.pointer (some ⟨1, 106, none⟩), .pointer (some ⟨w.heap.size, 0, none⟩), .int .u64 150]) (w.alloc (.cells #[.pointer (some e)] 106)) := by kernel_rfl
theorem elemOfPP (w : World) : (Rtype.elem? 111).run Tryz.prog w = .ok (some 106) w := by kernel_rfl
theorem mkP (p : Addr) (w : World) : (ReflectliteValue.mk 106 p ReflectliteValue.flagAddr).run Tryz.prog w = .ok (.agg #[.pointer (some ⟨1, 106, none⟩), .pointer (some p), .int .u64 406]) w := by kernel_rfl
theorem elemVPP (a p : Addr) (W : World) (ha : W.cell? a = some (.pointer (some p))) :
    (ReflectliteValue.method (ReflectliteValue.valueError "reflectlite.Value.Elem" 0) ReflectliteValue.elem #[.agg #[.pointer (some ⟨1, 111, none⟩), .pointer (some a), .int .u64 150]]).run Tryz.prog W
      = .ok (.agg #[.pointer (some ⟨1, 106, none⟩), .pointer (some p), .int .u64 406]) W := by
  rw [rlm]
  simp only [Sem.run_bind, partsPP, Result.andThen]
  simp [ReflectliteValue.elem, loadVar, isAgg, underlying, Tryz.underlying111, ha, Result.andThen, elemOfPP, mkP]
theorem partsPa (a : Addr) (w : World) : (ReflectliteValue.parts (.agg #[.pointer (some ⟨1, 106, none⟩), .pointer (some a), .int .u64 406])).run Tryz.prog w = .ok (some (106, a, 406)) w := by kernel_rfl
theorem partsP (a : Addr) (w : World) : (ReflectliteValue.parts (.agg #[.pointer (some ⟨1, 106, none⟩), .pointer (some a), .int .u64 150])).run Tryz.prog w = .ok (some (106, a, 150)) w := by kernel_rfl
theorem directP (w : World) : (Rtype.directlyAssignable 106 106).run Tryz.prog w = .ok true w := by kernel_rfl
theorem setP (ta b e : Addr) (old : Value) (W : World) (hb : W.cell? b = some (.pointer (some e))) (ht : W.cell? ta = some old) (hf : W.frozen? ta = false) :
    (ReflectliteValue.set #[.agg #[.pointer (some ⟨1, 106, none⟩), .pointer (some ta), .int .u64 406], .agg #[.pointer (some ⟨1, 106, none⟩), .pointer (some b), .int .u64 150]]).run Tryz.prog W
      = .ok (.tuple #[]) (W.setCell ta (.pointer (some e))) := by
  rw [rls]
  simp only [Sem.run_bind, partsPa, partsP, Result.andThen]
  simp [ReflectliteValue.flagAddr, loadVar, isAgg, underlying, Tryz.underlying106, hb, Result.andThen, directP, storeVar, Value.cells, storeCells, Addr.add]
  rw [run_store Tryz.prog W ta _ _ (by rfl)]
  simp [ht, hf]

/-- The blocks that errors.As makes for its own. -/
def asWorld (w : World) (t : Nat) : World := ((w.alloc (.cells #[.pointer (some ⟨t, 0, none⟩)] 111)).alloc (.cells #[.pointer (some ⟨1, 111, none⟩), .pointer (some ⟨w.heap.size, 0, none⟩), .int .u64 150] 138)).alloc (.cells #[.pointer (some ⟨1, 111, none⟩), .pointer (some ⟨w.heap.size, 0, none⟩), .int .u64 150] 138)

set_option maxHeartbeats 4000000 in
/-- errors.As at a place's variable: t is its block. -/
theorem as_stop (g t : Nat) (w : World) (hg : Typed w) (ht0 : Blk w t 106 #[.pointer none]) :
    Calls Tryz.prog 46 #[.iface 106 (.pointer (some ⟨g, 0, none⟩)), .iface 111 (.pointer (some ⟨t, 0, none⟩))] w fun ev w' => ev = .returned (.bool true) ∧ w' = ((asWorld w t).alloc (.cells #[.pointer (some ⟨g, 0, none⟩)] 106)).setCell ⟨t, 0, none⟩ (.pointer (some ⟨g, 0, none⟩)) := by
  have h6 := @run_callFunc_extern Tryz.prog 72 _ (fun args => ReflectliteValue.unpack (args.getD 0 (.tuple #[]))) Tryz.func72 (by kernel_rfl) (by kernel_rfl) (by kernel_rfl) (by kernel_rfl)
  have h7 := @run_callFunc_extern Tryz.prog 73 _ (ReflectliteValue.methodAny (ReflectliteValue.valueError "reflectlite.Value.Type" 0) (fun t _ _ _ => ReflectliteType.toType t)) Tryz.func73 (by kernel_rfl) (by kernel_rfl) (by kernel_rfl) (by kernel_rfl)
  have h8 := @run_callFunc_extern Tryz.prog 74 _ (ReflectliteValue.method (ReflectliteValue.valueError "reflectlite.Value.IsNil" 0) ReflectliteValue.isNil) Tryz.func74 (by kernel_rfl) (by kernel_rfl) (by kernel_rfl) (by kernel_rfl)
  have h27 := @run_callFunc_extern Tryz.prog 119 _ kindEntry Tryz.func119 (by kernel_rfl) (by kernel_rfl) (by kernel_rfl) (by kernel_rfl)
  have h37 := @run_callFunc_extern Tryz.prog 133 _ (ReflectliteType.method ReflectliteType.elem) Tryz.func133 (by kernel_rfl) (by kernel_rfl) (by kernel_rfl) (by kernel_rfl)
  have h38 := @run_callFunc_extern Tryz.prog 134 _ (ReflectliteType.relation "Implements" ReflectliteType.implements_) Tryz.func134 (by kernel_rfl) (by kernel_rfl) (by kernel_rfl) (by kernel_rfl)
  have h10 := @run_callFunc_extern Tryz.prog 47 _ ReflectliteType.typeOf Tryz.func47 (by kernel_rfl) (by kernel_rfl) (by kernel_rfl) (by kernel_rfl)
  have h35 := @run_callFunc_extern Tryz.prog 131 _ (ReflectliteType.relation "AssignableTo" ReflectliteType.assignableTo) Tryz.func131 (by kernel_rfl) (by kernel_rfl) (by kernel_rfl) (by kernel_rfl)
  have h11 := @run_callFunc_extern Tryz.prog 84 _ (ReflectliteValue.method (ReflectliteValue.valueError "reflectlite.Value.Elem" 0) ReflectliteValue.elem) Tryz.func84 (by kernel_rfl) (by kernel_rfl) (by kernel_rfl) (by kernel_rfl)
  have h12 := @run_callFunc_extern Tryz.prog 85 _ ReflectliteValue.set Tryz.func85 (by kernel_rfl) (by kernel_rfl) (by kernel_rfl) (by kernel_rfl)
  have tO := typeOfP
  have a25 := assignableP
  have v25 := valueOfP
  have f6 := valueOfPP
  have f7 := typePP
  have k27 := kindPP
  have k25 := kindP
  have e27 := elemPP
  have i25 := implementsP
  have b0 : Blk ((w.alloc (.cells #[.pointer (some ⟨t, 0, none⟩)] 111)).alloc (.cells #[.pointer (some ⟨1, 111, none⟩), .pointer (some ⟨w.heap.size, 0, none⟩), .int .u64 150] 138)) w.heap.size 111 #[.pointer (some ⟨t, 0, none⟩)] := (Blk.new w _ _).alloc _
  have n8 := isNilPP ⟨w.heap.size, 0, none⟩ ⟨t, 0, none⟩ _ (by rw [b0.cell]; rfl)
  have hg2 := ((hg.upd ((Upd.refl [] w).alloc (.cells #[.pointer (some ⟨t, 0, none⟩)] 111)) (by simp)).upd ((Upd.refl [] _).alloc (.cells #[.pointer (some ⟨1, 111, none⟩), .pointer (some ⟨w.heap.size, 0, none⟩), .int .u64 150] 138)) (by simp)).1
  have b1 : Blk (asWorld w t) w.heap.size 111 #[.pointer (some ⟨t, 0, none⟩)] := b0.alloc _
  have el := elemVPP ⟨w.heap.size, 0, none⟩ ⟨t, 0, none⟩ (asWorld w t) (by rw [b1.cell]; rfl)
  have hT : Blk ((asWorld w t).alloc (.cells #[.pointer (some ⟨g, 0, none⟩)] 106)) t 106 #[.pointer none] := (((ht0.alloc _).alloc _).alloc _).alloc _
  have st := setP ⟨t, 0, none⟩ ⟨w.heap.size + 1 + 1 + 1, 0, none⟩ ⟨g, 0, none⟩ (.pointer none) ((asWorld w t).alloc (.cells #[.pointer (some ⟨g, 0, none⟩)] 106))
    (by have := (Blk.new (asWorld w t) 106 #[.pointer (some ⟨g, 0, none⟩)]).cell 0; simpa [asWorld] using this) (by rw [hT.cell]; rfl) (hT.frozen 0)
  simp only [asWorld] at el st ⊢
  clear hT b0 b1 ht0 hg
  go_enter Tryz.func46, Tryz.ntmps46
  go_wp2
  refine wp_loop_rounds 1 ?_
  rw [rounds_succ]
  go_wp2
  go_ret
  exact ⟨rfl, rfl⟩

set_option maxHeartbeats 4000000 in
/-- errors.As at a bare number: no. -/
theorem as_errno (k : Int) (t : Nat) (w : World) (hg : Typed w) :
    Calls Tryz.prog 46 #[.iface 63 (.int .i64 k), .iface 111 (.pointer (some ⟨t, 0, none⟩))] w fun ev w' => ev = .returned (.bool false) ∧ w' = asWorld w t := by
  have h6 := @run_callFunc_extern Tryz.prog 72 _ (fun args => ReflectliteValue.unpack (args.getD 0 (.tuple #[]))) Tryz.func72 (by kernel_rfl) (by kernel_rfl) (by kernel_rfl) (by kernel_rfl)
  have h7 := @run_callFunc_extern Tryz.prog 73 _ (ReflectliteValue.methodAny (ReflectliteValue.valueError "reflectlite.Value.Type" 0) (fun t _ _ _ => ReflectliteType.toType t)) Tryz.func73 (by kernel_rfl) (by kernel_rfl) (by kernel_rfl) (by kernel_rfl)
  have h8 := @run_callFunc_extern Tryz.prog 74 _ (ReflectliteValue.method (ReflectliteValue.valueError "reflectlite.Value.IsNil" 0) ReflectliteValue.isNil) Tryz.func74 (by kernel_rfl) (by kernel_rfl) (by kernel_rfl) (by kernel_rfl)
  have h27 := @run_callFunc_extern Tryz.prog 119 _ kindEntry Tryz.func119 (by kernel_rfl) (by kernel_rfl) (by kernel_rfl) (by kernel_rfl)
  have h37 := @run_callFunc_extern Tryz.prog 133 _ (ReflectliteType.method ReflectliteType.elem) Tryz.func133 (by kernel_rfl) (by kernel_rfl) (by kernel_rfl) (by kernel_rfl)
  have h38 := @run_callFunc_extern Tryz.prog 134 _ (ReflectliteType.relation "Implements" ReflectliteType.implements_) Tryz.func134 (by kernel_rfl) (by kernel_rfl) (by kernel_rfl) (by kernel_rfl)
  have h10 := @run_callFunc_extern Tryz.prog 47 _ ReflectliteType.typeOf Tryz.func47 (by kernel_rfl) (by kernel_rfl) (by kernel_rfl) (by kernel_rfl)
  have h35 := @run_callFunc_extern Tryz.prog 131 _ (ReflectliteType.relation "AssignableTo" ReflectliteType.assignableTo) Tryz.func131 (by kernel_rfl) (by kernel_rfl) (by kernel_rfl) (by kernel_rfl)
  have tE := errnoTypeOf'
  have aE := assignableE
  have f6 := valueOfPP
  have f7 := typePP
  have k27 := kindPP
  have k25 := kindP
  have e27 := elemPP
  have i25 := implementsP
  have n0 := errnoNoAs
  have n2 := errnoNoUnwrap
  have n3 := errnoNoUnwraps
  have b0 : Blk ((w.alloc (.cells #[.pointer (some ⟨t, 0, none⟩)] 111)).alloc (.cells #[.pointer (some ⟨1, 111, none⟩), .pointer (some ⟨w.heap.size, 0, none⟩), .int .u64 150] 138)) w.heap.size 111 #[.pointer (some ⟨t, 0, none⟩)] := (Blk.new w _ _).alloc _
  have n8 := isNilPP ⟨w.heap.size, 0, none⟩ ⟨t, 0, none⟩ _ (by rw [b0.cell]; rfl)
  have hg2 := ((hg.upd ((Upd.refl [] w).alloc (.cells #[.pointer (some ⟨t, 0, none⟩)] 111)) (by simp)).upd ((Upd.refl [] _).alloc (.cells #[.pointer (some ⟨1, 111, none⟩), .pointer (some ⟨w.heap.size, 0, none⟩), .int .u64 150] 138)) (by simp)).1
  simp only [asWorld]
  clear b0 hg
  go_enter Tryz.func46, Tryz.ntmps46
  go_wp2
  refine wp_loop_rounds 1 ?_
  rw [rounds_succ]
  go_wp2
  go_ret
  exact ⟨rfl, rfl⟩

theorem asWorld_upd (w : World) (t : Nat) : Upd [] w (asWorld w t) := (((Upd.refl [] w).alloc _).alloc _).alloc _

end Go.Proofs.YtfbeaklplefojaaGreatDoor.Stp

/-
  errors.Is over the program's own errors (a number, or a place that wraps a number), and the law's 'No': by contracts.
  The law's 'No': which number an error has.
  Errors as the program makes them: none, a number, a fault at a place; what No says of them.
  trace.tracer: lost.
  trace.tracer: edge.
  What a map of integers holds, as a list by rising keys. No program in sight.
-/
import Derived.Test.YteddiknlcdbhjaaGreatTsB0
import Derived.Test.YteddiknlcdbhjaaGreatProg
import Derived.Stop.Asserts
import Derived.RowKitTokens
import Derived.Test.YteddiknlcdbhjaaGreatTsB9
import Derived.Test.YteddiknlcdbhjaaGreatTsB2
set_option linter.unusedVariables false
namespace Go.Proofs.YteddiknlcdbhjaaGreat
open Go.RowKit Go.Extern.Stop Go.Stop Go.Extern

/-- The model's entry for a reflectlite type's Comparable. -/
def cmpEntry : Array Value → Sem Value := Extern.ReflectliteType.method fun t => do Extern.Rtype.noPackHeld "Comparable" t; pure (.bool (← typeInfo t).comparable)
theorem errnoTypeOf (v : Value) (w : World) : (Extern.ReflectliteType.typeOf #[.iface 69 v]).run Tryz.prog w = .ok (.iface 117 (.agg #[.pointer (some ⟨0, 69, none⟩)])) w := by kernel_rfl
theorem errnoComparable (w : World) : (cmpEntry #[.agg #[.pointer (some ⟨0, 69, none⟩)]]).run Tryz.prog w = .ok (.bool true) w := by kernel_rfl
theorem errnoComp : (Tryz.prog.info? 69).map (·.comparable) = some true := by kernel_rfl
theorem errnoNoIs (v : Value) (xT : TypeId) (w : World) : (Instr.typeAssert (.iface 69 v) xT 119 true).run Tryz.prog w = .ok (.tuple #[.nilIface, .bool false]) w := run_typeAssert_lacksB Tryz.underlying119 (by kernel_rfl) (by kernel_rfl) v xT w
theorem errnoNoUnwrap (v : Value) (xT : TypeId) (w : World) : (Instr.typeAssert (.iface 69 v) xT 122 true).run Tryz.prog w = .ok (.tuple #[.nilIface, .bool false]) w := run_typeAssert_lacksB Tryz.underlying122 (by kernel_rfl) (by kernel_rfl) v xT w
theorem errnoNoUnwraps (v : Value) (xT : TypeId) (w : World) : (Instr.typeAssert (.iface 69 v) xT 123 true).run Tryz.prog w = .ok (.tuple #[.nilIface, .bool false]) w := run_typeAssert_lacksB Tryz.underlying123 (by kernel_rfl) (by kernel_rfl) v xT w
theorem faultNoIs (v : Value) (xT : TypeId) (w : World) : (Instr.typeAssert (.iface 106 v) xT 119 true).run Tryz.prog w = .ok (.tuple #[.nilIface, .bool false]) w := run_typeAssert_lacksB Tryz.underlying119 (by kernel_rfl) (by kernel_rfl) v xT w
theorem faultHasUnwrap (v : Value) (xT : TypeId) (w : World) : (Instr.typeAssert (.iface 106 v) xT 122 true).run Tryz.prog w = .ok (.tuple #[.iface 106 v, .bool true]) w := run_typeAssert_hasB Tryz.underlying122 (by kernel_rfl) v xT w

set_option maxHeartbeats 1000000 in
/-- errors.Is of two numbers. -/
theorem is_errno (a b : Int) (w : World) :
    Calls Tryz.prog 29 #[.iface 69 (.int .i64 a), .iface 69 (.int .i64 b)] w fun e w' => e = .returned (.bool (a == b)) ∧ w = w' := by
  obtain ⟨i, hi, hcmp⟩ := Option.map_eq_some_iff.1 errnoComp
  have h8 := @run_callFunc_extern Tryz.prog 42 _ Extern.ReflectliteType.typeOf Tryz.func42 (by kernel_rfl) (by kernel_rfl) (by kernel_rfl) (by kernel_rfl)
  have h32 := @run_callFunc_extern Tryz.prog 122 _ cmpEntry Tryz.func122 (by kernel_rfl) (by kernel_rfl) (by kernel_rfl) (by kernel_rfl)
  have tT := errnoTypeOf
  have cT := errnoComparable
  have heq := run_eql_iface_int (P := Tryz.prog) w a b Tryz.underlying28 Tryz.underlying69 hi hcmp
  have n1 := errnoNoIs
  have n2 := errnoNoUnwrap
  have n3 := errnoNoUnwraps
  by_cases hab : a = b
  · subst hab
    have hb : (a == a) = true := by simp
    go_enter Tryz.func29, Tryz.ntmps29
    go_wp2
    refine wp_loop_rounds 1 ?_
    rw [rounds_succ]
    go_wp2
    go_ret
    exact ⟨by rw [hb]; rfl, rfl⟩
  · have hb : (a == b) = false := by simpa using hab
    clear hab
    go_enter Tryz.func29, Tryz.ntmps29
    go_wp2
    refine wp_loop_rounds 1 ?_
    rw [rounds_succ]
    go_wp2
    go_ret
    exact ⟨by rw [hb]; rfl, rfl⟩

set_option maxHeartbeats 1000000 in
/-- errors.Is of a place that wraps a number, and a number. -/
theorem is_fault (g : Nat) (a b : Int) (w : World) (hc : w.cell? ⟨g, 1, none⟩ = some (.int .i64 a)) :
    Calls Tryz.prog 29 #[.iface 106 (.pointer (some ⟨g, 0, none⟩)), .iface 69 (.int .i64 b)] w fun e w' => e = .returned (.bool (a == b)) ∧ w = w' := by
  obtain ⟨i, hi, hcmp⟩ := Option.map_eq_some_iff.1 errnoComp
  have h8 := @run_callFunc_extern Tryz.prog 42 _ Extern.ReflectliteType.typeOf Tryz.func42 (by kernel_rfl) (by kernel_rfl) (by kernel_rfl) (by kernel_rfl)
  have h32 := @run_callFunc_extern Tryz.prog 122 _ cmpEntry Tryz.func122 (by kernel_rfl) (by kernel_rfl) (by kernel_rfl) (by kernel_rfl)
  have tT := errnoTypeOf
  have cT := errnoComparable
  have heq := run_eql_iface_int (P := Tryz.prog) w a b Tryz.underlying28 Tryz.underlying69 hi hcmp
  have hty := run_eql_iface_types (P := Tryz.prog) 106 69 (.pointer (some ⟨g, 0, none⟩)) (.int .i64 b) Tryz.underlying28 (by decide) w
  have n1 := errnoNoIs
  have n2 := errnoNoUnwrap
  have n3 := errnoNoUnwraps
  have m1 := faultNoIs
  have m2 := faultHasUnwrap
  by_cases hab : a = b
  · subst hab
    have hb : (a == a) = true := by simp
    go_enter Tryz.func29, Tryz.ntmps29
    go_wp2
    refine wp_loop_rounds 2 ?_
    rw [rounds_succ]
    go_wp2
    rw [rounds_succ]
    go_wp2
    go_ret
    exact ⟨by rw [hb]; rfl, rfl⟩
  · have hb : (a == b) = false := by simpa using hab
    clear hab
    go_enter Tryz.func29, Tryz.ntmps29
    go_wp2
    refine wp_loop_rounds 2 ?_
    rw [rounds_succ]
    go_wp2
    rw [rounds_succ]
    go_wp2
    go_ret
    exact ⟨by rw [hb]; rfl, rfl⟩
end Go.Proofs.YteddiknlcdbhjaaGreat

namespace Go.Proofs.YteddiknlcdbhjaaGreat
open Go.RowKit

theorem no_nil (w : World) : Calls Tryz.prog 11 #[.nilIface] w fun e w' => e = .returned (.int .i64 0) ∧ w = w' := by
  go_enter Tryz.func11, Tryz.ntmps11
  go_wp2_with fail
  go_ret
  exact ⟨rfl, rfl⟩

set_option maxHeartbeats 400000 in
theorem no_errno (k : Int) (h1 : 1 ≤ k) (h2 : k ≤ 17) (w : World) : Calls Tryz.prog 11 #[.iface 69 (.int .i64 k)] w fun e w' => e = .returned (.int .i64 k) ∧ w = w' := by
  go_enter Tryz.func11, Tryz.ntmps11
  go_wp2_with fail
  go_loop [3] (fun n => ∃ j : Int, 1 ≤ j ∧ j ≤ k ∧ n = .int .i64 j) (fun n => (17 - intOf n).toNat)
  case atStart => exact ⟨1, by omega, by omega, rfl⟩
  case round =>
    obtain ⟨j, hj1, hj2, rfl⟩ := hrel
    by_cases hjk : j = k
    · subst hjk
      go_wp2_with ((go_at_call 29); (refine (is_errno _ _ _).mono ?_); (rintro e w' ⟨rfl, rfl⟩); (simp only [beq_self_eq_true]))
      go_ret
      exact ⟨rfl, rfl⟩
    · have hne : (k == j) = false := by simp; omega
      have hlt : j < k := by omega
      clear hjk hj2
      go_wp2_with ((go_at_call 29); (refine (is_errno _ _ _).mono ?_); (rintro e w' ⟨rfl, rfl⟩); (simp only [hne]))
      go_round
      case rel => exact ⟨j + 1, by omega, by omega, rfl⟩
      case measure => simp [intOf]; omega

set_option maxHeartbeats 400000 in
theorem no_fault (g : Nat) (k : Int) (h1 : 1 ≤ k) (h2 : k ≤ 17) (w : World) (hc : w.cell? ⟨g, 1, none⟩ = some (.int .i64 k)) : Calls Tryz.prog 11 #[.iface 106 (.pointer (some ⟨g, 0, none⟩))] w fun e w' => e = .returned (.int .i64 k) ∧ w = w' := by
  go_enter Tryz.func11, Tryz.ntmps11
  go_wp2_with fail
  go_loop [3] (fun n => ∃ j : Int, 1 ≤ j ∧ j ≤ k ∧ n = .int .i64 j) (fun n => (17 - intOf n).toNat)
  case atStart => exact ⟨1, by omega, by omega, rfl⟩
  case round =>
    obtain ⟨j, hj1, hj2, rfl⟩ := hrel
    by_cases hjk : j = k
    · subst hjk
      go_wp2_with ((go_at_call 29); (refine (is_fault _ _ _ _ hc).mono ?_); (rintro e w' ⟨rfl, rfl⟩); (simp only [beq_self_eq_true]))
      go_ret
      exact ⟨rfl, rfl⟩
    · have hne : (k == j) = false := by simp; omega
      have hlt : j < k := by omega
      clear hjk hj2
      go_wp2_with ((go_at_call 29); (refine (is_fault _ _ _ _ hc).mono ?_); (rintro e w' ⟨rfl, rfl⟩); (simp only [hne]))
      go_round
      case rel => exact ⟨j + 1, by omega, by omega, rfl⟩
      case measure => simp [intOf]; omega
end Go.Proofs.YteddiknlcdbhjaaGreat

namespace Go.Proofs.YteddiknlcdbhjaaGreat
open Go.RowKit

/-- An error's value: its number, its place. -/
def ErrV (w : World) (v : Value) (no at_ : Int) : Prop :=
  (v = .nilIface ∧ no = 0 ∧ at_ = 0) ∨ (v = .iface 69 (.int .i64 no) ∧ (1 ≤ no ∧ no ≤ 17) ∧ at_ = 0) ∨
  ∃ g, v = .iface 106 (.pointer (some ⟨g, 0, none⟩)) ∧ Blk w g 108 #[.int .i64 at_, .int .i64 no] ∧ 1 ≤ no ∧ no ≤ 17
theorem ErrV.nil (w : World) : ErrV w .nilIface 0 0 := .inl ⟨rfl, rfl, rfl⟩
theorem ErrV.errno (w : World) (k : Int) (h1 : 1 ≤ k) (h2 : k ≤ 17) : ErrV w (.iface 69 (.int .i64 k)) k 0 := .inr (.inl ⟨rfl, ⟨h1, h2⟩, rfl⟩)
theorem ErrV.fault {w : World} {g : Nat} {no at_ : Int} (h : Blk w g 108 #[.int .i64 at_, .int .i64 no]) (h1 : 1 ≤ no) (h2 : no ≤ 17) : ErrV w (.iface 106 (.pointer (some ⟨g, 0, none⟩))) no at_ := .inr (.inr ⟨g, rfl, h, h1, h2⟩)
theorem ErrV.upd {w w' : World} {v : Value} {no at_ : Int} (h : ErrV w v no at_) (hu : Upd [] w w') : ErrV w' v no at_ := by
  rcases h with h | h | ⟨g, h1, h2, h3⟩
  · exact .inl h
  · exact .inr (.inl h)
  · exact .inr (.inr ⟨g, h1, h2.upd hu (by simp), h3⟩)
theorem no_err {w : World} {v : Value} {no at_ : Int} (h : ErrV w v no at_) : Calls Tryz.prog 11 #[v] w fun e w' => e = .returned (.int .i64 no) ∧ w = w' := by
  rcases h with ⟨rfl, rfl, _⟩ | ⟨rfl, ⟨h1, h2⟩, _⟩ | ⟨g, rfl, hb, h1, h2⟩
  · exact no_nil w
  · exact no_errno no h1 h2 w
  · exact no_fault g no h1 h2 w (hb.cell 1)
end Go.Proofs.YteddiknlcdbhjaaGreat

namespace Go.Proofs.YteddiknlcdbhjaaGreat
open Go Go.RowKit TrP
open Vk (cellIn)
attribute [local go_sem] litStep_value

/-- What is found of a cell that is known. -/
theorem wr_at {w : World} {ρ : Rho} {bw : Nat} {C : Int → Prop} {wr : Int → Int → Option Int} (h : WrM w ρ bw C wr) {c : Int} (hc : C c) : ∃ f n wb m, IMap w .u64 bw f n ∧ f c = some (.map (some wb)) ∧ ρ wb = .wroteC c ∧ IMap w .i64 wb (fun k => (wr c k).map (.int .i64)) m := by
  obtain ⟨h0, f, n, h1, h2, h3⟩ := h
  obtain ⟨v, hv⟩ : ∃ v, f c = some v := by
    cases e : f c with
    | none => exact absurd hc ((h2 c).1 e)
    | some v => exact ⟨v, rfl⟩
  obtain ⟨b', m, rfl, g1, g2⟩ := h3 c v hv
  exact ⟨f, n, b', m, h1, hv, g1, g2⟩
def LostPost (l : List Ev) (w : World) (e : Ending) (w' : World) : Prop := ∃ v, e = .returned v ∧ ErrV w' v (lostE l 0 l).1 (lostE l 0 l).2 ∧ Upd [] w w'
set_option maxRecDepth 100000 in
set_option maxHeartbeats 4000000 in
theorem t_lost (A : Option Addr) (n k : Nat) (ρ : Rho) (B tb : Nat) (b : TB) (fv : Value) (l : List Ev) (T : TC) (w : World) (hs : TrSt w ρ B tb b fv (.slice A n k) T) (hC : T.C = cellIn l) (hwr : T.wr = wroteOf l) (h : Rd encEv w (.slice A n k) l) (hn : l.length = n) (hl : n ≤ 60) :
    Calls Tryz.prog 34 #[.pointer (some ⟨tb, 0, none⟩)] w fun e w' => LostPost l w e w' := by
  have HS := Lib.hid hs
  have H := Lib.hid h
  have HN := Lib.hid hn
  have HC := Lib.hid hC
  have HWR := Lib.hid hwr
  have c6 : w.cell? ⟨tb, 6, none⟩ = some (.slice A n k) := hs.tr.cell 6
  clear h hn hs hC hwr
  go_enter Tryz.func34, Tryz.ntmps34
  go_wp2_with fail
  clear c6
  go_loopw [12] (fun u wr => ∃ i : Nat, u = .int .i64 i ∧ i ≤ n ∧ Hid (lostE l 0 l = lostE l i (l.drop i)) ∧ Hid (Upd [] w wr)) (fun u _ => n - (intOf u).toNat)
  case atStart => exact ⟨0, rfl, by omega, Lib.hid rfl, Lib.hid (.refl _ _)⟩
  case round =>
    obtain ⟨i, rfl, hi, HA, U1⟩ := hrel
    have q3 : (0 : Int) ≤ (i : Int) := by omega
    by_cases hin : i < n
    · obtain ⟨⟨xt, xc, xv, xw⟩, hx⟩ : ∃ x, l[i]? = some x := ⟨_, List.getElem?_eq_getElem (by rw [HN.out]; omega)⟩
      have H1 := Lib.hid (H.out.upd0 U1.out)
      obtain ⟨ad, rfl, hb, hc⟩ := H1.out.at_ hx
      have HX := Lib.hid hx
      have LS := Lib.hid (lostE_step hx)
      have hcell : T.C xc := by
        rw [HC.out]
        exact List.mem_map.2 ⟨_, List.mem_of_getElem? hx, rfl⟩
      have q4 : (i : Int) < (n : Int) := by omega
      have f0 : wr.cell? (ad.add (i * 4)) = some (.int .i64 xt) := hc 0 _ rfl
      have f1 : wr.cell? ⟨(ad.add (i * 4)).block, (ad.add (i * 4)).off + 1, none⟩ = some (.int .u64 xc) := by rw [← add_more]; exact hc 1 _ rfl
      have f2 : wr.cell? ⟨(ad.add (i * 4)).block, (ad.add (i * 4)).off + 2, none⟩ = some (.int .i64 xv) := by rw [← add_more]; exact hc 2 _ rfl
      have f3 : wr.cell? ⟨(ad.add (i * 4)).block, (ad.add (i * 4)).off + 3, none⟩ = some (.bool xw) := by rw [← add_more]; exact hc 3 _ rfl
      clear hx hc
      have X1 : Hid (Blk (wr.alloc (.cells #[.int .i64 xt, .int .u64 xc, .int .i64 xv, .bool xw] 47)) wr.heap.size 47 #[.int .i64 xt, .int .u64 xc, .int .i64 xv, .bool xw]) := Lib.hid (Blk.new wr _ _)
      have V1 : Hid (Upd [] wr (wr.alloc (.cells #[.int .i64 xt, .int .u64 xc, .int .i64 xv, .bool xw] 47))) := Lib.hid ((Upd.refl [] wr).alloc _)
      go_wp2_with fail
      generalize (wr.alloc (.cells #[.int .i64 xt, .int .u64 xc, .int .i64 xv, .bool xw] 47)) = w1 at *
      have U2 := Lib.hid (U1.out.trans V1.out)
      have S1 := Lib.hid (HS.out.upd0 U2.out)
      clear f0 f1 f2 f3
      obtain ⟨fw, nw, wb, wm, iw, hv0, hwb, ib⟩ := wr_at S1.out.wr hcell
      rw [HWR.out] at ib
      obtain ⟨ww, hww⟩ : ∃ ww, wroteOf l xc xv = ww := ⟨_, rfl⟩
      have HWW := Lib.hid hww
      have CF : Hid (∀ W, Upd [] w1.drew W → (W.cell? ⟨tb, 1, none⟩ = some (.map (some b.bw)) ∧ W.cell? ⟨wr.heap.size, 1, none⟩ = some (.int .u64 xc) ∧ W.cell? ⟨wr.heap.size, 2, none⟩ = some (.int .i64 xv)) ∧ (Instr.lookup 60 (.map (some b.bw)) (.int .u64 xc) false).run Tryz.prog W = .ok (.map (some wb)) W ∧ (Instr.lookup 59 (.map (some wb)) (.int .i64 xv) true).run Tryz.prog W = .ok (.tuple #[(ww.map (Value.int .i64)).getD (.int .i64 0), .bool (ww.map (Value.int .i64)).isSome]) W) := Lib.hid (fun W hW => by
        have hu : Upd [] w1 W := (Upd.refl [] w1).drew.trans hW
        refine ⟨⟨(S1.out.tr.upd hu (by simp)).cell 1, (X1.out.upd hu (by simp)).cell 1, (X1.out.upd hu (by simp)).cell 2⟩, ?_, ?_⟩
        · rw [run_lookup_int' Tryz.underlying60 Tryz.underlying45 (Tryz.zeroValue59 W) (iw.upd hu (by simp)) xc, hv0]
          rfl
        · rw [run_lookup_int Tryz.underlying59 Tryz.underlying3 (Tryz.zeroValue3 W) (ib.upd hu (by simp)) xv, HWW.out])
      have LB : Hid (lostB l ⟨xt, xc, xv, xw⟩ = (!xw && decide (0 < xv) && ww.isNone)) := Lib.hid (by unfold lostB; rw [← hww])
      clear hww hwb ib iw hv0
      refine wp_invN [] [] (by kernel_rfl) (by kernel_rfl) (by kernel_rfl) trivial ?_
      with_reducible apply wpV_light
      · simp only [lightOp]
      · intro W hU hF
        have f0 := CF.out W hU
        clear hU hF
        go_simp
        exact rfl
      simp only [Act.put, List.setIfInBounds_toArray, List.set_cons_zero, List.set_cons_succ]
      with_reducible apply wpV_light
      · simp only [lightOp]
      · intro W hU hF
        have f0 := CF.out W hU
        clear hU hF
        go_simp
        exact rfl
      simp only [Act.put, List.setIfInBounds_toArray, List.set_cons_zero, List.set_cons_succ]
      with_reducible apply wpV_light
      · simp only [lightOp]
      · intro W hU hF
        have f0 := CF.out W hU
        clear hU hF
        go_simp
        exact rfl
      simp only [Act.put, List.setIfInBounds_toArray, List.set_cons_zero, List.set_cons_succ]
      with_reducible apply wpV_light
      · simp only [lightOp]
      · intro W hU hF
        have f0 := CF.out W hU
        clear hU hF
        go_simp
        exact rfl
      simp only [Act.put, List.setIfInBounds_toArray, List.set_cons_zero, List.set_cons_succ]
      with_reducible apply wpV_light
      · simp only [lightOp]
      · intro W hU hF
        have f0 := CF.out W hU
        clear hU hF
        go_simp
        exact rfl
      simp only [Act.put, List.setIfInBounds_toArray, List.set_cons_zero, List.set_cons_succ]
      with_reducible apply wpV_light
      · simp only [lightOp]
      · intro W hU hF
        have f0 := CF.out W hU
        clear hU hF
        go_simp
        exact rfl
      simp only [Act.put, List.setIfInBounds_toArray, List.set_cons_zero, List.set_cons_succ]
      with_reducible apply wpV_light
      · simp only [lightOp]
      · intro W hU hF
        have f0 := CF.out W hU
        clear hU hF
        go_simp
        exact rfl
      simp only [Act.put, List.setIfInBounds_toArray, List.set_cons_zero, List.set_cons_succ]
      with_reducible apply wpV_light
      · simp only [lightOp]
      · intro W hU hF
        have f0 := CF.out W hU
        clear hU hF
        go_simp
        exact rfl
      simp only [Act.put, List.setIfInBounds_toArray, List.set_cons_zero, List.set_cons_succ]
      with_reducible apply wpV_light
      · simp only [lightOp]
      · intro W hU hF
        have f0 := CF.out W hU
        clear hU hF
        go_simp
        exact rfl
      simp only [Act.put, List.setIfInBounds_toArray, List.set_cons_zero, List.set_cons_succ]
      with_reducible apply wpV_light
      · simp only [lightOp]
      · intro W hU hF
        have f0 := CF.out W hU
        clear hU hF
        go_simp
        exact rfl
      simp only [Act.put, List.setIfInBounds_toArray, List.set_cons_zero, List.set_cons_succ]
      with_reducible apply wpV_light
      · simp only [lightOp]
      · intro W hU hF
        have f0 := CF.out W hU
        clear hU hF
        go_simp
        exact rfl
      simp only [Act.put, List.setIfInBounds_toArray, List.set_cons_zero, List.set_cons_succ]
      with_reducible apply wpV_light
      · simp only [lightOp]
      · intro W hU hF
        have f0 := CF.out W hU
        clear hU hF
        go_simp
        exact rfl
      simp only [Act.put, List.setIfInBounds_toArray, List.set_cons_zero, List.set_cons_succ]
      with_reducible apply wpV_light
      · simp only [lightOp]
      · intro W hU hF
        have f0 := CF.out W hU
        clear hU hF
        go_simp
        exact rfl
      simp only [Act.put, List.setIfInBounds_toArray, List.set_cons_zero, List.set_cons_succ]
      with_reducible apply wpV_light
      · simp only [lightOp]
      · intro W hU hF
        have f0 := CF.out W hU
        clear hU hF
        go_simp
        exact rfl
      simp only [Act.put, List.setIfInBounds_toArray, List.set_cons_zero, List.set_cons_succ]
      with_reducible apply wpV_light
      · simp only [lightOp]
      · intro W hU hF
        have f0 := CF.out W hU
        clear hU hF
        go_simp
        exact rfl
      simp only [Act.put, List.setIfInBounds_toArray, List.set_cons_zero, List.set_cons_succ]
      refine wpV_end (fun w6 hU _ _ => ?_)
      have U6 : Hid (Upd [] w1 w6) := Lib.hid ((Upd.refl [] w1).drew.trans hU)
      clear hU CF
      refine wpT_end ?_
      have X6 := Lib.hid (X1.out.upd U6.out (by simp))
      have U7 := Lib.hid (U2.out.trans U6.out)
      have d2 : w6.cell? ⟨wr.heap.size, 2, none⟩ = some (.int .i64 xv) := X6.out.cell 2
      have d3 : w6.cell? ⟨wr.heap.size, 3, none⟩ = some (.bool xw) := X6.out.cell 3
      cases xw with
      | true =>
        have HZ : Hid (lostE l 0 l = lostE l (i + 1) (l.drop (i + 1))) := Lib.hid (by rw [HA.out, LS.out, LB.out, if_neg (by simp [LB])])
        go_wp2_with fail
        go_roundw
        case rel => exact ⟨i + 1, by go_num, by omega, HZ, U7⟩
        case measure => simp [intOf]; omega
      | false =>
        by_cases h0 : 0 < xv
        · have e0 : decide (0 < xv) = true := by simpa using h0
          cases ww with
          | some t =>
            have HZ : Hid (lostE l 0 l = lostE l (i + 1) (l.drop (i + 1))) := Lib.hid (by rw [HA.out, LS.out, LB.out, if_neg (by simp [h0])])
            go_wp2_with fail
            go_roundw
            case rel => exact ⟨i + 1, by go_num, by omega, HZ, U7⟩
            case measure => simp [intOf]; omega
          | none =>
            have HE : Hid (lostE l 0 l = (6, (i : Int) + 1)) := Lib.hid (by rw [HA.out, LS.out, LB.out, if_pos (by simp [h0])])
            go_wp2_with fail
            go_ret
            refine ⟨_, rfl, ?_, U7.out.alloc _⟩
            rw [HE.out]
            exact ErrV.fault (Blk.new w6 _ _) (by omega) (by omega)
        · have e0 : decide (0 < xv) = false := by simpa using h0
          have HZ : Hid (lostE l 0 l = lostE l (i + 1) (l.drop (i + 1))) := Lib.hid (by rw [HA.out, LS.out, LB.out, if_neg (by simp [h0])])
          go_wp2_with fail
          go_roundw
          case rel => exact ⟨i + 1, by go_num, by omega, HZ, U7⟩
          case measure => simp [intOf]; omega
    · have : i = n := by omega
      subst this
      have HE : Hid (lostE l 0 l = (0, 0)) := Lib.hid (by rw [HA.out, List.drop_of_length_le (by rw [HN.out]; exact Nat.le_refl _)]; rfl)
      go_wp2_with fail
      go_ret
      refine ⟨_, rfl, ?_, U1.out⟩
      rw [HE.out]
      exact ErrV.nil _
end Go.Proofs.YteddiknlcdbhjaaGreat

namespace Go.Proofs.YteddiknlcdbhjaaGreat
open Go Go.RowKit TrP
attribute [local go_sem] litStep_value

theorem TrSt.setEd {w W : World} {ρ : Rho} {B tb : Nat} {b : TB} {fv sv : Value} {T : TC} (h : TrSt w ρ B tb b fv sv T) (hu : Upd [b.be] w W) {S : List Ed} {n : Nat} (im : KMap W kE b.be (fun e => if e ∈ S then some (.int .i64 1) else none) n) : TrSt W ρ B tb b fv sv { T with S := S } := by
  have hO : UpdP (fun x => x = b.be) w W := UpdP.of_upd hu (fun x hx => by simp at hx; exact .inl hx)
  have ha := Agr.refl w ρ
  have hr : ∀ x, x = b.be → ρ x = .edges := fun x e => by rw [e]; exact h.ed.1
  exact { tr := h.tr.updP hO (fun e => by have := hr _ e; rw [h.rt] at this; cases this), rt := h.rt, tx := h.tx.fr hO ha (fun x hx => by rw [hr x hx]; simp), wr := h.wr.fr hO ha (fun x hx => by rw [hr x hx]; simp), rd := h.rd.fr hO ha (fun x hx => by rw [hr x hx]; simp), ed := ⟨h.ed.1, n, im⟩, ld := h.ld.fr hO ha (fun x hx => by rw [hr x hx]; simp), hi := h.hi }
def EdgePost (ρ : Rho) (B tb : Nat) (b : TB) (fv sv : Value) (T : TC) (x : Ed) (w : World) (e : Ending) (w' : World) : Prop := e = .returned (.tuple #[]) ∧ ∃ S', TrSt w' ρ B tb b fv sv { T with S := S' } ∧ (∀ y, y ∈ S' ↔ y ∈ T.S ∨ y = x ∧ x.1 ≠ x.2.1) ∧ Upd [b.be] w w'
set_option maxRecDepth 100000 in
set_option maxHeartbeats 1000000 in
theorem t_edge (ρ : Rho) (B tb : Nat) (b : TB) (fv sv : Value) (T : TC) (x : Ed) (w : World) (h : TrSt w ρ B tb b fv sv T) :
    Calls Tryz.prog 50 #[.pointer (some ⟨tb, 0, none⟩), .int .i64 x.1, .int .i64 x.2.1, .int .i64 x.2.2] w fun e w' => EdgePost ρ B tb b fv sv T x w e w' := by
  obtain ⟨x0, x1, x2⟩ := x
  have HS := Lib.hid h
  clear h
  go_enter Tryz.func50, Tryz.ntmps50
  by_cases h01 : x0 = x1
  · subst h01
    go_wp2_with fail
    go_end0
    exact ⟨rfl, T.S, HS.out, fun y => by simp, .refl _ _⟩
  · have d : (x0 != x1) = true := by simpa using h01
    have H01 := Lib.hid h01
    obtain ⟨he, n, im⟩ := HS.out.ed
    obtain ⟨w2, hrun, im2, hu2⟩ := run_mapUpdate_k (P := Tryz.prog) Tryz.underlying62 klaw_edge im (x0, x1, x2) (.int .i64 1)
    have IM2 := Lib.hid im2
    have HU2 := Lib.hid hu2
    have hrun2 : (Instr.mapUpdate 62 (.map (some b.be)) (.agg #[.int .i64 x0, .int .i64 x1, .int .i64 x2]) (.int .i64 1)).run Tryz.prog w = .ok () w2 := hrun
    have c3 : w.cell? ⟨tb, 3, none⟩ = some (.map (some b.be)) := HS.out.tr.cell 3
    clear im2 hu2 im hrun h01
    go_wp2_with fail
    go_end0
    refine ⟨rfl, (x0, x1, x2) :: T.S, HS.out.setEd HU2.out (IM2.out.congr fun e => ?_), fun y => ?_, HU2.out⟩
    · unfold putK
      by_cases e1 : e = (x0, x1, x2)
      · rw [if_pos e1, if_pos (by rw [e1]; simp)]
      · rw [if_neg e1]
        simp [e1]
    · simp only [List.mem_cons]
      constructor
      · rintro (h | h)
        · exact .inr ⟨h, H01.out⟩
        · exact .inl h
      · rintro (h | h)
        · exact .inr h
        · exact .inl h.1
end Go.Proofs.YteddiknlcdbhjaaGreat

namespace Go.Proofs.YteddiknlcdbhjaaGreat
open Go.RowKit Assoc

theorem al_fold (g : Int → Option Int) : ∀ (L : List IEnt), (L.map (·.1)).Nodup → ∃ al : AL, Srt al ∧ al.length = L.length ∧ ∀ k, get al k = if k ∈ L.map (·.1) then some ((g k).getD 0) else none
  | [], _ => ⟨[], Srt.nil, rfl, fun k => rfl⟩
  | p :: L, h => by
    rw [List.map_cons, List.nodup_cons] at h
    obtain ⟨al, h1, h2, h3⟩ := al_fold g L h.2
    refine ⟨put al p.1 ((g p.1).getD 0), srt_put h1 _ _, ?_, fun k => ?_⟩
    · rw [len_put h1, h3, if_neg h.1]
      simp [h2]
    · rw [get_put h1, h3]
      by_cases e : k = p.1
      · subst e; simp
      · rw [if_neg e]
        simp only [List.map_cons, List.mem_cons, e, false_or]
/-- A map of integers as a list that rises. -/
theorem al_of {w : World} {b n : Nat} {g : Int → Option Int} (h : IMap w .i64 b (fun k => (g k).map (.int .i64)) n) : ∃ al : AL, Srt al ∧ al.length = n ∧ (∀ k, mapI al k = (g k).map (.int .i64)) ∧ ∀ k, get al k = g k := by
  obtain ⟨L, c, hr, hf, hn⟩ := h
  obtain ⟨al, h1, h2, h3⟩ := al_fold g L hr.keys
  have key : ∀ k, get al k = g k := fun k => by
    rw [h3]
    have hk : (g k).map (Value.int .i64) = findI L k := hf k
    by_cases hm : k ∈ L.map (·.1)
    · rw [if_pos hm]
      obtain ⟨p, hp, rfl⟩ := List.mem_map.1 hm
      rw [findI_mem hr.keys hp] at hk
      cases hg : g p.1 with
      | none => rw [hg] at hk; cases hk
      | some v => rfl
    · rw [if_neg hm]
      have : findI L k = none := findI_none (fun p hp e => hm (List.mem_map.2 ⟨p, hp, e⟩))
      rw [this] at hk
      cases hg : g k with
      | none => rfl
      | some v => rw [hg] at hk; cases hk
  exact ⟨al, h1, h2.trans hn, fun k => by unfold mapI; rw [key], key⟩
theorem get_keys {al : AL} (h : Srt al) (k : Int) : k ∈ al.map (·.1) ↔ (get al k).isSome = true := by
  constructor
  · intro hk
    obtain ⟨p, hp, rfl⟩ := List.mem_map.1 hk
    rw [get_mem h hp]; rfl
  · intro hk
    obtain ⟨v, hv⟩ := Option.isSome_iff_exists.1 hk
    exact List.mem_map.2 ⟨_, mem_of_get hv, rfl⟩
end Go.Proofs.YteddiknlcdbhjaaGreat

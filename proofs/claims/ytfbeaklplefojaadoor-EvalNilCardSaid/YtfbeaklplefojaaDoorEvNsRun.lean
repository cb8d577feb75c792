/-
  eval.runner: its state in memory; mod, arg, key, value, tell.
-/
import Derived.Test.YtfbeaklplefojaaDoorEvN0
import Derived.Test.YtfbeaklplefojaaDoorEvN6
import Derived.Test.YtfbeaklplefojaaDoorEvNsRightWN
set_option linter.unusedVariables false
namespace Go.Proofs.YtfbeaklplefojaaDoor.Ev
open Go.RowKit Assoc MP
attribute [local go_sem] litStep_value

theorem stopped {p : Prop} (h : Hid p) : p := h.out
/-- The cells of a runner. -/
def runC (sb : Nat) (regs : List Int) (vt : Value) (n : Nat) : Array Value := (.pointer (some ⟨sb, 0, none⟩) :: (regs.map (Value.int .i64) ++ [vt, .int .i64 n])).toArray
section
variable {sb n i : Nat} {regs : List Int} {vt : Value}
theorem runC_s : (runC sb regs vt n)[0]? = some (.pointer (some ⟨sb, 0, none⟩)) := rfl
theorem runC_reg {x : Int} (h : regs[i]? = some x) : (runC sb regs vt n)[1 + i]? = some (.int .i64 x) := by
  have hi : i < regs.length := (List.getElem?_eq_some_iff.1 h).1
  unfold runC
  rw [List.getElem?_toArray, Nat.add_comm, List.getElem?_cons_succ, List.getElem?_append_left (by simpa using hi), List.getElem?_map, h]
  rfl
theorem runC_told (hl : regs.length = 9) : (runC sb regs vt n)[10]? = some vt := by
  unfold runC
  rw [List.getElem?_toArray, List.getElem?_cons_succ, List.getElem?_append_right (by simp [hl]), List.length_map, hl]
  rfl
theorem runC_steps (hl : regs.length = 9) : (runC sb regs vt n)[11]? = some (.int .i64 n) := by
  unfold runC
  rw [List.getElem?_toArray, List.getElem?_cons_succ, List.getElem?_append_right (by simp [hl]), List.length_map, hl]
  rfl
theorem runC_setS (sb' : Nat) : (runC sb regs vt n).setIfInBounds 0 (.pointer (some ⟨sb', 0, none⟩)) = runC sb' regs vt n := by
  unfold runC
  rw [List.setIfInBounds_toArray, List.set_cons_zero]
theorem runC_setR (hi : i < regs.length) (x : Int) : (runC sb regs vt n).setIfInBounds (1 + i) (.int .i64 x) = runC sb (regs.set i x) vt n := by
  unfold runC
  rw [List.setIfInBounds_toArray, Nat.add_comm, List.set_cons_succ, List.set_append_left i _ (by simpa using hi), List.map_set]
theorem runC_setT (hl : regs.length = 9) (vt' : Value) : (runC sb regs vt n).setIfInBounds 10 vt' = runC sb regs vt' n := by
  unfold runC
  rw [List.setIfInBounds_toArray, List.set_cons_succ, List.set_append_right 9 _ (by simp [hl]), List.length_map, hl]
  rfl
theorem runC_setN (hl : regs.length = 9) (n' : Nat) : (runC sb regs vt n).setIfInBounds 11 (.int .i64 n') = runC sb regs vt n' := by
  unfold runC
  rw [List.setIfInBounds_toArray, List.set_cons_succ, List.set_append_right 10 _ (by simp [hl]), List.length_map, hl]
  rfl
end
/-- What a runner's data keep to. -/
structure Ok (ks : List Int) (r : RS) : Prop where
  K : r.s.K = ks
  regs : r.regs.length = 9
  steps : r.steps ≤ 1000
  told : r.told.length ≤ 201 * 1000
def fpR (rb : Nat) (vt : Value) (FM : List Nat) : List Nat := rb :: (vt.ownBlock.toList ++ FM)
/-- Block rb is a runner in blocks from H on. -/
structure RunSt (H rb sb : Nat) (FM : List Nat) (vt : Value) (ks : List Int) (w : World) (r : RS) : Prop where
  blk : Blk w rb 45 (runC sb r.regs vt r.steps)
  mdl : Mdl H sb FM w r.s
  told : w.ownsRow H 3 1 vt r.told.length (r.told.map (Value.int .i64))
  low : H ≤ rb
  rm : rb ∉ FM
  tm : ∀ b, vt.ownBlock = some b → b ∉ FM
  ok : Ok ks r
def Run (H rb : Nat) (F : List Nat) (ks : List Int) (w : World) (r : RS) : Prop := ∃ sb FM vt, F = fpR rb vt FM ∧ RunSt H rb sb FM vt ks w r
section
variable {H rb sb : Nat} {F FM T : List Nat} {vt : Value} {ks : List Int} {w w' : World} {r : RS}
theorem RunSt.tr (h : RunSt H rb sb FM vt ks w r) : ∀ b, vt.ownBlock = some b → b ≠ rb := fun b hb e => by
  subst e
  exact own_type h.told h.blk (by decide) hb
theorem RunSt.upd0 (h : RunSt H rb sb FM vt ks w r) (hu : Upd [] w w') : RunSt H rb sb FM vt ks w' r := ⟨h.blk.upd hu (by simp), h.mdl.upd0 hu, own_upd0 h.told hu, h.low, h.rm, h.tm, h.ok⟩
theorem RunSt.upd (h : RunSt H rb sb FM vt ks w r) (hu : Upd T w w') (hT : ∀ k ∈ fpR rb vt FM, k ∉ T) : RunSt H rb sb FM vt ks w' r :=
  ⟨h.blk.upd hu (hT _ (List.mem_cons_self ..)), h.mdl.upd hu (fun k hk => hT k (by unfold fpR; simp [hk])), own_upd h.told hu (fun b hb => hT b (by unfold fpR; simp [hb])), h.low, h.rm, h.tm, h.ok⟩
theorem RunSt.lt (h : RunSt H rb sb FM vt ks w r) : ∀ k ∈ fpR rb vt FM, H ≤ k ∧ k < w.heap.size := fun k hk => by
  unfold fpR at hk
  rw [List.mem_cons, List.mem_append] at hk
  rcases hk with rfl | hk | hk
  · exact ⟨h.low, h.blk.lt⟩
  · exact own_lt h.told (by simpa using hk)
  · exact h.mdl.lt k hk
theorem Run.upd0 (h : Run H rb F ks w r) (hu : Upd [] w w') : Run H rb F ks w' r := by
  obtain ⟨sb, FM, vt, e, h⟩ := h
  exact ⟨sb, FM, vt, e, h.upd0 hu⟩
theorem Run.upd (h : Run H rb F ks w r) (hu : Upd T w w') (hT : Disj F T) : Run H rb F ks w' r := by
  obtain ⟨sb, FM, vt, rfl, h⟩ := h
  exact ⟨sb, FM, vt, rfl, h.upd hu hT⟩
theorem Run.lt (h : Run H rb F ks w r) : ∀ k ∈ F, H ≤ k ∧ k < w.heap.size := by
  obtain ⟨sb, FM, vt, rfl, h⟩ := h
  exact h.lt
theorem Run.ok (h : Run H rb F ks w r) : Ok ks r := by
  obtain ⟨sb, FM, vt, rfl, h⟩ := h
  exact h.ok
/-- What a walk wants of the runner's block. -/
theorem RunSt.cells (h : RunSt H rb sb FM vt ks w r) : w.cell? ⟨rb, 0, none⟩ = some (.pointer (some ⟨sb, 0, none⟩)) ∧ w.cell? ⟨rb, 10, none⟩ = some vt ∧ w.cell? ⟨rb, 11, none⟩ = some (.int .i64 r.steps) ∧ (∀ i, w.frozen? ⟨rb, i, none⟩ = false) ∧ rb < w.heap.size :=
  ⟨h.blk.cell 0, (h.blk.cell 10).trans (runC_told h.ok.regs), (h.blk.cell 11).trans (runC_steps h.ok.regs), h.blk.frozen, h.blk.lt⟩
theorem RunSt.reg (h : RunSt H rb sb FM vt ks w r) {i : Nat} {x : Int} (hx : r.regs[i]? = some x) : w.cell? ⟨rb, 1 + i, none⟩ = some (.int .i64 x) := (h.blk.cell (1 + i)).trans (runC_reg hx)
end
section
theorem tmod_in (n m : Int) (hm : 0 < m) (hb : m ≤ 1000) : wrap64 (n.tmod m + m) = n.tmod m + m := by
  have h1 : n.tmod m < m := Int.tmod_lt_of_pos n hm
  have h2 : -m < n.tmod m := by
    have := Int.lt_tmod_of_pos n hm
    omega
  unfold wrap64
  omega
theorem modI_rng (n m : Int) (hm : 0 < m) : 0 ≤ modI n m ∧ modI n m < m := by
  unfold modI
  have h2 : -m < n.tmod m := by
    have := Int.lt_tmod_of_pos n hm
    omega
  exact ⟨Int.tmod_nonneg _ (by omega), Int.tmod_lt_of_pos _ hm⟩
set_option maxRecDepth 100000 in
set_option maxHeartbeats 1000000 in
theorem mod_ok (n m : Int) (w : World) (hm : 0 < m) (hb : m ≤ 1000) : Calls Tryd.prog 35 #[.int .i64 n, .int .i64 m] w fun e w' => e = .returned (.int .i64 (modI n m)) ∧ w = w' := by
  have z : ¬ m = 0 := by omega
  have hw := tmod_in n m hm hb
  obtain ⟨x, hx⟩ : ∃ x, modI n m = x := ⟨_, rfl⟩
  have HX : Hid ((n.tmod m + m).tmod m = x) := Lib.hid hx
  rw [hx]
  clear hx
  go_enter Tryd.func35, Tryd.ntmps35
  go_wp2_with fail
  go_ret
  rw [← HX.out]
  exact ⟨rfl, rfl⟩
set_option maxRecDepth 100000 in
set_option maxHeartbeats 1000000 in
theorem arg_ok {H rb : Nat} {F : List Nat} {ks : List Int} {r : RS} (a n : Int) (w : World) (h : Run H rb F ks w r) (ha : 0 ≤ a ∧ a ≤ 8) :
    Calls Tryd.prog 36 #[.pointer (some ⟨rb, 0, none⟩), .agg #[.int .i64 a, .int .i64 n]] w fun e w' => e = .returned (.int .i64 (argV r a n)) ∧ Upd [] w w' := by
  obtain ⟨sb, FM, vt, _, h⟩ := h
  by_cases h0 : a = 0
  · subst h0
    have HR : Hid (argV r 0 n = n) := Lib.hid (if_pos rfl)
    clear h
    go_enter Tryd.func36, Tryd.ntmps36
    go_wp2_with fail
    go_ret
    rw [HR.out]
    exact ⟨rfl, (Upd.refl [] w).alloc _⟩
  · obtain ⟨i, rfl⟩ : ∃ i : Nat, a = i := ⟨a.toNat, by omega⟩
    obtain ⟨x, hx⟩ : ∃ x, r.regs[i]? = some x := ⟨_, List.getElem?_eq_getElem (by rw [h.ok.regs]; omega)⟩
    have HR : Hid (argV r i n = IntKind.i64.wrap (x + n)) := Lib.hid (by unfold argV; rw [if_neg h0, Int.toNat_natCast, List.getD_eq_getElem?_getD, hx]; rfl)
    have d0 : ((i : Int) == 0) = false := by simpa using h0
    have HS := Lib.hid h
    have XB : Hid (Blk (w.alloc (.cells #[.int .i64 i, .int .i64 n] 58)) w.heap.size 58 #[.int .i64 i, .int .i64 n]) := Lib.hid (Blk.new w _ _)
    have UA : Hid (Upd [] w (w.alloc (.cells #[.int .i64 i, .int .i64 n] 58))) := Lib.hid ((Upd.refl [] w).alloc _)
    have HXX := Lib.hid hx
    have q1 : (0 : Int) ≤ (i : Int) := by omega
    have q2 : (i : Int) < 9 := by omega
    have hrb := h.blk.lt
    clear h hx
    go_enter Tryd.func36, Tryd.ntmps36
    go_wp2_with fail
    generalize (w.alloc (.cells #[.int .i64 i, .int .i64 n] 58)) = w1 at *
    have CS : Hid (∀ W, Upd [] w1.drew W → W.cell? ⟨w.heap.size, 0, none⟩ = some (.int .i64 i) ∧ W.cell? ⟨w.heap.size, 1, none⟩ = some (.int .i64 n) ∧ W.cell? ⟨rb, 1 + i, none⟩ = some (.int .i64 x)) := Lib.hid (fun W hW => by
      have hu := (Upd.refl [] w1).drew.trans hW
      exact ⟨(XB.out.upd hu (by simp)).cell 0, (XB.out.upd hu (by simp)).cell 1, (HS.out.upd0 (UA.out.trans hu)).reg HXX.out⟩)
    refine wp_invN [] [] (by kernel_rfl) (by kernel_rfl) (by kernel_rfl) trivial ?_
    with_reducible apply wpV_light
    · simp only [lightOp]
    · intro W hU hF
      have f0 := CS.out W hU
      clear hU hF
      go_simp
      exact rfl
    simp only [Act.put, List.setIfInBounds_toArray, List.set_cons_zero, List.set_cons_succ]
    with_reducible apply wpV_light
    · simp only [lightOp]
    · intro W hU hF
      have f0 := CS.out W hU
      clear hU hF
      go_simp
      exact rfl
    simp only [Act.put, List.setIfInBounds_toArray, List.set_cons_zero, List.set_cons_succ]
    with_reducible apply wpV_light
    · simp only [lightOp]
    · intro W hU hF
      have f0 := CS.out W hU
      clear hU hF
      go_simp
      exact rfl
    simp only [Act.put, List.setIfInBounds_toArray, List.set_cons_zero, List.set_cons_succ]
    with_reducible apply wpV_light
    · simp only [lightOp]
    · intro W hU hF
      have f0 := CS.out W hU
      clear hU hF
      go_simp
      exact rfl
    simp only [Act.put, List.setIfInBounds_toArray, List.set_cons_zero, List.set_cons_succ]
    with_reducible apply wpV_light
    · simp only [lightOp]
    · intro W hU hF
      have f0 := CS.out W hU
      clear hU hF
      go_simp
      exact rfl
    simp only [Act.put, List.setIfInBounds_toArray, List.set_cons_zero, List.set_cons_succ]
    with_reducible apply wpV_light
    · simp only [lightOp]
    · intro W hU hF
      have f0 := CS.out W hU
      clear hU hF
      go_simp
      exact rfl
    simp only [Act.put, List.setIfInBounds_toArray, List.set_cons_zero, List.set_cons_succ]
    with_reducible apply wpV_light
    · simp only [lightOp]
    · intro W hU hF
      have f0 := CS.out W hU
      clear hU hF
      go_simp
      exact rfl
    simp only [Act.put, List.setIfInBounds_toArray, List.set_cons_zero, List.set_cons_succ]
    with_reducible apply wpV_light
    · simp only [lightOp]
    · intro W hU hF
      have f0 := CS.out W hU
      clear hU hF
      go_simp
      exact rfl
    simp only [Act.put, List.setIfInBounds_toArray, List.set_cons_zero, List.set_cons_succ]
    with_reducible apply wpV_light
    · simp only [lightOp]
    · intro W hU hF
      have f0 := CS.out W hU
      clear hU hF
      go_simp
      exact rfl
    simp only [Act.put, List.setIfInBounds_toArray, List.set_cons_zero, List.set_cons_succ]
    with_reducible apply wpV_light
    · simp only [lightOp]
    · intro W hU hF
      have f0 := CS.out W hU
      clear hU hF
      go_simp
      exact rfl
    simp only [Act.put, List.setIfInBounds_toArray, List.set_cons_zero, List.set_cons_succ]
    with_reducible apply wpV_light
    · simp only [lightOp]
    · intro W hU hF
      have f0 := CS.out W hU
      clear hU hF
      go_simp
      exact rfl
    simp only [Act.put, List.setIfInBounds_toArray, List.set_cons_zero, List.set_cons_succ]
    refine wpV_end (fun W hU _ hF => ?_)
    have UX : Hid (Upd [] w W) := Lib.hid (UA.out.trans ((Upd.refl [] w1).drew.trans hU))
    clear hU hF
    refine wpT_end ?_
    go_wp2_with fail
    go_ret
    rw [HR.out]
    exact ⟨rfl, UX.out⟩
set_option maxRecDepth 100000 in
set_option maxHeartbeats 1000000 in
theorem key_ok {H rb : Nat} {F : List Nat} {ks : List Int} {r : RS} (a n : Int) (w : World) (h : Run H rb F ks w r) (ha : 0 ≤ a ∧ a ≤ 8) :
    Calls Tryd.prog 43 #[.pointer (some ⟨rb, 0, none⟩), .agg #[.int .i64 a, .int .i64 n]] w fun e w' => e = .returned (.int .i64 (keyV r a n)) ∧ Upd [] w w' := by
  have HS := Lib.hid h
  have HV : Hid (keyV r a n = modI (argV r a n) 64) := Lib.hid rfl
  have UA : Hid (Upd [] w (w.alloc (.cells #[.int .i64 a, .int .i64 n] 58))) := Lib.hid ((Upd.refl [] w).alloc _)
  clear h
  go_enter Tryd.func43, Tryd.ntmps43
  go_wp2_with fail
  refine (arg_ok a n _ (HS.out.upd0 UA.out) ha).mono ?_
  rintro e w1 ⟨rfl, u1⟩
  have U1 := Lib.hid (UA.out.trans u1)
  clear u1
  go_wp2_with fail
  refine (mod_ok (argV r a n) 64 w1 (by omega) (by omega)).mono ?_
  rintro e w2 ⟨rfl, rfl⟩
  go_wp2_with fail
  go_ret
  rw [HV.out]
  exact ⟨rfl, U1.out⟩
set_option maxRecDepth 100000 in
set_option maxHeartbeats 1000000 in
theorem value_ok {H rb : Nat} {F : List Nat} {ks : List Int} {r : RS} (a n : Int) (w : World) (h : Run H rb F ks w r) (ha : 0 ≤ a ∧ a ≤ 8) :
    Calls Tryd.prog 34 #[.pointer (some ⟨rb, 0, none⟩), .agg #[.int .i64 a, .int .i64 n]] w fun e w' => e = .returned (.int .i64 (valV r a n)) ∧ Upd [] w w' := by
  have HS := Lib.hid h
  have HV : Hid (valV r a n = modI (argV r a n) 1000) := Lib.hid rfl
  have UA : Hid (Upd [] w (w.alloc (.cells #[.int .i64 a, .int .i64 n] 58))) := Lib.hid ((Upd.refl [] w).alloc _)
  clear h
  go_enter Tryd.func34, Tryd.ntmps34
  go_wp2_with fail
  refine (arg_ok a n _ (HS.out.upd0 UA.out) ha).mono ?_
  rintro e w1 ⟨rfl, u1⟩
  have U1 := Lib.hid (UA.out.trans u1)
  clear u1
  go_wp2_with fail
  refine (mod_ok (argV r a n) 1000 w1 (by omega) (by omega)).mono ?_
  rintro e w2 ⟨rfl, rfl⟩
  go_wp2_with fail
  go_ret
  rw [HV.out]
  exact ⟨rfl, U1.out⟩
end
end Go.Proofs.YtfbeaklplefojaaDoor.Ev

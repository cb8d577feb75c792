/-
  eval.runner: its state in memory; mod, arg, key, value, tell.
  eval.runner: tell, list.
-/
import Derived.Test.YtfbeaklplefojaaGreatDoorEvB13
import Derived.Test.YtfbeaklplefojaaGreatDoorEvBsRightWN
import Derived.Test.YtfbeaklplefojaaGreatDoorEvB4
import Derived.Test.YtfbeaklplefojaaGreatDoorEvB6
set_option linter.unusedVariables false
namespace Go.Proofs.YtfbeaklplefojaaGreatDoor.Ev
open Go.RowKit Assoc MP
attribute [local go_sem] litStep_value

theorem stopped {p : Prop} (h : Hid p) : p := h.out
/-- The cells of a runner. -/
def runC (sb : Nat) (regs : List Int) (vt : Value) (n : Nat) : Array Value := (.pointer (some ⟨sb, 0, none⟩) :: (regs.map (Value.int .i64) ++ [vt, .int .i64 n])).toArray
section
variable {sb n i : Nat} {regs : List Int} {vt : Value}
theorem runC_s : (runC sb regs vt n)[0]? = some (.pointer (some ⟨sb, 0, none⟩)) := rfl
theorem runC_reg {x : Int} (h : regs[i]? = some x) : (runC sb regs vt n)[1 + i]? = some (.int .i64 x) := by
  have hi : i < regs.length := (List.getElem?_eq_some_iff.1 h).1
  unfold runC
  rw [List.getElem?_toArray, Nat.add_comm, List.getElem?_cons_succ, List.getElem?_append_left (by simpa using hi), List.getElem?_map, h]
  rfl
theorem runC_told (hl : regs.length = 9) : (runC sb regs vt n)[10]? = some vt := by
  unfold runC
  rw [List.getElem?_toArray, List.getElem?_cons_succ, List.getElem?_append_right (by simp [hl]), List.length_map, hl]
  rfl
theorem runC_steps (hl : regs.length = 9) : (runC sb regs vt n)[11]? = some (.int .i64 n) := by
  unfold runC
  rw [List.getElem?_toArray, List.getElem?_cons_succ, List.getElem?_append_right (by simp [hl]), List.length_map, hl]
  rfl
theorem runC_setS (sb' : Nat) : (runC sb regs vt n).setIfInBounds 0 (.pointer (some ⟨sb', 0, none⟩)) = runC sb' regs vt n := by
  unfold runC
  rw [List.setIfInBounds_toArray, List.set_cons_zero]
theorem runC_setR (hi : i < regs.length) (x : Int) : (runC sb regs vt n).setIfInBounds (1 + i) (.int .i64 x) = runC sb (regs.set i x) vt n := by
  unfold runC
  rw [List.setIfInBounds_toArray, Nat.add_comm, List.set_cons_succ, List.set_append_left i _ (by simpa using hi), List.map_set]
theorem runC_setT (hl : regs.length = 9) (vt' : Value) : (runC sb regs vt n).setIfInBounds 10 vt' = runC sb regs vt' n := by
  unfold runC
  rw [List.setIfInBounds_toArray, List.set_cons_succ, List.set_append_right 9 _ (by simp [hl]), List.length_map, hl]
  rfl
theorem runC_setN (hl : regs.length = 9) (n' : Nat) : (runC sb regs vt n).setIfInBounds 11 (.int .i64 n') = runC sb regs vt n' := by
  unfold runC
  rw [List.setIfInBounds_toArray, List.set_cons_succ, List.set_append_right 10 _ (by simp [hl]), List.length_map, hl]
  rfl
end
/-- What a runner's data keep to. -/
structure Ok (ks : List Int) (r : RS) : Prop where
  K : r.s.K = ks
  regs : r.regs.length = 9
  steps : r.steps ≤ 1000
  told : r.told.length ≤ 201 * 1000
def fpR (rb : Nat) (vt : Value) (FM : List Nat) : List Nat := rb :: (vt.ownBlock.toList ++ FM)
/-- Block rb is a runner in blocks from H on. -/
structure RunSt (H rb sb : Nat) (FM : List Nat) (vt : Value) (ks : List Int) (w : World) (r : RS) : Prop where
  blk : Blk w rb 69 (runC sb r.regs vt r.steps)
  mdl : Mdl H sb FM w r.s
  told : w.ownsRow H 3 1 vt r.told.length (r.told.map (Value.int .i64))
  low : H ≤ rb
  rm : rb ∉ FM
  tm : ∀ b, vt.ownBlock = some b → b ∉ FM
  ok : Ok ks r
def Run (H rb : Nat) (F : List Nat) (ks : List Int) (w : World) (r : RS) : Prop := ∃ sb FM vt, F = fpR rb vt FM ∧ RunSt H rb sb FM vt ks w r
section
variable {H rb sb : Nat} {F FM T : List Nat} {vt : Value} {ks : List Int} {w w' : World} {r : RS}
theorem RunSt.tr (h : RunSt H rb sb FM vt ks w r) : ∀ b, vt.ownBlock = some b → b ≠ rb := fun b hb e => by
  subst e
  exact own_type h.told h.blk (by decide) hb
theorem RunSt.upd0 (h : RunSt H rb sb FM vt ks w r) (hu : Upd [] w w') : RunSt H rb sb FM vt ks w' r := ⟨h.blk.upd hu (by simp), h.mdl.upd0 hu, own_upd0 h.told hu, h.low, h.rm, h.tm, h.ok⟩
theorem RunSt.upd (h : RunSt H rb sb FM vt ks w r) (hu : Upd T w w') (hT : ∀ k ∈ fpR rb vt FM, k ∉ T) : RunSt H rb sb FM vt ks w' r :=
  ⟨h.blk.upd hu (hT _ (List.mem_cons_self ..)), h.mdl.upd hu (fun k hk => hT k (by unfold fpR; simp [hk])), own_upd h.told hu (fun b hb => hT b (by unfold fpR; simp [hb])), h.low, h.rm, h.tm, h.ok⟩
theorem RunSt.lt (h : RunSt H rb sb FM vt ks w r) : ∀ k ∈ fpR rb vt FM, H ≤ k ∧ k < w.heap.size := fun k hk => by
  unfold fpR at hk
  rw [List.mem_cons, List.mem_append] at hk
  rcases hk with rfl | hk | hk
  · exact ⟨h.low, h.blk.lt⟩
  · exact own_lt h.told (by simpa using hk)
  · exact h.mdl.lt k hk
theorem Run.upd0 (h : Run H rb F ks w r) (hu : Upd [] w w') : Run H rb F ks w' r := by
  obtain ⟨sb, FM, vt, e, h⟩ := h
  exact ⟨sb, FM, vt, e, h.upd0 hu⟩
theorem Run.upd (h : Run H rb F ks w r) (hu : Upd T w w') (hT : Disj F T) : Run H rb F ks w' r := by
  obtain ⟨sb, FM, vt, rfl, h⟩ := h
  exact ⟨sb, FM, vt, rfl, h.upd hu hT⟩
theorem Run.lt (h : Run H rb F ks w r) : ∀ k ∈ F, H ≤ k ∧ k < w.heap.size := by
  obtain ⟨sb, FM, vt, rfl, h⟩ := h
  exact h.lt
theorem Run.ok (h : Run H rb F ks w r) : Ok ks r := by
  obtain ⟨sb, FM, vt, rfl, h⟩ := h
  exact h.ok
/-- What a walk wants of the runner's block. -/
theorem RunSt.cells (h : RunSt H rb sb FM vt ks w r) : w.cell? ⟨rb, 0, none⟩ = some (.pointer (some ⟨sb, 0, none⟩)) ∧ w.cell? ⟨rb, 10, none⟩ = some vt ∧ w.cell? ⟨rb, 11, none⟩ = some (.int .i64 r.steps) ∧ (∀ i, w.frozen? ⟨rb, i, none⟩ = false) ∧ rb < w.heap.size :=
  ⟨h.blk.cell 0, (h.blk.cell 10).trans (runC_told h.ok.regs), (h.blk.cell 11).trans (runC_steps h.ok.regs), h.blk.frozen, h.blk.lt⟩
theorem RunSt.reg (h : RunSt H rb sb FM vt ks w r) {i : Nat} {x : Int} (hx : r.regs[i]? = some x) : w.cell? ⟨rb, 1 + i, none⟩ = some (.int .i64 x) := (h.blk.cell (1 + i)).trans (runC_reg hx)
end
section
theorem tmod_in (n m : Int) (hm : 0 < m) (hb : m ≤ 1000) : wrap64 (n.tmod m + m) = n.tmod m + m := by
  have h1 : n.tmod m < m := Int.tmod_lt_of_pos n hm
  have h2 : -m < n.tmod m := by
    have := Int.lt_tmod_of_pos n hm
    omega
  unfold wrap64
  omega
theorem modI_rng (n m : Int) (hm : 0 < m) : 0 ≤ modI n m ∧ modI n m < m := by
  unfold modI
  have h2 : -m < n.tmod m := by
    have := Int.lt_tmod_of_pos n hm
    omega
  exact ⟨Int.tmod_nonneg _ (by omega), Int.tmod_lt_of_pos _ hm⟩
set_option maxRecDepth 100000 in
set_option maxHeartbeats 1000000 in
theorem mod_ok (n m : Int) (w : World) (hm : 0 < m) (hb : m ≤ 1000) : Calls Tryz.prog 67 #[.int .i64 n, .int .i64 m] w fun e w' => e = .returned (.int .i64 (modI n m)) ∧ w = w' := by
  have z : ¬ m = 0 := by omega
  have hw := tmod_in n m hm hb
  obtain ⟨x, hx⟩ : ∃ x, modI n m = x := ⟨_, rfl⟩
  have HX : Hid ((n.tmod m + m).tmod m = x) := Lib.hid hx
  rw [hx]
  clear hx
  go_enter Tryz.func67, Tryz.ntmps67
  go_wp2_with fail
  go_ret
  rw [← HX.out]
  exact ⟨rfl, rfl⟩
set_option maxRecDepth 100000 in
set_option maxHeartbeats 1000000 in
theorem arg_ok {H rb : Nat} {F : List Nat} {ks : List Int} {r : RS} (a n : Int) (w : World) (h : Run H rb F ks w r) (ha : 0 ≤ a ∧ a ≤ 8) :
    Calls Tryz.prog 68 #[.pointer (some ⟨rb, 0, none⟩), .agg #[.int .i64 a, .int .i64 n]] w fun e w' => e = .returned (.int .i64 (argV r a n)) ∧ Upd [] w w' := by
  obtain ⟨sb, FM, vt, _, h⟩ := h
  by_cases h0 : a = 0
  · subst h0
    have HR : Hid (argV r 0 n = n) := Lib.hid (if_pos rfl)
    clear h
    go_enter Tryz.func68, Tryz.ntmps68
    go_wp2_with fail
    go_ret
    rw [HR.out]
    exact ⟨rfl, (Upd.refl [] w).alloc _⟩
  · obtain ⟨i, rfl⟩ : ∃ i : Nat, a = i := ⟨a.toNat, by omega⟩
    obtain ⟨x, hx⟩ : ∃ x, r.regs[i]? = some x := ⟨_, List.getElem?_eq_getElem (by rw [h.ok.regs]; omega)⟩
    have HR : Hid (argV r i n = IntKind.i64.wrap (x + n)) := Lib.hid (by unfold argV; rw [if_neg h0, Int.toNat_natCast, List.getD_eq_getElem?_getD, hx]; rfl)
    have d0 : ((i : Int) == 0) = false := by simpa using h0
    have HS := Lib.hid h
    have XB : Hid (Blk (w.alloc (.cells #[.int .i64 i, .int .i64 n] 38)) w.heap.size 38 #[.int .i64 i, .int .i64 n]) := Lib.hid (Blk.new w _ _)
    have UA : Hid (Upd [] w (w.alloc (.cells #[.int .i64 i, .int .i64 n] 38))) := Lib.hid ((Upd.refl [] w).alloc _)
    have HXX := Lib.hid hx
    have q1 : (0 : Int) ≤ (i : Int) := by omega
    have q2 : (i : Int) < 9 := by omega
    have hrb := h.blk.lt
    clear h hx
    go_enter Tryz.func68, Tryz.ntmps68
    go_wp2_with fail
    generalize (w.alloc (.cells #[.int .i64 i, .int .i64 n] 38)) = w1 at *
    have CS : Hid (∀ W, Upd [] w1.drew W → W.cell? ⟨w.heap.size, 0, none⟩ = some (.int .i64 i) ∧ W.cell? ⟨w.heap.size, 1, none⟩ = some (.int .i64 n) ∧ W.cell? ⟨rb, 1 + i, none⟩ = some (.int .i64 x)) := Lib.hid (fun W hW => by
      have hu := (Upd.refl [] w1).drew.trans hW
      exact ⟨(XB.out.upd hu (by simp)).cell 0, (XB.out.upd hu (by simp)).cell 1, (HS.out.upd0 (UA.out.trans hu)).reg HXX.out⟩)
    refine wp_invN [] [] (by kernel_rfl) (by kernel_rfl) (by kernel_rfl) trivial ?_
    with_reducible apply wpV_light
    · simp only [lightOp]
    · intro W hU hF
      have f0 := CS.out W hU
      clear hU hF
      go_simp
      exact rfl
    simp only [Act.put, List.setIfInBounds_toArray, List.set_cons_zero, List.set_cons_succ]
    with_reducible apply wpV_light
    · simp only [lightOp]
    · intro W hU hF
      have f0 := CS.out W hU
      clear hU hF
      go_simp
      exact rfl
    simp only [Act.put, List.setIfInBounds_toArray, List.set_cons_zero, List.set_cons_succ]
    with_reducible apply wpV_light
    · simp only [lightOp]
    · intro W hU hF
      have f0 := CS.out W hU
      clear hU hF
      go_simp
      exact rfl
    simp only [Act.put, List.setIfInBounds_toArray, List.set_cons_zero, List.set_cons_succ]
    with_reducible apply wpV_light
    · simp only [lightOp]
    · intro W hU hF
      have f0 := CS.out W hU
      clear hU hF
      go_simp
      exact rfl
    simp only [Act.put, List.setIfInBounds_toArray, List.set_cons_zero, List.set_cons_succ]
    with_reducible apply wpV_light
    · simp only [lightOp]
    · intro W hU hF
      have f0 := CS.out W hU
      clear hU hF
      go_simp
      exact rfl
    simp only [Act.put, List.setIfInBounds_toArray, List.set_cons_zero, List.set_cons_succ]
    with_reducible apply wpV_light
    · simp only [lightOp]
    · intro W hU hF
      have f0 := CS.out W hU
      clear hU hF
      go_simp
      exact rfl
    simp only [Act.put, List.setIfInBounds_toArray, List.set_cons_zero, List.set_cons_succ]
    with_reducible apply wpV_light
    · simp only [lightOp]
    · intro W hU hF
      have f0 := CS.out W hU
      clear hU hF
      go_simp
      exact rfl
    simp only [Act.put, List.setIfInBounds_toArray, List.set_cons_zero, List.set_cons_succ]
    with_reducible apply wpV_light
    · simp only [lightOp]
    · intro W hU hF
      have f0 := CS.out W hU
      clear hU hF
      go_simp
      exact rfl
    simp only [Act.put, List.setIfInBounds_toArray, List.set_cons_zero, List.set_cons_succ]
    with_reducible apply wpV_light
    · simp only [lightOp]
    · intro W hU hF
      have f0 := CS.out W hU
      clear hU hF
      go_simp
      exact rfl
    simp only [Act.put, List.setIfInBounds_toArray, List.set_cons_zero, List.set_cons_succ]
    with_reducible apply wpV_light
    · simp only [lightOp]
    · intro W hU hF
      have f0 := CS.out W hU
      clear hU hF
      go_simp
      exact rfl
    simp only [Act.put, List.setIfInBounds_toArray, List.set_cons_zero, List.set_cons_succ]
    with_reducible apply wpV_light
    · simp only [lightOp]
    · intro W hU hF
      have f0 := CS.out W hU
      clear hU hF
      go_simp
      exact rfl
    simp only [Act.put, List.setIfInBounds_toArray, List.set_cons_zero, List.set_cons_succ]
    refine wpV_end (fun W hU _ hF => ?_)
    have UX : Hid (Upd [] w W) := Lib.hid (UA.out.trans ((Upd.refl [] w1).drew.trans hU))
    clear hU hF
    refine wpT_end ?_
    go_wp2_with fail
    go_ret
    rw [HR.out]
    exact ⟨rfl, UX.out⟩
set_option maxRecDepth 100000 in
set_option maxHeartbeats 1000000 in
theorem key_ok {H rb : Nat} {F : List Nat} {ks : List Int} {r : RS} (a n : Int) (w : World) (h : Run H rb F ks w r) (ha : 0 ≤ a ∧ a ≤ 8) :
    Calls Tryz.prog 81 #[.pointer (some ⟨rb, 0, none⟩), .agg #[.int .i64 a, .int .i64 n]] w fun e w' => e = .returned (.int .i64 (keyV r a n)) ∧ Upd [] w w' := by
  have HS := Lib.hid h
  have HV : Hid (keyV r a n = modI (argV r a n) 64) := Lib.hid rfl
  have UA : Hid (Upd [] w (w.alloc (.cells #[.int .i64 a, .int .i64 n] 38))) := Lib.hid ((Upd.refl [] w).alloc _)
  clear h
  go_enter Tryz.func81, Tryz.ntmps81
  go_wp2_with fail
  refine (arg_ok a n _ (HS.out.upd0 UA.out) ha).mono ?_
  rintro e w1 ⟨rfl, u1⟩
  have U1 := Lib.hid (UA.out.trans u1)
  clear u1
  go_wp2_with fail
  refine (mod_ok (argV r a n) 64 w1 (by omega) (by omega)).mono ?_
  rintro e w2 ⟨rfl, rfl⟩
  go_wp2_with fail
  go_ret
  rw [HV.out]
  exact ⟨rfl, U1.out⟩
set_option maxRecDepth 100000 in
set_option maxHeartbeats 1000000 in
theorem value_ok {H rb : Nat} {F : List Nat} {ks : List Int} {r : RS} (a n : Int) (w : World) (h : Run H rb F ks w r) (ha : 0 ≤ a ∧ a ≤ 8) :
    Calls Tryz.prog 66 #[.pointer (some ⟨rb, 0, none⟩), .agg #[.int .i64 a, .int .i64 n]] w fun e w' => e = .returned (.int .i64 (valV r a n)) ∧ Upd [] w w' := by
  have HS := Lib.hid h
  have HV : Hid (valV r a n = modI (argV r a n) 1000) := Lib.hid rfl
  have UA : Hid (Upd [] w (w.alloc (.cells #[.int .i64 a, .int .i64 n] 38))) := Lib.hid ((Upd.refl [] w).alloc _)
  clear h
  go_enter Tryz.func66, Tryz.ntmps66
  go_wp2_with fail
  refine (arg_ok a n _ (HS.out.upd0 UA.out) ha).mono ?_
  rintro e w1 ⟨rfl, u1⟩
  have U1 := Lib.hid (UA.out.trans u1)
  clear u1
  go_wp2_with fail
  refine (mod_ok (argV r a n) 1000 w1 (by omega) (by omega)).mono ?_
  rintro e w2 ⟨rfl, rfl⟩
  go_wp2_with fail
  go_ret
  rw [HV.out]
  exact ⟨rfl, U1.out⟩
end
end Go.Proofs.YtfbeaklplefojaaGreatDoor.Ev

namespace Go.Proofs.YtfbeaklplefojaaGreatDoor.Ev
open Go.RowKit Assoc MP
attribute [local go_sem] litStep_value

abbrev ints (l : List Int) : List Value := l.map (Value.int .i64)
section
variable {H rb sb : Nat} {F FM T : List Nat} {vt : Value} {ks : List Int} {w w' : World} {r : RS}
/-- A register is set. -/
theorem RunSt.setR (h : RunSt H rb sb FM vt ks w r) {i : Nat} (hi : i < 9) (x : Int) : RunSt H rb sb FM vt ks (w.setCell ⟨rb, 1 + i, none⟩ (.int .i64 x)) { r with regs := r.regs.set i x } := by
  have hu : Upd [rb] w (w.setCell ⟨rb, 1 + i, none⟩ (.int .i64 x)) := Upd.setCell (p := ⟨rb, 1 + i, none⟩) (.refl _ _) (.inl (by simp)) _
  exact ⟨h.blk.set_eq (runC_setR (by rw [h.ok.regs]; exact hi) x), h.mdl.upd hu (fun k hk => by simp; rintro rfl; exact h.rm hk), own_upd h.told hu (fun b hb => by simpa using h.tr b hb), h.low, h.rm, h.tm, ⟨h.ok.K, by simp [h.ok.regs], h.ok.steps, h.ok.told⟩⟩
theorem RunSt.setN (h : RunSt H rb sb FM vt ks w r) {n : Nat} (hn : n ≤ 1000) : RunSt H rb sb FM vt ks (w.setCell ⟨rb, 11, none⟩ (.int .i64 n)) { r with steps := n } := by
  have hu : Upd [rb] w (w.setCell ⟨rb, 11, none⟩ (.int .i64 n)) := Upd.setCell (p := ⟨rb, 11, none⟩) (.refl _ _) (.inl (by simp)) _
  exact ⟨h.blk.set_eq (runC_setN h.ok.regs n), h.mdl.upd hu (fun k hk => by simp; rintro rfl; exact h.rm hk), own_upd h.told hu (fun b hb => by simpa using h.tr b hb), h.low, h.rm, h.tm, ⟨h.ok.K, h.ok.regs, hn, h.ok.told⟩⟩
theorem frm_rb (o : Nat) (v : Value) : Frm (fpR rb vt FM) (fpR rb vt FM) w (w.setCell ⟨rb, o, none⟩ v) :=
  ⟨Upd.setCell (p := ⟨rb, o, none⟩) (.refl _ _) (.inl (List.mem_cons_self ..)) _, fun k hk => .inl hk⟩
/-- More is told. -/
theorem RunSt.push (h : RunSt H rb sb FM vt ks w r) {w1 w5 : World} {v5 : Value} {news : List Int} {m : Nat} (u1 : Upd [] w w1) (o5 : w5.ownsRow H 3 1 v5 (r.told.length + m) (ints r.told ++ ints news)) (u5 : Upd vt.ownBlock.toList w1 w5)
    (b5 : v5.ownBlock = vt.ownBlock ∨ v5.ownBlock = some w1.heap.size) (hm : news.length = m) (hl : r.told.length + m ≤ 201 * 1000) :
    RunSt H rb sb FM v5 ks (w5.setCell ⟨rb, 10, none⟩ v5) { r with told := r.told ++ news } ∧ Frm (fpR rb vt FM) (fpR rb v5 FM) w (w5.setCell ⟨rb, 10, none⟩ v5) := by
  have u15 : Upd vt.ownBlock.toList w w5 := (u1.mono (by simp)).trans u5
  have hT : ∀ b, vt.ownBlock = some b → b ≠ rb := h.tr
  have hbr : Blk w5 rb 69 (runC sb r.regs vt r.steps) := h.blk.upd u15 (fun hm => hT rb (by simpa using hm) rfl)
  have hv : ∀ b, v5.ownBlock = some b → b ≠ rb := fun b hb e => by
    subst e
    exact own_type o5 hbr (by decide) hb
  have hu : Upd [rb] w5 (w5.setCell ⟨rb, 10, none⟩ v5) := Upd.setCell (p := ⟨rb, 10, none⟩) (.refl _ _) (.inl (by simp)) _
  have hM : Mdl H sb FM w5 r.s := h.mdl.upd u15 (fun k hk hm => h.tm k (by simpa using hm) hk)
  refine ⟨⟨hbr.set_eq (runC_setT h.ok.regs v5), hM.upd hu (fun k hk => by simp; rintro rfl; exact h.rm hk), ?_, h.low, h.rm, fun b hb => ?_, ⟨h.ok.K, h.ok.regs, h.ok.steps, by rw [List.length_append, hm]; exact hl⟩⟩, ⟨?_, fun k hk => ?_⟩⟩
  · have := own_upd o5 hu (fun b hb => by simpa using hv b hb)
    rw [List.length_append, hm, List.map_append]
    exact this
  · rcases b5 with b5 | b5
    · exact h.tm b (b5 ▸ hb)
    · intro hk
      have h1 := (h.mdl.lt b hk).2
      have h2 := u1.size
      rw [hb] at b5
      injection b5 with b5
      omega
  · refine (u15.mono (fun x hx => .inl ?_)).trans (hu.mono (fun x hx => .inl ?_))
    · unfold fpR; rw [List.mem_cons, List.mem_append]; exact .inr (.inl hx)
    · unfold fpR; rw [List.mem_cons]; exact .inl (by simpa using hx)
  · unfold fpR at hk ⊢
    rw [List.mem_cons, List.mem_append] at hk
    rcases hk with rfl | hk | hk
    · exact .inl (List.mem_cons_self ..)
    · rcases b5 with b5 | b5
      · left; rw [List.mem_cons, List.mem_append, ← b5]; exact .inr (.inl hk)
      · right
        rw [b5] at hk
        simp at hk
        rw [hk]
        exact u1.size
    · left; rw [List.mem_cons, List.mem_append]; exact .inr (.inr hk)
end
def RunPost (H rb : Nat) (F : List Nat) (ks : List Int) (r' : RS) (w w' : World) : Prop := ∃ F', Run H rb F' ks w' r' ∧ Frm F F' w w'
theorem elem_int' : Elem Tryz.prog 22 3 1 8 := elem_int
set_option maxRecDepth 100000 in
set_option maxHeartbeats 2000000 in
theorem tell_ok {H rb : Nat} {F : List Nat} {ks : List Int} {r : RS} (reg n : Int) (w : World) (h : Run H rb F ks w r) (h1 : 0 ≤ reg) (h8 : reg ≤ 8) (hH : H ≤ w.heap.size) (hl : r.told.length + 1 ≤ 201 * 1000) :
    Calls Tryz.prog 82 #[.pointer (some ⟨rb, 0, none⟩), .int .i64 reg, .int .i64 n] w fun e w' => e = .returned (.tuple #[]) ∧ RunPost H rb F ks (tell r reg n) w w' := by
  obtain ⟨sb, FM, vt, rfl, h⟩ := h
  obtain ⟨i, rfl⟩ : ∃ i : Nat, reg = i := ⟨reg.toNat, by omega⟩
  have HT : Hid (tell r i n = { r with regs := r.regs.set i n, told := r.told ++ [n] }) := Lib.hid (by unfold tell; rw [Int.toNat_natCast])
  have H1 := Lib.hid (h.setR (i := i) (by omega) n)
  have F1 : Hid (Frm (fpR rb vt FM) (fpR rb vt FM) w (w.setCell ⟨rb, 1 + i, none⟩ (.int .i64 n))) := Lib.hid (frm_rb _ _)
  obtain ⟨x, hx⟩ : ∃ x, r.regs[i]? = some x := ⟨_, List.getElem?_eq_getElem (by rw [h.ok.regs]; omega)⟩
  have cx := h.reg hx
  obtain ⟨c0, c10, c11, cf, cl⟩ := h.cells
  have q1 : (0 : Int) ≤ (i : Int) := by omega
  have q2 : (i : Int) < 9 := by omega
  obtain ⟨e0, e10, e11, ef, el⟩ := H1.out.cells
  clear h hx
  go_enter Tryz.func82, Tryz.ntmps82
  go_wp2_with (at_builtin; refine stopped ?_)
  clear c0 c10 c11 cf cl cx e0 e10 e11 ef el
  have HB : Hid (H ≤ (w.setCell ⟨rb, 1 + i, none⟩ (.int .i64 n)).heap.size) := Lib.hid (Nat.le_trans hH F1.out.upd.size)
  have SZ : Hid ((w.setCell ⟨rb, 1 + i, none⟩ (.int .i64 n)).heap.size = w.heap.size) := Lib.hid (by simp [World.setCell])
  have T1 : Hid ((w.setCell ⟨rb, 1 + i, none⟩ (.int .i64 n)).ownsRow H 3 1 vt r.told.length (ints r.told)) := Lib.hid H1.out.told
  generalize (w.setCell ⟨rb, 1 + i, none⟩ (.int .i64 n)) = w1 at *
  refine Lib.hid ?_
  refine wpList_app _ (by rfl) (.tmp 16) (.tmp 18) _ (by rfl) elem_int vt _ (by rfl) (by rfl) (own_upd0 T1.out ((Upd.refl [] w1).alloc _)) (.of_blk (q := w.heap.size) (by rw [← SZ.out]; exact Blk.new w1 3 #[.int .i64 n]) (m := 1) 1 rfl) (by intro u hu; simp at hu; subst hu; rfl) (by simp only [maxLen]; omega) (by omega) (Nat.le_trans HB.out (by simp)) ?_
  intro v5 w5 o5 u5 b5
  obtain ⟨A5, c5, rfl, _, _⟩ := own_slice o5
  have R5 := Lib.hid (H1.out.push (news := [n]) (m := 1) ((Upd.refl [] w1).alloc (.cells #[.int .i64 n] 3)) o5 u5 b5 rfl hl)
  have B5 : Hid (Blk w5 rb 69 (runC sb (r.regs.set i n) vt r.steps)) := Lib.hid ((H1.out.blk.alloc _).upd u5 (fun hm => H1.out.tr rb (by simpa using hm) rfl))
  have c10 : w5.cell? ⟨rb, 10, none⟩ = some vt := (B5.out.cell 10).trans (runC_told H1.out.ok.regs)
  have cf := B5.out.frozen
  have cl := B5.out.lt
  clear o5 u5 b5 B5
  go_wp2_with fail
  go_end0
  exact ⟨rfl, by rw [HT.out]; exact ⟨_, ⟨sb, FM, _, rfl, R5.out.1⟩, F1.out.trans R5.out.2⟩⟩
theorem flatP_len (l : AL) : (flatP l).length = 2 * l.length := by
  induction l with
  | nil => rfl
  | cons a l ih => unfold flatP at *; rw [List.flatMap_cons, List.length_append, ih]; simp; omega
theorem flatP_snoc (l : AL) (p : Int × Int) : flatP (l ++ [p]) = flatP l ++ [p.1, p.2] := by unfold flatP; simp
def tellL (r : RS) (n : Int) (l : AL) : RS := { r with told := r.told ++ (n :: flatP l) }
theorem tellL_snoc (r : RS) (n : Int) (l : AL) (p : Int × Int) : tellL r n (l ++ [p]) = { tellL r n l with told := (tellL r n l).told ++ [p.1, p.2] } := by
  unfold tellL
  rw [flatP_snoc]
  simp
set_option maxRecDepth 100000 in
set_option maxHeartbeats 4000000 in
theorem list_ok' {H rb : Nat} {F : List Nat} {ks : List Int} {r : RS} (c : Int) (w : World) (h : Run H rb F ks w r) (hc : isC r.s c = true) (hH : H ≤ w.heap.size) (hl : r.told.length + 201 ≤ 201 * 1000) (l : AL) (n : Nat) (hl' : coll r.s c.toNat = l) (hn : l.length = n) :
    Calls Tryz.prog 83 #[.pointer (some ⟨rb, 0, none⟩), .int .i64 c] w fun e w' => e = .returned .nilIface ∧ RunPost H rb F ks (tellL r n l) w w' := by
  have HR := Lib.hid h
  obtain ⟨sb, FM, vt, hF, h⟩ := h
  have HFE : Hid (fpR rb vt FM = F) := Lib.hid hF.symm
  have LL : Hid (n ≤ 100) := Lib.hid (by
    obtain ⟨i, rfl, hi⟩ := isC_form hc
    rw [← hn, ← hl', Int.toNat_natCast]
    exact h.mdl.1.len _ (coll_mem hi))
  have ML := Lib.hid (m_list H sb FM r.s c w h.mdl)
  have HLC : Hid (listC r.s c = l) := Lib.hid (by unfold listC; rw [if_pos hc]; exact hl')
  have HC := Lib.hid hc
  obtain ⟨c0, c10, c11, cf, cl⟩ := h.cells
  have HS := Lib.hid h
  have HN := Lib.hid hn
  have n100 := LL.out
  clear h hc hF hn hl' LL
  go_enter Tryz.func83, Tryz.ntmps83
  go_wp2_with fail
  refine ML.out.mono ?_
  rintro e w3 ⟨v, u, rfl, eu, ol, u3⟩
  rw [HC.out] at eu
  obtain rfl : u = .nilIface := by
    rcases eu with h | h | ⟨g, _, _, h, _⟩
    · exact h.1
    · obtain ⟨_, ⟨h, _⟩, _⟩ := h; simp at h
    · simp at h
  rw [HLC.out] at ol
  have OL := Lib.hid ol
  have U3 := Lib.hid u3
  obtain ⟨Al, cl', rfl, _, _⟩ := own_slice ol
  rw [HN.out] at OL ⊢
  have HS3 := Lib.hid (HS.out.upd0 u3)
  clear eu ol u3 ML c0 c10 c11 cf cl HC
  obtain ⟨c0, c10, c11, cf, cl⟩ := HS3.out.cells
  have HB3 : Hid (H ≤ w3.heap.size) := Lib.hid (Nat.le_trans hH U3.out.size)
  go_wp2_with (at_builtin; refine stopped ?_)
  refine Lib.hid ?_
  refine wpList_app _ (by rfl) (.tmp 25) (.tmp 28) _ (by rfl) elem_int vt _ (by rfl) (by rfl) (own_upd0 HS3.out.told ((Upd.refl [] w3).alloc _)) (.of_blk (Blk.new w3 3 #[.int .i64 n]) (m := 1) 1 rfl) (by intro u hu; simp at hu; subst hu; rfl) (by simp only [maxLen]; omega) (by omega) (Nat.le_trans HB3.out (by simp)) ?_
  intro v5 w5 o5 u5 b5
  obtain ⟨A5, c5, rfl, _, _⟩ := own_slice o5
  have R5 := Lib.hid (HS3.out.push (news := [(n : Int)]) (m := 1) ((Upd.refl [] w3).alloc (.cells #[.int .i64 n] 3)) o5 u5 b5 rfl (by omega))
  have B5 : Hid (Blk w5 rb 69 (runC sb r.regs vt r.steps)) := Lib.hid ((HS3.out.blk.alloc _).upd u5 (fun hm => HS3.out.tr rb (by simpa using hm) rfl))
  clear c0 c10 c11 cf cl
  have c10 : w5.cell? ⟨rb, 10, none⟩ = some vt := (B5.out.cell 10).trans (runC_told HS3.out.ok.regs)
  have cf := B5.out.frozen
  have cl := B5.out.lt
  clear o5 u5 b5 B5
  have L5 : Hid (∃ F', Run H rb F' ks (w5.setCell ⟨rb, 10, none⟩ (.slice A5 (r.told.length + 1) c5)) (tellL r n (l.take 0)) ∧ Frm F F' w3 (w5.setCell ⟨rb, 10, none⟩ (.slice A5 (r.told.length + 1) c5))) := Lib.hid ⟨_, ⟨sb, FM, _, rfl, R5.out.1⟩, by rw [← HFE.out]; exact R5.out.2⟩
  go_wp2_with fail
  generalize (w5.setCell ⟨rb, 10, none⟩ (.slice A5 (r.told.length + 1) c5)) = w6 at *
  clear c10 cf cl R5
  have HF : Hid (∀ k ∈ F, k < w.heap.size) := Lib.hid (fun k hk => (HR.out.lt k hk).2)
  clear HS HS3 HFE
  go_loopw [34] (fun v wr => ∃ k : Nat, v = .int .i64 k ∧ k ≤ n ∧ Hid (∃ F', Run H rb F' ks wr (tellL r n (l.take k)) ∧ Frm F F' w3 wr)) (fun v _ => n - (intOf v).toNat)
  case atStart => exact ⟨0, rfl, by omega, L5⟩
  case round =>
    obtain ⟨k, rfl, hk, HK⟩ := hrel
    by_cases hkn : k < n
    · obtain ⟨x, hx⟩ : ∃ x, l[k]? = some x := ⟨_, List.getElem?_eq_getElem (by rw [HN.out]; exact hkn)⟩
      obtain ⟨F', hr, hf⟩ := HK.out
      have OLr : Hid (Ow encPr 56 wr w.heap.size (.slice Al n cl') l) := Lib.hid (by
        exact OL.out.upd hf.upd (fun b hb hm => by have h1 := (own_lt OL.out hb).1; have h2 := HF.out b hm; omega))
      have HT := Lib.hid (take_snoc_ hx)
      obtain ⟨ad, eA, hlt, hcl⟩ := OLr.out.rd.at_ hx
      subst eA
      have e0 : wr.cell? (ad.add (k * 2)) = some (.int .i64 x.1) := hcl 0 _ rfl
      have e1 : wr.cell? ⟨(ad.add (k * 2)).block, (ad.add (k * 2)).off + 1, none⟩ = some (.int .i64 x.2) := by
        have := hcl 1 _ rfl; rwa [show k * encPr.s + 1 = k * 2 + (0 + 1) from rfl, add_more] at this
      obtain ⟨sb', FM', vt', rfl, hs⟩ := hr
      have HS := Lib.hid hs
      have HF' := Lib.hid hf
      have q1 : (0 : Int) ≤ (k : Int) := by omega
      have q2 : (k : Int) < (n : Int) := by omega
      obtain ⟨ρ, hρ⟩ : ∃ ρ, tellL r n (l.take k) = ρ := ⟨_, rfl⟩
      have HP : Hid (tellL r n (l.take (k + 1)) = { ρ with told := ρ.told ++ [x.1, x.2] }) := Lib.hid (by rw [HT.out, tellL_snoc, hρ])
      have HLR : Hid (ρ.told.length + 2 ≤ 201 * 1000) := Lib.hid (by
        rw [← hρ]
        unfold tellL
        simp only [List.length_append, List.length_cons, flatP_len, List.length_take, HN.out]
        omega)
      rw [hρ] at HS
      have HBr : Hid (H ≤ wr.heap.size) := Lib.hid (Nat.le_trans HB3.out hf.upd.size)
      clear hx hcl hs hf hρ HK
      go_wp2_with fail
      have XB : Hid (Blk (wr.alloc (.cells #[.int .i64 x.1, .int .i64 x.2] 56)) wr.heap.size 56 #[.int .i64 x.1, .int .i64 x.2]) := Lib.hid (Blk.new wr _ _)
      have UA : Hid (Upd [] wr (wr.alloc (.cells #[.int .i64 x.1, .int .i64 x.2] 56))) := Lib.hid ((Upd.refl [] wr).alloc _)
      generalize (wr.alloc (.cells #[.int .i64 x.1, .int .i64 x.2] 56)) = w7 at *
      have CS : Hid (∀ W, Upd [] w7.drew W → W.cell? ⟨wr.heap.size, 0, none⟩ = some (.int .i64 x.1) ∧ W.cell? ⟨wr.heap.size, 1, none⟩ = some (.int .i64 x.2) ∧ W.cell? ⟨rb, 10, none⟩ = some vt') := Lib.hid (fun W hW => by
        have hu := (Upd.refl [] w7).drew.trans hW
        exact ⟨(XB.out.upd hu (by simp)).cell 0, (XB.out.upd hu (by simp)).cell 1, ((HS.out.upd0 UA.out).upd0 hu).cells.2.1⟩)
      clear e0 e1
      refine wp_invNT 10 [(9, .lit 3 #[.int .i64 x.1, .int .i64 x.2] 2)] [] (by kernel_rfl) (by simp) (by kernel_rfl) (by kernel_rfl) ⟨lasts_lit _ _ _, trivial⟩ ?_
      simp only [List.take_succ_cons, List.take_zero, List.drop_succ_cons, List.drop_zero]
      with_reducible apply wpV_light
      · simp only [lightOp]
      · intro W hU hF
        have f0 := CS.out W hU
        clear hU hF
        go_simp
        exact rfl
      simp only [Act.put, List.setIfInBounds_toArray, List.set_cons_zero, List.set_cons_succ]
      with_reducible apply wpV_light
      · simp only [lightOp]
      · intro W hU hF
        have f0 := CS.out W hU
        clear hU hF
        go_simp
        exact rfl
      simp only [Act.put, List.setIfInBounds_toArray, List.set_cons_zero, List.set_cons_succ]
      with_reducible apply wpV_light
      · simp only [lightOp]
      · intro W hU hF
        have f0 := CS.out W hU
        clear hU hF
        go_simp
        exact rfl
      simp only [Act.put, List.setIfInBounds_toArray, List.set_cons_zero, List.set_cons_succ]
      with_reducible apply wpV_light
      · simp only [lightOp]
      · intro W hU hF
        have f0 := CS.out W hU
        clear hU hF
        go_simp
        exact rfl
      simp only [Act.put, List.setIfInBounds_toArray, List.set_cons_zero, List.set_cons_succ]
      with_reducible apply wpV_light
      · simp only [lightOp]
      · intro W hU hF
        have f0 := CS.out W hU
        clear hU hF
        go_simp
        exact rfl
      simp only [Act.put, List.setIfInBounds_toArray, List.set_cons_zero, List.set_cons_succ]
      with_reducible apply wpV_light
      · simp only [lightOp]
      · intro W hU hF
        have f0 := CS.out W hU
        clear hU hF
        go_simp
        exact rfl
      simp only [Act.put, List.setIfInBounds_toArray, List.set_cons_zero, List.set_cons_succ]
      with_reducible apply wpV_light
      · simp only [lightOp]
      · intro W hU hF
        have f0 := CS.out W hU
        clear hU hF
        go_simp
        exact rfl
      simp only [Act.put, List.setIfInBounds_toArray, List.set_cons_zero, List.set_cons_succ]
      with_reducible apply wpV_light
      · simp only [lightOp]
      · intro W hU hF
        have f0 := CS.out W hU
        clear hU hF
        go_simp
        exact rfl
      simp only [Act.put, List.setIfInBounds_toArray, List.set_cons_zero, List.set_cons_succ]
      with_reducible apply wpV_light
      · simp only [lightOp]
      · intro W hU hF
        have f0 := CS.out W hU
        clear hU hF
        go_simp
        exact rfl
      simp only [Act.put, List.setIfInBounds_toArray, List.set_cons_zero, List.set_cons_succ]
      refine wpV_heavy (by simp only [lightOp]) (by rfl) (fun W hU hk hF K hK => ?_) ?_
      · go_wp2_with fail
        exact wpV_lit hK rfl rfl rfl
      rintro _ ⟨g', rfl⟩
      simp only [Act.put, List.setIfInBounds_toArray, List.set_cons_zero, List.set_cons_succ]
      refine wpV_end (fun W hU _ hF => ?_)
      have U6 : Hid (Upd [] wr W) := Lib.hid (UA.out.trans ((Upd.refl [] w7).drew.trans hU))
      have LT : Hid (Blk W g' 3 #[.int .i64 x.1, .int .i64 x.2]) := Lib.hid (by
        obtain ⟨g2, he, hb⟩ := hF.out.1 (by kernel_rfl)
        injection he with he _ _
        injection he with he
        injection he with he
        subst he
        exact hb)
      clear hU hF
      refine wpT_op (by rfl) (fun K hK => ?_)
      refine wp_app W (.tmp 42) (.tmp 47) _ (by rfl) elem_int vt' _ (by rfl) (by rfl) (own_upd0 HS.out.told U6.out) (.of_blk LT.out (m := 2) 2 rfl) (by intro u hu; simp at hu; rcases hu with rfl | rfl <;> rfl) (by have := HLR.out; simp only [maxLen]; omega) (by have := HLR.out; omega) (Nat.le_trans HBr.out U6.out.size) ?_
      intro v8 w8 o8 u8 b8
      obtain ⟨A8, c8, rfl, _, _⟩ := own_slice o8
      have R8 := Lib.hid (HS.out.push (news := [x.1, x.2]) (m := 2) U6.out o8 u8 b8 rfl HLR.out)
      have B8 : Hid (Blk w8 rb 69 (runC sb' ρ.regs vt' ρ.steps)) := Lib.hid ((HS.out.blk.upd U6.out (by simp)).upd u8 (fun hm => HS.out.tr rb (by simpa using hm) rfl))
      refine hK.out _ _ ?_
      clear hK K o8 u8 b8
      simp only [Act.put, List.setIfInBounds_toArray, List.set_cons_zero, List.set_cons_succ]
      have f0 : w8.cell? ⟨rb, 10, none⟩ = some vt' := (B8.out.cell 10).trans (runC_told HS.out.ok.regs)
      have f1 := B8.out.frozen
      have f2 := B8.out.lt
      refine wpT_op (by rfl) (fun K hK => ?_)
      go_wp2_with fail
      refine hK.out _ _ ?_
      clear hK K
      try simp only [Act.put, List.setIfInBounds_toArray, List.set_cons_zero, List.set_cons_succ]
      refine wpT_op (by rfl) (fun K hK => ?_)
      go_wp2_with fail
      refine hK.out _ _ ?_
      clear hK K
      try simp only [Act.put, List.setIfInBounds_toArray, List.set_cons_zero, List.set_cons_succ]
      refine wpT_op (by rfl) (fun K hK => ?_)
      go_wp2_with fail
      refine hK.out _ _ ?_
      clear hK K
      try simp only [Act.put, List.setIfInBounds_toArray, List.set_cons_zero, List.set_cons_succ]
      refine wpT_end ?_
      clear f0 f1 f2
      go_wp2_with fail
      go_roundw
      case rel => exact ⟨k + 1, by go_num, by omega, Lib.hid ⟨_, by rw [HP.out]; exact ⟨sb', FM', _, rfl, R8.out.1⟩, HF'.out.trans R8.out.2⟩⟩
      case measure => simp [intOf]; omega
    · obtain rfl : k = n := by omega
      obtain ⟨F', hr, hf⟩ := HK.out
      rw [List.take_of_length_le (by rw [HN.out]; exact Nat.le_refl _)] at hr
      have HQ := Lib.hid hr
      have HG := Lib.hid hf
      clear hr hf
      go_wp2_with fail
      go_ret
      exact ⟨rfl, F', HQ.out, HG.out.pre U3.out⟩
theorem list_ok {H rb : Nat} {F : List Nat} {ks : List Int} {r : RS} (c : Int) (w : World) (h : Run H rb F ks w r) (hc : isC r.s c = true) (hH : H ≤ w.heap.size) (hl : r.told.length + 201 ≤ 201 * 1000) :
    Calls Tryz.prog 83 #[.pointer (some ⟨rb, 0, none⟩), .int .i64 c] w fun e w' => e = .returned .nilIface ∧ RunPost H rb F ks (tellL r (coll r.s c.toNat).length (coll r.s c.toNat)) w w' := list_ok' c w h hc hH hl _ _ rfl rfl
end Go.Proofs.YtfbeaklplefojaaGreatDoor.Ev

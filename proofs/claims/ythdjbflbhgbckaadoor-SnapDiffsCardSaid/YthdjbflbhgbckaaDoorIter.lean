/-
  Package snap: iterators.
-/
import Derived.Test.YthdjbflbhgbckaaDoorSnap2
set_option linter.unusedVariables false
namespace Go.Proofs.YthdjbflbhgbckaaDoor
open Go.RowKit Stab Snap
attribute [local go_sem] litStep_value

/-- An iterator in block ib over a snapshot, at a place. -/
structure IterIs (B ib sb : Nat) (r : PL) (at_ : Nat) (w : World) : Prop where
  it : Blk w ib 108 #[.pointer (some ⟨sb, 0, none⟩), .int .i64 (at_ : Nat)]
  s : SnapIs B sb w r
  le : at_ ≤ r.length
theorem SnapIs.off {B sb ib : Nat} {r : PL} {w w' : World} {t : TypeId} {cs : Array Value} (h : SnapIs B sb w r) (hb : Blk w ib t cs) (h1 : t ≠ 55) (h2 : t ≠ 39) (hu : Upd [ib] w w') : SnapIs B sb w' r := by
  obtain ⟨A, c, b, o⟩ := h.obj
  exact ⟨h.srt, h.small, h.b, A, c, b.upd hu (by simpa using Blk.ne_ b hb (Ne.symm h1)), o.upd hu (fun x hx hm => own_type o hb h2 (by rw [hx]; simpa using hm))⟩
theorem IterIs.upd0 {B ib sb at_ : Nat} {r : PL} {w w' : World} (h : IterIs B ib sb r at_ w) (hu : Upd [] w w') : IterIs B ib sb r at_ w' := ⟨h.it.upd hu (by simp), h.s.upd0 hu, h.le⟩
set_option maxRecDepth 100000 in
theorem s_iter (B sb : Nat) (r : PL) (w : World) (h : SnapIs B sb w r) : Calls Tryd.prog 34 #[.pointer (some ⟨sb, 0, none⟩)] w fun e w' => e = .returned (.pointer (some ⟨w.heap.size, 0, none⟩)) ∧ IterIs B w.heap.size sb r 0 w' ∧ Upd [] w w' := by
  have H := Lib.hid h
  clear h
  go_enter Tryd.func34, Tryd.ntmps34
  go_wp2_with fail
  refine (s_is B sb r w H.out).mono ?_
  rintro e w1 ⟨rfl, rfl⟩
  have U : Hid (Upd [] w (w.alloc (.cells #[.pointer (some ⟨sb, 0, none⟩), .int .i64 0] 108))) := Lib.hid ((Upd.refl [] w).alloc _)
  have I : Hid (IterIs B w.heap.size sb r 0 (w.alloc (.cells #[.pointer (some ⟨sb, 0, none⟩), .int .i64 0] 108))) := Lib.hid ⟨Blk.new w _ _, H.out.upd0 U.out, Nat.zero_le _⟩
  go_wp2_with fail
  go_ret
  exact ⟨rfl, I.out, U.out⟩
set_option maxRecDepth 100000 in
theorem s_iter_nil (w : World) : Calls Tryd.prog 34 #[.pointer none] w fun e w' => e = .returned (.pointer none) ∧ w = w' := by
  go_enter Tryd.func34, Tryd.ntmps34
  go_wp2_with fail
  refine (s_is_nil w).mono ?_
  rintro e w1 ⟨rfl, rfl⟩
  go_wp2_with fail
  go_ret
  exact ⟨rfl, rfl⟩
/-- What Next, Back tell: a pair, and whether there is one. -/
def toldP (p : Option (Int × Int)) : Value := .tuple #[.agg #[.int .i64 ((p.map (·.1)).getD 0), .int .i64 ((p.map (·.2)).getD 0)], .bool p.isSome]
def NextPost (B ib sb : Nat) (r : PL) (at_ : Nat) (w : World) (e : Ending) (w' : World) : Prop := e = .returned (toldP r[at_]?) ∧ IterIs B ib sb r (if at_ < r.length then at_ + 1 else at_) w' ∧ Upd [ib] w w'
set_option maxRecDepth 100000 in
set_option maxHeartbeats 4000000 in
theorem i_next (B ib sb : Nat) (r : PL) (at_ : Nat) (w : World) (h : IterIs B ib sb r at_ w) : Calls Tryd.prog 35 #[.pointer (some ⟨ib, 0, none⟩)] w fun e w' => NextPost B ib sb r at_ w e w' := by
  have H := Lib.hid h
  obtain ⟨A, c, hb, ho⟩ := h.s.obj
  obtain ⟨n, hn⟩ : ∃ n, r.length = n := ⟨_, rfl⟩
  have HN := Lib.hid hn
  have hn1 : n ≤ 1000 := hn ▸ h.s.small
  have han : at_ ≤ n := hn ▸ h.le
  have HB : Hid (Blk w sb 55 #[.slice A n c, .bool true]) := Lib.hid (by rw [← hn]; exact hb)
  have HO : Hid (Ow encPr 39 w B (.slice A n c) r) := Lib.hid (by rw [hn] at ho; exact ho)
  have HI := Lib.hid h.it
  clear h hb ho hn
  go_enter Tryd.func35, Tryd.ntmps35
  go_wp2_with fail
  have UA : Hid (Upd [] w (w.alloc (.cells #[.int .i64 0, .int .i64 0] 39))) := Lib.hid ((Upd.refl [] w).alloc _)
  have BP : Hid (Blk (w.alloc (.cells #[.int .i64 0, .int .i64 0] 39)) w.heap.size 39 #[.int .i64 0, .int .i64 0]) := Lib.hid (Blk.new w _ _)
  generalize (w.alloc (.cells #[.int .i64 0, .int .i64 0] 39)) = w1 at *
  have CS : Hid (∀ W, Upd [] w1.drew W → W.cell? ⟨ib, 0, none⟩ = some (.pointer (some ⟨sb, 0, none⟩)) ∧ W.cell? ⟨ib, 1, none⟩ = some (.int .i64 (at_ : Nat)) ∧ W.cell? ⟨sb, 0, none⟩ = some (.slice A n c)) := Lib.hid (fun W hW => by
    have hu := UA.out.trans ((Upd.refl [] w1).drew.trans hW)
    exact ⟨(HI.out.upd hu (by simp)).cell 0, (HI.out.upd hu (by simp)).cell 1, (HB.out.upd hu (by simp)).cell 0⟩)
  by_cases hlt : at_ < n
  · have d1 : decide ((n : Int) ≤ (at_ : Int)) = false := by simp; omega
    have q1 : (at_ : Int) < (n : Int) := by omega
    refine wp_invN [] [] (by kernel_rfl) (by kernel_rfl) (by kernel_rfl) trivial ?_
    with_reducible apply wpV_light
    · simp only [lightOp]
    · intro W hU hF
      have f0 := CS.out W hU
      clear hU hF
      go_simp
      exact rfl
    simp only [Act.put, List.setIfInBounds_toArray, List.set_cons_zero, List.set_cons_succ]
    with_reducible apply wpV_light
    · simp only [lightOp]
    · intro W hU hF
      have f0 := CS.out W hU
      clear hU hF
      go_simp
      exact rfl
    simp only [Act.put, List.setIfInBounds_toArray, List.set_cons_zero, List.set_cons_succ]
    with_reducible apply wpV_light
    · simp only [lightOp]
    · intro W hU hF
      have f0 := CS.out W hU
      clear hU hF
      go_simp
      exact rfl
    simp only [Act.put, List.setIfInBounds_toArray, List.set_cons_zero, List.set_cons_succ]
    with_reducible apply wpV_light
    · simp only [lightOp]
    · intro W hU hF
      have f0 := CS.out W hU
      clear hU hF
      go_simp
      exact rfl
    simp only [Act.put, List.setIfInBounds_toArray, List.set_cons_zero, List.set_cons_succ]
    with_reducible apply wpV_light
    · simp only [lightOp]
    · intro W hU hF
      have f0 := CS.out W hU
      clear hU hF
      go_simp
      exact rfl
    simp only [Act.put, List.setIfInBounds_toArray, List.set_cons_zero, List.set_cons_succ]
    with_reducible apply wpV_light
    · simp only [lightOp]
    · intro W hU hF
      have f0 := CS.out W hU
      clear hU hF
      go_simp
      exact rfl
    simp only [Act.put, List.setIfInBounds_toArray, List.set_cons_zero, List.set_cons_succ]
    with_reducible apply wpV_light
    · simp only [lightOp]
    · intro W hU hF
      have f0 := CS.out W hU
      clear hU hF
      go_simp
      exact rfl
    simp only [Act.put, List.setIfInBounds_toArray, List.set_cons_zero, List.set_cons_succ]
    with_reducible apply wpV_light
    · simp only [lightOp]
    · intro W hU hF
      have f0 := CS.out W hU
      clear hU hF
      go_simp
      exact rfl
    simp only [Act.put, List.setIfInBounds_toArray, List.set_cons_zero, List.set_cons_succ]
    with_reducible apply wpV_light
    · simp only [lightOp]
    · intro W hU hF
      have f0 := CS.out W hU
      clear hU hF
      go_simp
      exact rfl
    simp only [Act.put, List.setIfInBounds_toArray, List.set_cons_zero, List.set_cons_succ]
    with_reducible apply wpV_light
    · simp only [lightOp]
    · intro W hU hF
      have f0 := CS.out W hU
      clear hU hF
      go_simp
      exact rfl
    simp only [Act.put, List.setIfInBounds_toArray, List.set_cons_zero, List.set_cons_succ]
    with_reducible apply wpV_light
    · simp only [lightOp]
    · intro W hU hF
      have f0 := CS.out W hU
      clear hU hF
      go_simp
      exact rfl
    simp only [Act.put, List.setIfInBounds_toArray, List.set_cons_zero, List.set_cons_succ]
    with_reducible apply wpV_light
    · simp only [lightOp]
    · intro W hU hF
      have f0 := CS.out W hU
      clear hU hF
      go_simp
      exact rfl
    simp only [Act.put, List.setIfInBounds_toArray, List.set_cons_zero, List.set_cons_succ]
    with_reducible apply wpV_light
    · simp only [lightOp]
    · intro W hU hF
      have f0 := CS.out W hU
      clear hU hF
      go_simp
      exact rfl
    simp only [Act.put, List.setIfInBounds_toArray, List.set_cons_zero, List.set_cons_succ]
    with_reducible apply wpV_light
    · simp only [lightOp]
    · intro W hU hF
      have f0 := CS.out W hU
      clear hU hF
      go_simp
      exact rfl
    simp only [Act.put, List.setIfInBounds_toArray, List.set_cons_zero, List.set_cons_succ]
    with_reducible apply wpV_light
    · simp only [lightOp]
    · intro W hU hF
      have f0 := CS.out W hU
      clear hU hF
      go_simp
      exact rfl
    simp only [Act.put, List.setIfInBounds_toArray, List.set_cons_zero, List.set_cons_succ]
    with_reducible apply wpV_light
    · simp only [lightOp]
    · intro W hU hF
      have f0 := CS.out W hU
      clear hU hF
      go_simp
      exact rfl
    simp only [Act.put, List.setIfInBounds_toArray, List.set_cons_zero, List.set_cons_succ]
    with_reducible apply wpV_light
    · simp only [lightOp]
    · intro W hU hF
      have f0 := CS.out W hU
      clear hU hF
      go_simp
      exact rfl
    simp only [Act.put, List.setIfInBounds_toArray, List.set_cons_zero, List.set_cons_succ]
    refine wpV_end (fun W hU _ _ => ?_)
    have U2 : Hid (Upd [] w1 W) := Lib.hid ((Upd.refl [] w1).drew.trans hU)
    clear hU CS
    refine wpT_end ?_
    have HI2 := Lib.hid (HI.out.upd (UA.out.trans U2.out) (by simp))
    have f0 : W.cell? ⟨ib, 1, none⟩ = some (.int .i64 (at_ : Nat)) := HI2.out.cell 1
    have f1 : W.frozen? ⟨ib, 1, none⟩ = false := HI2.out.frozen 1
    have f2 : ib < W.heap.size := HI2.out.lt
    go_wp2_with fail
    obtain ⟨a1, ha1⟩ : ∃ a1, at_ + 1 = a1 := ⟨_, rfl⟩
    have t1 : (at_ : Int) + 1 = (a1 : Int) := by omega
    have HA1 := Lib.hid ha1
    rw [t1]
    have HI3 : Hid (Blk (W.setCell ⟨ib, 1, none⟩ (.int .i64 (a1 : Nat))) ib 108 #[.pointer (some ⟨sb, 0, none⟩), .int .i64 (a1 : Nat)]) := Lib.hid (HI2.out.set_eq rfl)
    have U3 : Hid (Upd [ib] w (W.setCell ⟨ib, 1, none⟩ (.int .i64 (a1 : Nat)))) := Lib.hid ((((UA.out.trans U2.out).mono (by simp)) : Upd [ib] w W).setCell (.inl (by simp)) _)
    have S3 : Hid (SnapIs B sb (W.setCell ⟨ib, 1, none⟩ (.int .i64 (a1 : Nat))) r) := Lib.hid (((H.out.s.upd0 (UA.out.trans U2.out)).off HI2.out (by decide) (by decide) ((Upd.refl [ib] W).setCell (.inl (by simp)) _)))
    have BP3 : Hid (Blk (W.setCell ⟨ib, 1, none⟩ (.int .i64 (a1 : Nat))) w.heap.size 39 #[.int .i64 0, .int .i64 0]) := Lib.hid ((BP.out.upd U2.out (by simp)).far (by have := HI.out.lt; simp; omega) _)
    clear f0 f1 f2 ha1 HI2
    generalize (W.setCell ⟨ib, 1, none⟩ (.int .i64 (a1 : Nat))) = W3 at *
    obtain ⟨p, hp⟩ : ∃ p, r[at_]? = some p := ⟨_, List.getElem?_eq_getElem (by rw [HN.out]; exact hlt)⟩
    have HP := Lib.hid hp
    obtain ⟨A3, c3, hb3, ho3⟩ := S3.out.obj
    rw [HN.out] at hb3 ho3
    obtain ⟨g, cg, cur, e1, -⟩ := own_form ho3 (by rw [HN.out]; omega)
    injection e1 with e1 en e1'
    subst e1 e1'
    have f0 : W3.cell? ⟨ib, 0, none⟩ = some (.pointer (some ⟨sb, 0, none⟩)) := HI3.out.cell 0
    have f1 : W3.cell? ⟨ib, 1, none⟩ = some (.int .i64 (a1 : Nat)) := HI3.out.cell 1
    have f2 : W3.cell? ⟨sb, 0, none⟩ = some (.slice (some ⟨g, 0, none⟩) n c3) := hb3.cell 0
    have f3 : W3.cell? ⟨g, at_ * 2, none⟩ = some (.int .i64 p.1) := ho3.at_ hp 0 _ rfl
    have f4 : W3.cell? ⟨g, at_ * 2 + 1, none⟩ = some (.int .i64 p.2) := ho3.at_ hp 1 _ rfl
    have f5 : W3.cell? ⟨w.heap.size, 0, none⟩ = some (.int .i64 0) := BP3.out.cell 0
    have f6 : W3.cell? ⟨w.heap.size, 1, none⟩ = some (.int .i64 0) := BP3.out.cell 1
    have fz : ∀ k, W3.frozen? ⟨w.heap.size, k, none⟩ = false := fun k => BP3.out.frozen k
    have fl : w.heap.size < W3.heap.size := BP3.out.lt
    have t2 : (a1 : Int) - 1 = (at_ : Int) := by omega
    have t2w : IntKind.i64.wrap (at_ : Int) = (at_ : Int) := by rw [IntKind.wrap_i64]; omega
    have t3 : (0 : Int) ≤ (at_ : Int) := by omega
    have BP4 : Hid (Blk (((W3.setCell ⟨w.heap.size, 0, none⟩ (.int .i64 p.1)).setCell ⟨w.heap.size, 1, none⟩ (.int .i64 p.2)).drew) w.heap.size 39 #[.int .i64 p.1, .int .i64 p.2]) := Lib.hid (((BP3.out.set_eq rfl).set_eq rfl).drew)
    have U5 : Hid (Upd [ib] w (((W3.setCell ⟨w.heap.size, 0, none⟩ (.int .i64 p.1)).setCell ⟨w.heap.size, 1, none⟩ (.int .i64 p.2)).drew)) := Lib.hid (((U3.out.setCell (.inr (Nat.le_refl _)) _).setCell (.inr (Nat.le_refl _)) _).drew)
    have HI5 : Hid (Blk (((W3.setCell ⟨w.heap.size, 0, none⟩ (.int .i64 p.1)).setCell ⟨w.heap.size, 1, none⟩ (.int .i64 p.2)).drew) ib 108 #[.pointer (some ⟨sb, 0, none⟩), .int .i64 (a1 : Nat)]) := Lib.hid (((HI3.out.far (by have := HI.out.lt; simp; omega) _).far (by have := HI.out.lt; simp; omega) _).drew)
    clear hp hb3 ho3 en t1
    go_region
    clear f0 f1 f2 f3 f4 f5 f6 fz fl
    generalize (((W3.setCell ⟨w.heap.size, 0, none⟩ (.int .i64 p.1)).setCell ⟨w.heap.size, 1, none⟩ (.int .i64 p.2)).drew) = W5 at *
    have d0 : W5.cell? ⟨w.heap.size, 0, none⟩ = some (.int .i64 p.1) := BP4.out.cell 0
    have d2 : W5.cell? ⟨w.heap.size, 1, none⟩ = some (.int .i64 p.2) := BP4.out.cell 1
    go_wp2_with fail
    refine bodyPost_ret (v := .tuple #[.agg #[.int .i64 p.1, .int .i64 p.2], .bool true]) (by simp [results, Tryd.results35, go_sem, d0, d2]) rfl ?_
    refine ⟨by rw [HP.out]; rfl, ?_, U5.out⟩
    rw [if_pos (by rw [HN.out]; exact hlt)]
    exact ⟨by rw [HA1.out]; exact HI5.out, H.out.s.off HI.out (by decide) (by decide) U5.out, by rw [HN.out]; omega⟩
  · have d1 : decide ((n : Int) ≤ (at_ : Int)) = true := by simp; omega
    refine wp_invN [] [] (by kernel_rfl) (by kernel_rfl) (by kernel_rfl) trivial ?_
    with_reducible apply wpV_light
    · simp only [lightOp]
    · intro W hU hF
      have f0 := CS.out W hU
      clear hU hF
      go_simp
      exact rfl
    simp only [Act.put, List.setIfInBounds_toArray, List.set_cons_zero, List.set_cons_succ]
    with_reducible apply wpV_light
    · simp only [lightOp]
    · intro W hU hF
      have f0 := CS.out W hU
      clear hU hF
      go_simp
      exact rfl
    simp only [Act.put, List.setIfInBounds_toArray, List.set_cons_zero, List.set_cons_succ]
    with_reducible apply wpV_light
    · simp only [lightOp]
    · intro W hU hF
      have f0 := CS.out W hU
      clear hU hF
      go_simp
      exact rfl
    simp only [Act.put, List.setIfInBounds_toArray, List.set_cons_zero, List.set_cons_succ]
    with_reducible apply wpV_light
    · simp only [lightOp]
    · intro W hU hF
      have f0 := CS.out W hU
      clear hU hF
      go_simp
      exact rfl
    simp only [Act.put, List.setIfInBounds_toArray, List.set_cons_zero, List.set_cons_succ]
    with_reducible apply wpV_light
    · simp only [lightOp]
    · intro W hU hF
      have f0 := CS.out W hU
      clear hU hF
      go_simp
      exact rfl
    simp only [Act.put, List.setIfInBounds_toArray, List.set_cons_zero, List.set_cons_succ]
    with_reducible apply wpV_light
    · simp only [lightOp]
    · intro W hU hF
      have f0 := CS.out W hU
      clear hU hF
      go_simp
      exact rfl
    simp only [Act.put, List.setIfInBounds_toArray, List.set_cons_zero, List.set_cons_succ]
    with_reducible apply wpV_light
    · simp only [lightOp]
    · intro W hU hF
      have f0 := CS.out W hU
      clear hU hF
      go_simp
      exact rfl
    simp only [Act.put, List.setIfInBounds_toArray, List.set_cons_zero, List.set_cons_succ]
    with_reducible apply wpV_light
    · simp only [lightOp]
    · intro W hU hF
      have f0 := CS.out W hU
      clear hU hF
      go_simp
      exact rfl
    simp only [Act.put, List.setIfInBounds_toArray, List.set_cons_zero, List.set_cons_succ]
    with_reducible apply wpV_light
    · simp only [lightOp]
    · intro W hU hF
      have f0 := CS.out W hU
      clear hU hF
      go_simp
      exact rfl
    simp only [Act.put, List.setIfInBounds_toArray, List.set_cons_zero, List.set_cons_succ]
    with_reducible apply wpV_light
    · simp only [lightOp]
    · intro W hU hF
      have f0 := CS.out W hU
      clear hU hF
      go_simp
      exact rfl
    simp only [Act.put, List.setIfInBounds_toArray, List.set_cons_zero, List.set_cons_succ]
    with_reducible apply wpV_light
    · simp only [lightOp]
    · intro W hU hF
      have f0 := CS.out W hU
      clear hU hF
      go_simp
      exact rfl
    simp only [Act.put, List.setIfInBounds_toArray, List.set_cons_zero, List.set_cons_succ]
    with_reducible apply wpV_light
    · simp only [lightOp]
    · intro W hU hF
      have f0 := CS.out W hU
      clear hU hF
      go_simp
      exact rfl
    simp only [Act.put, List.setIfInBounds_toArray, List.set_cons_zero, List.set_cons_succ]
    with_reducible apply wpV_light
    · simp only [lightOp]
    · intro W hU hF
      have f0 := CS.out W hU
      clear hU hF
      go_simp
      exact rfl
    simp only [Act.put, List.setIfInBounds_toArray, List.set_cons_zero, List.set_cons_succ]
    with_reducible apply wpV_light
    · simp only [lightOp]
    · intro W hU hF
      have f0 := CS.out W hU
      clear hU hF
      go_simp
      exact rfl
    simp only [Act.put, List.setIfInBounds_toArray, List.set_cons_zero, List.set_cons_succ]
    with_reducible apply wpV_light
    · simp only [lightOp]
    · intro W hU hF
      have f0 := CS.out W hU
      clear hU hF
      go_simp
      exact rfl
    simp only [Act.put, List.setIfInBounds_toArray, List.set_cons_zero, List.set_cons_succ]
    with_reducible apply wpV_light
    · simp only [lightOp]
    · intro W hU hF
      have f0 := CS.out W hU
      clear hU hF
      go_simp
      exact rfl
    simp only [Act.put, List.setIfInBounds_toArray, List.set_cons_zero, List.set_cons_succ]
    with_reducible apply wpV_light
    · simp only [lightOp]
    · intro W hU hF
      have f0 := CS.out W hU
      clear hU hF
      go_simp
      exact rfl
    simp only [Act.put, List.setIfInBounds_toArray, List.set_cons_zero, List.set_cons_succ]
    refine wpV_end (fun W hU _ _ => ?_)
    have U2 : Hid (Upd [] w1 W) := Lib.hid ((Upd.refl [] w1).drew.trans hU)
    clear hU CS
    refine wpT_end ?_
    have BP2 := Lib.hid (BP.out.upd U2.out (by simp))
    have f0 : W.cell? ⟨w.heap.size, 0, none⟩ = some (.int .i64 0) := BP2.out.cell 0
    have f1 : W.cell? ⟨w.heap.size, 1, none⟩ = some (.int .i64 0) := BP2.out.cell 1
    have fz : ∀ k, W.frozen? ⟨w.heap.size, k, none⟩ = false := fun k => BP2.out.frozen k
    have fl : w.heap.size < W.heap.size := BP2.out.lt
    have BP4 : Hid (Blk ((W.setCell ⟨w.heap.size, 0, none⟩ (.int .i64 0)).setCell ⟨w.heap.size, 1, none⟩ (.int .i64 0)) w.heap.size 39 #[.int .i64 0, .int .i64 0]) := Lib.hid ((BP2.out.set_eq rfl).set_eq rfl)
    have U4 : Hid (Upd [] w ((W.setCell ⟨w.heap.size, 0, none⟩ (.int .i64 0)).setCell ⟨w.heap.size, 1, none⟩ (.int .i64 0))) := Lib.hid (((UA.out.trans U2.out).setCell (.inr (Nat.le_refl _)) _).setCell (.inr (Nat.le_refl _)) _)
    go_wp2_with fail
    clear f0 f1 fz fl
    generalize ((W.setCell ⟨w.heap.size, 0, none⟩ (.int .i64 0)).setCell ⟨w.heap.size, 1, none⟩ (.int .i64 0)) = W4 at *
    have d0 : W4.cell? ⟨w.heap.size, 0, none⟩ = some (.int .i64 0) := BP4.out.cell 0
    have d2 : W4.cell? ⟨w.heap.size, 1, none⟩ = some (.int .i64 0) := BP4.out.cell 1
    refine bodyPost_ret (v := .tuple #[.agg #[.int .i64 0, .int .i64 0], .bool false]) (by simp [results, Tryd.results35, go_sem, d0, d2]) rfl ?_
    have e : r[at_]? = none := List.getElem?_eq_none (by rw [HN.out]; omega)
    refine ⟨by rw [e]; rfl, ?_, U4.out.mono (by simp)⟩
    rw [if_neg (by rw [HN.out]; exact hlt)]
    exact H.out.upd0 U4.out
set_option maxRecDepth 100000 in
theorem i_next_nil (w : World) : Calls Tryd.prog 35 #[.pointer none] w fun e w' => e = .returned (toldP none) ∧ Upd [] w w' := by
  go_enter Tryd.func35, Tryd.ntmps35
  go_wp2_with fail
  have UA : Hid (Upd [] w (w.alloc (.cells #[.int .i64 0, .int .i64 0] 39))) := Lib.hid ((Upd.refl [] w).alloc _)
  have BP : Hid (Blk (w.alloc (.cells #[.int .i64 0, .int .i64 0] 39)) w.heap.size 39 #[.int .i64 0, .int .i64 0]) := Lib.hid (Blk.new w _ _)
  generalize (w.alloc (.cells #[.int .i64 0, .int .i64 0] 39)) = w1 at *
  refine wp_invN [] [] (by kernel_rfl) (by kernel_rfl) (by kernel_rfl) trivial ?_
  with_reducible apply wpV_light
  · simp only [lightOp]
  · intro W hU hF
    clear hU hF
    go_simp
    exact rfl
  simp only [Act.put, List.setIfInBounds_toArray, List.set_cons_zero, List.set_cons_succ]
  with_reducible apply wpV_light
  · simp only [lightOp]
  · intro W hU hF
    clear hU hF
    go_simp
    exact rfl
  simp only [Act.put, List.setIfInBounds_toArray, List.set_cons_zero, List.set_cons_succ]
  with_reducible apply wpV_light
  · simp only [lightOp]
  · intro W hU hF
    clear hU hF
    go_simp
    exact rfl
  simp only [Act.put, List.setIfInBounds_toArray, List.set_cons_zero, List.set_cons_succ]
  refine wpV_skip (by rfl) (by simp only [lightOp]) ?_
  simp only [Act.put, List.setIfInBounds_toArray, List.set_cons_zero, List.set_cons_succ]
  refine wpV_skip (by rfl) (by simp only [lightOp]) ?_
  simp only [Act.put, List.setIfInBounds_toArray, List.set_cons_zero, List.set_cons_succ]
  refine wpV_skip (by rfl) (by simp only [lightOp]) ?_
  simp only [Act.put, List.setIfInBounds_toArray, List.set_cons_zero, List.set_cons_succ]
  refine wpV_skip (by rfl) (by simp only [lightOp]) ?_
  simp only [Act.put, List.setIfInBounds_toArray, List.set_cons_zero, List.set_cons_succ]
  refine wpV_skip (by rfl) (by simp only [lightOp]) ?_
  simp only [Act.put, List.setIfInBounds_toArray, List.set_cons_zero, List.set_cons_succ]
  refine wpV_skip (by rfl) (by simp only [lightOp]) ?_
  simp only [Act.put, List.setIfInBounds_toArray, List.set_cons_zero, List.set_cons_succ]
  refine wpV_skip (by rfl) (by simp only [lightOp]) ?_
  simp only [Act.put, List.setIfInBounds_toArray, List.set_cons_zero, List.set_cons_succ]
  refine wpV_skip (by rfl) (by simp only [lightOp]) ?_
  simp only [Act.put, List.setIfInBounds_toArray, List.set_cons_zero, List.set_cons_succ]
  refine wpV_skip (by rfl) (by simp only [lightOp]) ?_
  simp only [Act.put, List.setIfInBounds_toArray, List.set_cons_zero, List.set_cons_succ]
  refine wpV_skip (by rfl) (by simp only [lightOp]) ?_
  simp only [Act.put, List.setIfInBounds_toArray, List.set_cons_zero, List.set_cons_succ]
  refine wpV_skip (by rfl) (by simp only [lightOp]) ?_
  simp only [Act.put, List.setIfInBounds_toArray, List.set_cons_zero, List.set_cons_succ]
  refine wpV_skip (by rfl) (by simp only [lightOp]) ?_
  simp only [Act.put, List.setIfInBounds_toArray, List.set_cons_zero, List.set_cons_succ]
  refine wpV_skip (by rfl) (by simp only [lightOp]) ?_
  simp only [Act.put, List.setIfInBounds_toArray, List.set_cons_zero, List.set_cons_succ]
  with_reducible apply wpV_light
  · simp only [lightOp]
  · intro W hU hF
    clear hU hF
    go_simp
    exact rfl
  simp only [Act.put, List.setIfInBounds_toArray, List.set_cons_zero, List.set_cons_succ]
  refine wpV_end (fun W hU _ _ => ?_)
  have U2 : Hid (Upd [] w1 W) := Lib.hid ((Upd.refl [] w1).drew.trans hU)
  clear hU
  refine wpT_end ?_
  have BP2 := Lib.hid (BP.out.upd U2.out (by simp))
  have f0 : W.cell? ⟨w.heap.size, 0, none⟩ = some (.int .i64 0) := BP2.out.cell 0
  have f1 : W.cell? ⟨w.heap.size, 1, none⟩ = some (.int .i64 0) := BP2.out.cell 1
  have fz : ∀ k, W.frozen? ⟨w.heap.size, k, none⟩ = false := fun k => BP2.out.frozen k
  have fl : w.heap.size < W.heap.size := BP2.out.lt
  have BP4 : Hid (Blk ((W.setCell ⟨w.heap.size, 0, none⟩ (.int .i64 0)).setCell ⟨w.heap.size, 1, none⟩ (.int .i64 0)) w.heap.size 39 #[.int .i64 0, .int .i64 0]) := Lib.hid ((BP2.out.set_eq rfl).set_eq rfl)
  have U4 : Hid (Upd [] w ((W.setCell ⟨w.heap.size, 0, none⟩ (.int .i64 0)).setCell ⟨w.heap.size, 1, none⟩ (.int .i64 0))) := Lib.hid (((UA.out.trans U2.out).setCell (.inr (Nat.le_refl _)) _).setCell (.inr (Nat.le_refl _)) _)
  go_wp2_with fail
  clear f0 f1 fz fl
  generalize ((W.setCell ⟨w.heap.size, 0, none⟩ (.int .i64 0)).setCell ⟨w.heap.size, 1, none⟩ (.int .i64 0)) = W4 at *
  have d0 : W4.cell? ⟨w.heap.size, 0, none⟩ = some (.int .i64 0) := BP4.out.cell 0
  have d2 : W4.cell? ⟨w.heap.size, 1, none⟩ = some (.int .i64 0) := BP4.out.cell 1
  refine bodyPost_ret (v := .tuple #[.agg #[.int .i64 0, .int .i64 0], .bool false]) (by simp [results, Tryd.results35, go_sem, d0, d2]) rfl ?_
  exact ⟨rfl, U4.out⟩
end Go.Proofs.YthdjbflbhgbckaaDoor

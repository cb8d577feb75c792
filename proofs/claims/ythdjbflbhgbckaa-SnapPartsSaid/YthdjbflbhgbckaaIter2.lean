/-
  Package snap: iterators go back, and to a key; how many there are still.
-/
import Derived.Test.YthdjbflbhgbckaaIter
set_option linter.unusedVariables false
namespace Go.Proofs.Ythdjbflbhgbckaa
open Go.RowKit Stab Snap
attribute [local go_sem] litStep_value

def BackPost (B ib sb : Nat) (r : PL) (at_ : Nat) (w : World) (e : Ending) (w' : World) : Prop := e = .returned (toldP (if at_ = 0 then none else r[at_ - 1]?)) ∧ IterIs B ib sb r (at_ - 1) w' ∧ Upd [ib] w w'
set_option maxRecDepth 100000 in
set_option maxHeartbeats 4000000 in
theorem i_back (B ib sb : Nat) (r : PL) (at_ : Nat) (w : World) (h : IterIs B ib sb r at_ w) : Calls Try.prog 19 #[.pointer (some ⟨ib, 0, none⟩)] w fun e w' => BackPost B ib sb r at_ w e w' := by
  have H := Lib.hid h
  obtain ⟨A, c, hb, ho⟩ := h.s.obj
  obtain ⟨n, hn⟩ : ∃ n, r.length = n := ⟨_, rfl⟩
  have HN := Lib.hid hn
  have hn1 : n ≤ 1000 := hn ▸ h.s.small
  have han : at_ ≤ n := hn ▸ h.le
  have HI := Lib.hid h.it
  clear h hb ho hn
  go_enter Try.func19, Try.ntmps19
  have UA : Hid (Upd [] w (w.alloc (.cells #[.int .i64 0, .int .i64 0] 42))) := Lib.hid ((Upd.refl [] w).alloc _)
  have BP : Hid (Blk (w.alloc (.cells #[.int .i64 0, .int .i64 0] 42)) w.heap.size 42 #[.int .i64 0, .int .i64 0]) := Lib.hid (Blk.new w _ _)
  have HI1 := Lib.hid (HI.out.upd UA.out (by simp))
  have c1 : (w.alloc (.cells #[.int .i64 0, .int .i64 0] 42)).cell? ⟨ib, 1, none⟩ = some (.int .i64 (at_ : Nat)) := HI1.out.cell 1
  by_cases h0 : at_ = 0
  · have d1 : ((at_ : Int) == 0) = true := by simpa using h0
    have H0 := Lib.hid h0
    clear h0
    go_wp2_with fail
    clear c1
    generalize (w.alloc (.cells #[.int .i64 0, .int .i64 0] 42)) = W4 at *
    have d0 : W4.cell? ⟨w.heap.size, 0, none⟩ = some (.int .i64 0) := BP.out.cell 0
    have d2 : W4.cell? ⟨w.heap.size, 1, none⟩ = some (.int .i64 0) := BP.out.cell 1
    refine bodyPost_ret (v := .tuple #[.agg #[.int .i64 0, .int .i64 0], .bool false]) (by simp [results, Try.results19, go_sem, d0, d2]) rfl ?_
    refine ⟨by rw [if_pos H0.out]; rfl, ?_, UA.out.mono (by simp)⟩
    rw [show at_ - 1 = at_ by have := H0.out; omega]
    exact H.out.upd0 UA.out
  · have d1 : ((at_ : Int) == 0) = false := by simpa using h0
    obtain ⟨a1, ha1⟩ : ∃ a1, a1 + 1 = at_ := ⟨at_ - 1, by omega⟩
    have t1 : (at_ : Int) - 1 = (a1 : Int) := by omega
    have HA1 := Lib.hid ha1
    have HI3 : Hid (Blk ((w.alloc (.cells #[.int .i64 0, .int .i64 0] 42)).setCell ⟨ib, 1, none⟩ (.int .i64 (a1 : Nat))) ib 87 #[.pointer (some ⟨sb, 0, none⟩), .int .i64 (a1 : Nat)]) := Lib.hid (HI1.out.set_eq rfl)
    have U3 : Hid (Upd [ib] w ((w.alloc (.cells #[.int .i64 0, .int .i64 0] 42)).setCell ⟨ib, 1, none⟩ (.int .i64 (a1 : Nat)))) := Lib.hid (((UA.out.mono (by simp)) : Upd [ib] w (w.alloc (.cells #[.int .i64 0, .int .i64 0] 42))).setCell (.inl (by simp)) _)
    have S3 : Hid (SnapIs B sb ((w.alloc (.cells #[.int .i64 0, .int .i64 0] 42)).setCell ⟨ib, 1, none⟩ (.int .i64 (a1 : Nat))) r) := Lib.hid ((H.out.s.upd0 UA.out).off HI1.out (by decide) (by decide) ((Upd.refl [ib] (w.alloc (.cells #[.int .i64 0, .int .i64 0] 42))).setCell (.inl (by simp)) _))
    have BP3 : Hid (Blk ((w.alloc (.cells #[.int .i64 0, .int .i64 0] 42)).setCell ⟨ib, 1, none⟩ (.int .i64 (a1 : Nat))) w.heap.size 42 #[.int .i64 0, .int .i64 0]) := Lib.hid (BP.out.far (by have := HI.out.lt; simp; omega) _)
    have g1 : (w.alloc (.cells #[.int .i64 0, .int .i64 0] 42)).frozen? ⟨ib, 1, none⟩ = false := HI1.out.frozen 1
    have g2 : ib < (w.alloc (.cells #[.int .i64 0, .int .i64 0] 42)).heap.size := HI1.out.lt
    clear ha1 h0
    go_wp2_with fail
    clear c1 g1 g2 HI1
    generalize ((w.alloc (.cells #[.int .i64 0, .int .i64 0] 42)).setCell ⟨ib, 1, none⟩ (.int .i64 (a1 : Nat))) = W3 at *
    obtain ⟨p, hp⟩ : ∃ p, r[a1]? = some p := ⟨_, List.getElem?_eq_getElem (by rw [HN.out]; omega)⟩
    have HP := Lib.hid hp
    obtain ⟨A3, c3, hb3, ho3⟩ := S3.out.obj
    rw [HN.out] at hb3 ho3
    obtain ⟨g, cg, cur, e1, -⟩ := own_form ho3 (by rw [HN.out]; omega)
    injection e1 with e1 en e1'
    subst e1 e1'
    have f0 : W3.cell? ⟨ib, 0, none⟩ = some (.pointer (some ⟨sb, 0, none⟩)) := HI3.out.cell 0
    have f1 : W3.cell? ⟨ib, 1, none⟩ = some (.int .i64 (a1 : Nat)) := HI3.out.cell 1
    have f2 : W3.cell? ⟨sb, 0, none⟩ = some (.slice (some ⟨g, 0, none⟩) n c3) := hb3.cell 0
    have f3 : W3.cell? ⟨g, a1 * 2, none⟩ = some (.int .i64 p.1) := ho3.at_ hp 0 _ rfl
    have f4 : W3.cell? ⟨g, a1 * 2 + 1, none⟩ = some (.int .i64 p.2) := ho3.at_ hp 1 _ rfl
    have f5 : W3.cell? ⟨w.heap.size, 0, none⟩ = some (.int .i64 0) := BP3.out.cell 0
    have f6 : W3.cell? ⟨w.heap.size, 1, none⟩ = some (.int .i64 0) := BP3.out.cell 1
    have fz : ∀ k, W3.frozen? ⟨w.heap.size, k, none⟩ = false := fun k => BP3.out.frozen k
    have fl : w.heap.size < W3.heap.size := BP3.out.lt
    have t2w : IntKind.i64.wrap (a1 : Int) = (a1 : Int) := by rw [IntKind.wrap_i64]; omega
    have t3 : (0 : Int) ≤ (a1 : Int) := by omega
    have t4 : (a1 : Int) < (n : Int) := by omega
    have BP4 : Hid (Blk (((W3.setCell ⟨w.heap.size, 0, none⟩ (.int .i64 p.1)).setCell ⟨w.heap.size, 1, none⟩ (.int .i64 p.2)).drew) w.heap.size 42 #[.int .i64 p.1, .int .i64 p.2]) := Lib.hid (((BP3.out.set_eq rfl).set_eq rfl).drew)
    have U5 : Hid (Upd [ib] w (((W3.setCell ⟨w.heap.size, 0, none⟩ (.int .i64 p.1)).setCell ⟨w.heap.size, 1, none⟩ (.int .i64 p.2)).drew)) := Lib.hid (((U3.out.setCell (.inr (Nat.le_refl _)) _).setCell (.inr (Nat.le_refl _)) _).drew)
    have HI5 : Hid (Blk (((W3.setCell ⟨w.heap.size, 0, none⟩ (.int .i64 p.1)).setCell ⟨w.heap.size, 1, none⟩ (.int .i64 p.2)).drew) ib 87 #[.pointer (some ⟨sb, 0, none⟩), .int .i64 (a1 : Nat)]) := Lib.hid (((HI3.out.far (by have := HI.out.lt; simp; omega) _).far (by have := HI.out.lt; simp; omega) _).drew)
    clear hp hb3 ho3 en t1
    go_region
    clear f0 f1 f2 f3 f4 f5 f6 fz fl
    generalize (((W3.setCell ⟨w.heap.size, 0, none⟩ (.int .i64 p.1)).setCell ⟨w.heap.size, 1, none⟩ (.int .i64 p.2)).drew) = W5 at *
    have d0 : W5.cell? ⟨w.heap.size, 0, none⟩ = some (.int .i64 p.1) := BP4.out.cell 0
    have d2 : W5.cell? ⟨w.heap.size, 1, none⟩ = some (.int .i64 p.2) := BP4.out.cell 1
    go_wp2_with fail
    refine bodyPost_ret (v := .tuple #[.agg #[.int .i64 p.1, .int .i64 p.2], .bool true]) (by simp [results, Try.results19, go_sem, d0, d2]) rfl ?_
    have ea : at_ - 1 = a1 := by have := HA1.out; omega
    refine ⟨by rw [if_neg (by have := HA1.out; omega), ea, HP.out]; rfl, ?_, U5.out⟩
    rw [ea]
    exact ⟨HI5.out, H.out.s.off HI.out (by decide) (by decide) U5.out, by rw [HN.out]; omega⟩
set_option maxRecDepth 100000 in
theorem i_back_nil (w : World) : Calls Try.prog 19 #[.pointer none] w fun e w' => e = .returned (toldP none) ∧ Upd [] w w' := by
  go_enter Try.func19, Try.ntmps19
  go_wp2_with fail
  have UA : Hid (Upd [] w (w.alloc (.cells #[.int .i64 0, .int .i64 0] 42))) := Lib.hid ((Upd.refl [] w).alloc _)
  have BP : Hid (Blk (w.alloc (.cells #[.int .i64 0, .int .i64 0] 42)) w.heap.size 42 #[.int .i64 0, .int .i64 0]) := Lib.hid (Blk.new w _ _)
  generalize (w.alloc (.cells #[.int .i64 0, .int .i64 0] 42)) = w1 at *
  have d0 : w1.cell? ⟨w.heap.size, 0, none⟩ = some (.int .i64 0) := BP.out.cell 0
  have d2 : w1.cell? ⟨w.heap.size, 1, none⟩ = some (.int .i64 0) := BP.out.cell 1
  refine bodyPost_ret (v := .tuple #[.agg #[.int .i64 0, .int .i64 0], .bool false]) (by simp [results, Try.results19, go_sem, d0, d2]) rfl ?_
  exact ⟨rfl, UA.out⟩
/-- A key's place: how many are below. -/
def seekN (r : PL) (key : Int) : Nat := (r.takeWhile (fun p => decide (p.1 < key))).length
theorem FindAt.seek {r : PL} {key : Int} {i : Nat} {b : Bool} (h : FindAt r key i b) : i = seekN r key := by
  have h1 : ∀ (r : PL) (i : Nat), i ≤ r.length → (∀ j, j < i → (r.getD j default).1 < key) → (∀ j, i ≤ j → j < r.length → key ≤ (r.getD j default).1) → i = seekN r key := by
    intro r
    induction r with
    | nil => intro i hi _ _; simp at hi; subst hi; rfl
    | cons p r ih =>
      intro i hi hl hh
      unfold seekN
      rw [List.takeWhile_cons]
      cases i with
      | zero =>
        have := hh 0 (Nat.le_refl _) (by simp)
        simp only [List.getD_cons_zero] at this
        rw [if_neg (by simp; omega)]
        rfl
      | succ i =>
        have := hl 0 (by omega)
        simp only [List.getD_cons_zero] at this
        rw [if_pos (by simp; omega), List.length_cons]
        congr 1
        refine ih i (by simp at hi; omega) (fun j hj => ?_) (fun j h1 h2 => ?_)
        · have := hl (j + 1) (by omega); simpa using this
        · have := hh (j + 1) (by omega) (by simp; omega); simpa using this
  exact h1 r i h.le h.lo h.hi
theorem seekN_le (r : PL) (key : Int) : seekN r key ≤ r.length := (List.takeWhile_sublist _).length_le
set_option maxRecDepth 100000 in
set_option maxHeartbeats 1000000 in
theorem i_seek (B ib sb : Nat) (r : PL) (at_ : Nat) (key : Int) (w : World) (h : IterIs B ib sb r at_ w) : Calls Try.prog 20 #[.pointer (some ⟨ib, 0, none⟩), .int .i64 key] w fun e w' => e = .returned (.tuple #[]) ∧ IterIs B ib sb r (seekN r key) w' ∧ Upd [ib] w w' := by
  have H := Lib.hid h
  have c0 : w.cell? ⟨ib, 0, none⟩ = some (.pointer (some ⟨sb, 0, none⟩)) := h.it.cell 0
  clear h
  go_enter Try.func20, Try.ntmps20
  go_wp2_with fail
  refine (s_find B sb r key w H.out.s).mono ?_
  rintro e w1 ⟨i, b, rfl, f, u⟩
  obtain rfl := f.seek
  have HI1 := Lib.hid (H.out.upd0 u)
  have U1 := Lib.hid u
  have g0 : w1.cell? ⟨ib, 1, none⟩ = some (.int .i64 (at_ : Nat)) := HI1.out.it.cell 1
  have g1 : w1.frozen? ⟨ib, 1, none⟩ = false := HI1.out.it.frozen 1
  have g2 : ib < w1.heap.size := HI1.out.it.lt
  clear f u c0
  go_wp2_with fail
  go_end0
  have hu : Upd [ib] w1 (w1.setCell ⟨ib, 1, none⟩ (.int .i64 (seekN r key : Nat))) := (Upd.refl [ib] w1).setCell (.inl (by simp)) _
  exact ⟨rfl, ⟨HI1.out.it.set_eq rfl, HI1.out.s.off HI1.out.it (by decide) (by decide) hu, seekN_le _ _⟩, (U1.out.mono (by simp)).trans hu⟩
set_option maxRecDepth 100000 in
theorem i_seek_nil (key : Int) (w : World) : Calls Try.prog 20 #[.pointer none, .int .i64 key] w fun e w' => e = .returned (.tuple #[]) ∧ w = w' := by
  go_enter Try.func20, Try.ntmps20
  go_wp2_with fail
  go_end0
  exact ⟨rfl, rfl⟩
set_option maxRecDepth 100000 in
set_option maxHeartbeats 1000000 in
theorem i_left (B ib sb : Nat) (r : PL) (at_ : Nat) (w : World) (h : IterIs B ib sb r at_ w) : Calls Try.prog 21 #[.pointer (some ⟨ib, 0, none⟩)] w fun e w' => e = .returned (.int .i64 ((r.length - at_ : Nat) : Int)) ∧ Upd [] w w' := by
  have HI := Lib.hid h.it
  obtain ⟨A, c, hb, ho⟩ := h.s.obj
  obtain ⟨n, hn⟩ : ∃ n, r.length = n := ⟨_, rfl⟩
  have HN := Lib.hid hn
  have hn1 : n ≤ 1000 := hn ▸ h.s.small
  have han : at_ ≤ n := hn ▸ h.le
  rw [hn] at hb
  have HB := Lib.hid hb
  clear h hb ho hn
  obtain ⟨d, hd⟩ : ∃ d, n - at_ = d := ⟨_, rfl⟩
  rw [HN.out, hd]
  go_enter Try.func21, Try.ntmps21
  go_wp2_with fail
  have CS : Hid (∀ W, Upd [] w.drew W → W.cell? ⟨ib, 0, none⟩ = some (.pointer (some ⟨sb, 0, none⟩)) ∧ W.cell? ⟨ib, 1, none⟩ = some (.int .i64 (at_ : Nat)) ∧ W.cell? ⟨sb, 0, none⟩ = some (.slice A n c)) := Lib.hid (fun W hW => by
    have hu := (Upd.refl [] w).drew.trans hW
    exact ⟨(HI.out.upd hu (by simp)).cell 0, (HI.out.upd hu (by simp)).cell 1, (HB.out.upd hu (by simp)).cell 0⟩)
  have t1 : (n : Int) - (at_ : Int) = (d : Int) := by omega
  have t1w : IntKind.i64.wrap (d : Int) = (d : Int) := by rw [IntKind.wrap_i64]; omega
  clear hd
  refine wp_invN [] [] (by kernel_rfl) (by kernel_rfl) (by kernel_rfl) trivial ?_
  with_reducible apply wpV_light
  · simp only [lightOp]
  · intro W hU hF
    have f0 := CS.out W hU
    clear hU hF
    go_simp
    exact rfl
  simp only [Act.put, List.setIfInBounds_toArray, List.set_cons_zero, List.set_cons_succ]
  with_reducible apply wpV_light
  · simp only [lightOp]
  · intro W hU hF
    have f0 := CS.out W hU
    clear hU hF
    go_simp
    exact rfl
  simp only [Act.put, List.setIfInBounds_toArray, List.set_cons_zero, List.set_cons_succ]
  with_reducible apply wpV_light
  · simp only [lightOp]
  · intro W hU hF
    have f0 := CS.out W hU
    clear hU hF
    go_simp
    exact rfl
  simp only [Act.put, List.setIfInBounds_toArray, List.set_cons_zero, List.set_cons_succ]
  with_reducible apply wpV_light
  · simp only [lightOp]
  · intro W hU hF
    have f0 := CS.out W hU
    clear hU hF
    go_simp
    exact rfl
  simp only [Act.put, List.setIfInBounds_toArray, List.set_cons_zero, List.set_cons_succ]
  with_reducible apply wpV_light
  · simp only [lightOp]
  · intro W hU hF
    have f0 := CS.out W hU
    clear hU hF
    go_simp
    exact rfl
  simp only [Act.put, List.setIfInBounds_toArray, List.set_cons_zero, List.set_cons_succ]
  with_reducible apply wpV_light
  · simp only [lightOp]
  · intro W hU hF
    have f0 := CS.out W hU
    clear hU hF
    go_simp
    exact rfl
  simp only [Act.put, List.setIfInBounds_toArray, List.set_cons_zero, List.set_cons_succ]
  with_reducible apply wpV_light
  · simp only [lightOp]
  · intro W hU hF
    have f0 := CS.out W hU
    clear hU hF
    go_simp
    exact rfl
  simp only [Act.put, List.setIfInBounds_toArray, List.set_cons_zero, List.set_cons_succ]
  with_reducible apply wpV_light
  · simp only [lightOp]
  · intro W hU hF
    have f0 := CS.out W hU
    clear hU hF
    go_simp
    exact rfl
  simp only [Act.put, List.setIfInBounds_toArray, List.set_cons_zero, List.set_cons_succ]
  with_reducible apply wpV_light
  · simp only [lightOp]
  · intro W hU hF
    have f0 := CS.out W hU
    clear hU hF
    go_simp
    exact rfl
  simp only [Act.put, List.setIfInBounds_toArray, List.set_cons_zero, List.set_cons_succ]
  with_reducible apply wpV_light
  · simp only [lightOp]
  · intro W hU hF
    have f0 := CS.out W hU
    clear hU hF
    go_simp
    exact rfl
  simp only [Act.put, List.setIfInBounds_toArray, List.set_cons_zero, List.set_cons_succ]
  with_reducible apply wpV_light
  · simp only [lightOp]
  · intro W hU hF
    have f0 := CS.out W hU
    clear hU hF
    go_simp
    exact rfl
  simp only [Act.put, List.setIfInBounds_toArray, List.set_cons_zero, List.set_cons_succ]
  with_reducible apply wpV_light
  · simp only [lightOp]
  · intro W hU hF
    have f0 := CS.out W hU
    clear hU hF
    go_simp
    exact rfl
  simp only [Act.put, List.setIfInBounds_toArray, List.set_cons_zero, List.set_cons_succ]
  with_reducible apply wpV_light
  · simp only [lightOp]
  · intro W hU hF
    have f0 := CS.out W hU
    clear hU hF
    go_simp
    exact rfl
  simp only [Act.put, List.setIfInBounds_toArray, List.set_cons_zero, List.set_cons_succ]
  with_reducible apply wpV_light
  · simp only [lightOp]
  · intro W hU hF
    have f0 := CS.out W hU
    clear hU hF
    go_simp
    exact rfl
  simp only [Act.put, List.setIfInBounds_toArray, List.set_cons_zero, List.set_cons_succ]
  refine wpV_end (fun W hU _ _ => ?_)
  have U2 : Hid (Upd [] w W) := Lib.hid ((Upd.refl [] w).drew.trans hU)
  clear hU CS
  refine wpT_end ?_
  go_wp2_with fail
  go_ret
  exact ⟨rfl, U2.out⟩
set_option maxRecDepth 100000 in
theorem i_left_nil (w : World) : Calls Try.prog 21 #[.pointer none] w fun e w' => e = .returned (.int .i64 0) ∧ w = w' := by
  go_enter Try.func21, Try.ntmps21
  go_wp2_with fail
  go_ret
  exact ⟨rfl, rfl⟩
end Go.Proofs.Ythdjbflbhgbckaa

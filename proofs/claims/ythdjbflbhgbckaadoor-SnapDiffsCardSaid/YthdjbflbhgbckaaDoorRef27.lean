/-
  concordref27: Find, put, Of, Merge.
-/
import Derived.Test.YthdjbflbhgbckaaDoorMerge
set_option linter.unusedVariables false
namespace Go.Proofs.YthdjbflbhgbckaaDoor
open Go.RowKit Stab Snap Mrg
attribute [local go_sem] litStep_value

/-- Where a key stands, as the document tells it. -/
def FindR (l : PL) (k r : Int) : Prop := (∃ i v, r = (i : Nat) ∧ l[i]? = some (k, v) ∧ (∀ j, j < i → (l.getD j default).1 ≠ k) ∧ Assoc.get l k = some v) ∨ (r = -1 ∧ Assoc.get l k = none)
theorem get_first {l : PL} {k v : Int} {i : Nat} (h : l[i]? = some (k, v)) (hn : ∀ j, j < i → (l.getD j default).1 ≠ k) : Assoc.get l k = some v := by
  induction l generalizing i with
  | nil => simp at h
  | cons a l ih =>
    rw [Assoc.get_cons]
    cases i with
    | zero => simp at h; subst h; simp
    | succ i =>
      rw [if_neg (by have := hn 0 (by omega); simpa using this)]
      exact ih (by simpa using h) (fun j hj => by have := hn (j + 1) (by omega); simpa using this)
theorem get_nowhere {l : PL} {k : Int} (hn : ∀ j, j < l.length → (l.getD j default).1 ≠ k) : Assoc.get l k = none := by
  refine Assoc.get_none.2 (fun p hp => ?_)
  obtain ⟨j, hj, e⟩ := List.getElem_of_mem hp
  have := hn j hj
  rw [List.getD_eq_getElem?_getD, List.getElem?_eq_getElem hj, e] at this
  exact this
def FindRPost (l : PL) (k : Int) (w : World) (e : Ending) (w' : World) : Prop := ∃ r, e = .returned (.int .i64 r) ∧ FindR l k r ∧ w = w'
set_option maxRecDepth 100000 in
theorem r_find (A : Option Addr) (n c : Nat) (l : PL) (k : Int) (w : World) (h : Rd encPr w (.slice A n c) l) (hn : l.length = n) (hl : n ≤ 1000) :
    Calls Tryd.prog 11 #[.slice A n c, .int .i64 k] w fun e w' => FindRPost l k w e w' := by
  have H := Lib.hid h
  have HN := Lib.hid hn
  clear h hn
  go_enter Tryd.func11, Tryd.ntmps11
  go_wp2_with fail
  go_loop [5] (fun v => ∃ j : Nat, v = .int .i64 j ∧ j ≤ n ∧ Hid (∀ i, i < j → (l.getD i default).1 ≠ k)) (fun v => n - (intOf v).toNat)
  case atStart => exact ⟨0, rfl, by omega, Lib.hid (fun j hj => by omega)⟩
  case round =>
    obtain ⟨j, rfl, hj, HA⟩ := hrel
    by_cases hjn : j < n
    · obtain ⟨⟨xk, xv⟩, hx⟩ : ∃ x, l[j]? = some x := ⟨_, List.getElem?_eq_getElem (by rw [HN.out]; omega)⟩
      obtain ⟨ad, rfl, hb, hc⟩ := H.out.at_ hx
      have f0 : w.cell? (ad.add (j * 2)) = some (.int .i64 xk) := hc 0 _ rfl
      have HX := Lib.hid hx
      have q3 : (0 : Int) ≤ (j : Int) := by omega
      have q4 : (j : Int) < (n : Int) := by omega
      clear hx hc
      by_cases hid : xk = k
      · subst hid
        go_wp2_with fail
        go_ret
        exact ⟨_, rfl, .inl ⟨j, xv, rfl, HX.out, HA.out, get_first HX.out HA.out⟩, rfl⟩
      · have d1 : (xk == k) = false := by simpa using hid
        have HZ : Hid (∀ p, p < j + 1 → (l.getD p default).1 ≠ k) := Lib.hid (fun p hp => by
          by_cases e : p = j
          · rw [e, List.getD_eq_getElem?_getD, HX.out]; exact hid
          · exact HA.out p (by omega))
        clear hid
        go_wp2_with fail
        go_round
        case rel => exact ⟨j + 1, by go_num, by omega, HZ⟩
        case measure => simp [intOf]; omega
    · have : j = n := by omega
      subst this
      go_wp2_with fail
      go_ret
      exact ⟨_, rfl, .inr ⟨rfl, get_nowhere (by rw [HN.out]; exact HA.out)⟩, rfl⟩
theorem put_at {l : PL} {k v : Int} {i : Nat} (hi : i ≤ l.length) (h1 : ∀ j, j < i → (l.getD j default).1 < k) (h2 : l.length = i ∨ k < (l.getD i default).1) : Assoc.put l k v = l.take i ++ ((k, v) :: l.drop i) := by
  induction l generalizing i with
  | nil => simp at hi; subst hi; rfl
  | cons a l ih =>
    unfold Assoc.put
    cases i with
    | zero =>
      have : k < a.1 := h2.elim (fun h => by simp at h) (fun h => by simpa using h)
      rw [if_pos this]
      rfl
    | succ i =>
      have h0 : a.1 < k := by have := h1 0 (by omega); simpa using this
      rw [if_neg (by omega), if_neg (by omega), ih (by simpa using hi) (fun j hj => by have := h1 (j + 1) (by omega); simpa using this) (h2.imp (fun h => by simpa using h) (fun h => by simpa using h))]
      rfl
def PutRPost (l : PL) (k v : Int) (w : World) (e : Ending) (w' : World) : Prop := ∃ u, e = .returned u ∧ Ow encPr 39 w' w.heap.size u (Assoc.put l k v) ∧ Upd [] w w'
set_option maxRecDepth 100000 in
set_option maxHeartbeats 4000000 in
theorem r_put (B : Nat) (A : Option Addr) (n c : Nat) (l : PL) (x y : Int) (w : World) (h : Ow encPr 39 w B (.slice A n c) l) (hn : l.length = n) (hl : n ≤ 1000) (hx : Assoc.get l x = none) :
    Calls Tryd.prog 26 #[.slice A n c, .agg #[.int .i64 x, .int .i64 y]] w fun e w' => PutRPost l x y w e w' := by
  have HO := Lib.hid h
  have HN := Lib.hid hn
  have HX0 := Lib.hid hx
  obtain ⟨A', c', e, hnc, hcm⟩ := own_slice h
  injection e with e1 e2 e3
  subst e1 e3
  rw [hn] at hnc
  unfold maxLen at hcm
  clear h hn hx e2
  go_enter Tryd.func26, Tryd.ntmps26
  go_wp2_with fail
  have U1 : Hid (Upd [] w (w.alloc (.cells #[.int .i64 x, .int .i64 y] 39))) := Lib.hid ((Upd.refl [] w).alloc _)
  have Y1 : Hid (Blk (w.alloc (.cells #[.int .i64 x, .int .i64 y] 39)) w.heap.size 39 #[.int .i64 x, .int .i64 y]) := Lib.hid (Blk.new w _ _)
  generalize (w.alloc (.cells #[.int .i64 x, .int .i64 y] 39)) = w1 at *
  go_loopw [5] (fun v wr => ∃ k : Nat, v = .int .i64 k ∧ k ≤ n ∧ Hid (Upd [] w1 wr) ∧ Hid (∀ j, j < k → (l.getD j default).1 < x)) (fun v _ => n - (intOf v).toNat)
  case atStart => exact ⟨0, rfl, by omega, Lib.hid (.refl _ _), Lib.hid (fun j hj => by omega)⟩
  case round =>
    obtain ⟨k, rfl, hk, KU, HA⟩ := hrel
    have q1 : (0 : Int) ≤ (k : Int) := by omega
    have q3 : (k : Int) ≤ (c : Int) := by omega
    have q4 : (n : Int) ≤ (c : Int) := by omega
    have q5 : (k : Int) ≤ (n : Int) := by omega
    by_cases hkn : k < n
    · obtain ⟨z, hz⟩ : ∃ z, l[k]? = some z := ⟨_, List.getElem?_eq_getElem (by rw [HN.out]; omega)⟩
      have HZD : Hid (l.getD k default = z) := Lib.hid (by rw [List.getD_eq_getElem?_getD, hz]; rfl)
      have HZM : Hid (z ∈ l) := Lib.hid (List.mem_of_getElem? hz)
      obtain ⟨g, cg, cur, e1, -⟩ := own_form HO.out (by rw [HN.out]; omega)
      injection e1 with e1 e2 e1'
      subst e1 e1'
      have CT : Hid (∀ W, Upd [] wr.drew W → W.cell? ⟨g, k * 2, none⟩ = some (.int .i64 z.1) ∧ W.cell? ⟨w.heap.size, 0, none⟩ = some (.int .i64 x)) := Lib.hid (fun W hW => by
        have hu : Upd [] w1 W := KU.out.drew.trans hW
        exact ⟨(HO.out.upd0 (U1.out.trans hu)).at_ hz 0 _ rfl, (Y1.out.upd hu (by simp)).cell 0⟩)
      have q2 : (k : Int) < (n : Int) := by omega
      clear hz e2
      by_cases hb : z.1 < x
      · have d1 : decide (z.1 < x) = true := by simpa using hb
        have HB := Lib.hid hb
        clear hb
        go_wp2_with fail
        refine wp_invN [] [] (by kernel_rfl) (by kernel_rfl) (by kernel_rfl) trivial ?_
        with_reducible apply wpV_light
        · simp only [lightOp]
        · intro W hU hF
          have f0 := CT.out W hU
          clear hU hF
          go_simp
          exact rfl
        simp only [Act.put, List.setIfInBounds_toArray, List.set_cons_zero, List.set_cons_succ]
        with_reducible apply wpV_light
        · simp only [lightOp]
        · intro W hU hF
          have f0 := CT.out W hU
          clear hU hF
          go_simp
          exact rfl
        simp only [Act.put, List.setIfInBounds_toArray, List.set_cons_zero, List.set_cons_succ]
        with_reducible apply wpV_light
        · simp only [lightOp]
        · intro W hU hF
          have f0 := CT.out W hU
          clear hU hF
          go_simp
          exact rfl
        simp only [Act.put, List.setIfInBounds_toArray, List.set_cons_zero, List.set_cons_succ]
        with_reducible apply wpV_light
        · simp only [lightOp]
        · intro W hU hF
          have f0 := CT.out W hU
          clear hU hF
          go_simp
          exact rfl
        simp only [Act.put, List.setIfInBounds_toArray, List.set_cons_zero, List.set_cons_succ]
        with_reducible apply wpV_light
        · simp only [lightOp]
        · intro W hU hF
          have f0 := CT.out W hU
          clear hU hF
          go_simp
          exact rfl
        simp only [Act.put, List.setIfInBounds_toArray, List.set_cons_zero, List.set_cons_succ]
        with_reducible apply wpV_light
        · simp only [lightOp]
        · intro W hU hF
          have f0 := CT.out W hU
          clear hU hF
          go_simp
          exact rfl
        simp only [Act.put, List.setIfInBounds_toArray, List.set_cons_zero, List.set_cons_succ]
        with_reducible apply wpV_light
        · simp only [lightOp]
        · intro W hU hF
          have f0 := CT.out W hU
          clear hU hF
          go_simp
          exact rfl
        simp only [Act.put, List.setIfInBounds_toArray, List.set_cons_zero, List.set_cons_succ]
        with_reducible apply wpV_light
        · simp only [lightOp]
        · intro W hU hF
          have f0 := CT.out W hU
          clear hU hF
          go_simp
          exact rfl
        simp only [Act.put, List.setIfInBounds_toArray, List.set_cons_zero, List.set_cons_succ]
        with_reducible apply wpV_light
        · simp only [lightOp]
        · intro W hU hF
          have f0 := CT.out W hU
          clear hU hF
          go_simp
          exact rfl
        simp only [Act.put, List.setIfInBounds_toArray, List.set_cons_zero, List.set_cons_succ]
        with_reducible apply wpV_light
        · simp only [lightOp]
        · intro W hU hF
          have f0 := CT.out W hU
          clear hU hF
          go_simp
          exact rfl
        simp only [Act.put, List.setIfInBounds_toArray, List.set_cons_zero, List.set_cons_succ]
        with_reducible apply wpV_light
        · simp only [lightOp]
        · intro W hU hF
          have f0 := CT.out W hU
          clear hU hF
          go_simp
          exact rfl
        simp only [Act.put, List.setIfInBounds_toArray, List.set_cons_zero, List.set_cons_succ]
        with_reducible apply wpV_light
        · simp only [lightOp]
        · intro W hU hF
          have f0 := CT.out W hU
          clear hU hF
          go_simp
          exact rfl
        simp only [Act.put, List.setIfInBounds_toArray, List.set_cons_zero, List.set_cons_succ]
        with_reducible apply wpV_light
        · simp only [lightOp]
        · intro W hU hF
          have f0 := CT.out W hU
          clear hU hF
          go_simp
          exact rfl
        simp only [Act.put, List.setIfInBounds_toArray, List.set_cons_zero, List.set_cons_succ]
        with_reducible apply wpV_light
        · simp only [lightOp]
        · intro W hU hF
          have f0 := CT.out W hU
          clear hU hF
          go_simp
          exact rfl
        simp only [Act.put, List.setIfInBounds_toArray, List.set_cons_zero, List.set_cons_succ]
        refine wpV_end (fun W hU _ _ => ?_)
        have U2 : Hid (Upd [] w1 W) := Lib.hid (KU.out.drew.trans hU)
        clear hU
        refine wpT_end ?_
        go_wp2_with fail
        go_roundw
        case rel => exact ⟨k + 1, by go_num, by omega, U2, Lib.hid (fun j hj => by
          by_cases e : j = k
          · rw [e, HZD.out]; exact HB.out
          · exact HA.out j (by omega))⟩
        case measure => simp [intOf]; omega
      · have d1 : decide (z.1 < x) = false := by simpa using hb
        have HE : Hid (l.length = k ∨ x < (l.getD k default).1) := Lib.hid (.inr (by
          rw [HZD.out]
          have := Assoc.get_none.1 HX0.out z HZM.out
          omega))
        clear hb
        go_wp2_with fail
        refine wp_invN [] [] (by kernel_rfl) (by kernel_rfl) (by kernel_rfl) trivial ?_
        with_reducible apply wpV_light
        · simp only [lightOp]
        · intro W hU hF
          have f0 := CT.out W hU
          clear hU hF
          go_simp
          exact rfl
        simp only [Act.put, List.setIfInBounds_toArray, List.set_cons_zero, List.set_cons_succ]
        with_reducible apply wpV_light
        · simp only [lightOp]
        · intro W hU hF
          have f0 := CT.out W hU
          clear hU hF
          go_simp
          exact rfl
        simp only [Act.put, List.setIfInBounds_toArray, List.set_cons_zero, List.set_cons_succ]
        with_reducible apply wpV_light
        · simp only [lightOp]
        · intro W hU hF
          have f0 := CT.out W hU
          clear hU hF
          go_simp
          exact rfl
        simp only [Act.put, List.setIfInBounds_toArray, List.set_cons_zero, List.set_cons_succ]
        with_reducible apply wpV_light
        · simp only [lightOp]
        · intro W hU hF
          have f0 := CT.out W hU
          clear hU hF
          go_simp
          exact rfl
        simp only [Act.put, List.setIfInBounds_toArray, List.set_cons_zero, List.set_cons_succ]
        with_reducible apply wpV_light
        · simp only [lightOp]
        · intro W hU hF
          have f0 := CT.out W hU
          clear hU hF
          go_simp
          exact rfl
        simp only [Act.put, List.setIfInBounds_toArray, List.set_cons_zero, List.set_cons_succ]
        with_reducible apply wpV_light
        · simp only [lightOp]
        · intro W hU hF
          have f0 := CT.out W hU
          clear hU hF
          go_simp
          exact rfl
        simp only [Act.put, List.setIfInBounds_toArray, List.set_cons_zero, List.set_cons_succ]
        with_reducible apply wpV_light
        · simp only [lightOp]
        · intro W hU hF
          have f0 := CT.out W hU
          clear hU hF
          go_simp
          exact rfl
        simp only [Act.put, List.setIfInBounds_toArray, List.set_cons_zero, List.set_cons_succ]
        with_reducible apply wpV_light
        · simp only [lightOp]
        · intro W hU hF
          have f0 := CT.out W hU
          clear hU hF
          go_simp
          exact rfl
        simp only [Act.put, List.setIfInBounds_toArray, List.set_cons_zero, List.set_cons_succ]
        with_reducible apply wpV_light
        · simp only [lightOp]
        · intro W hU hF
          have f0 := CT.out W hU
          clear hU hF
          go_simp
          exact rfl
        simp only [Act.put, List.setIfInBounds_toArray, List.set_cons_zero, List.set_cons_succ]
        with_reducible apply wpV_light
        · simp only [lightOp]
        · intro W hU hF
          have f0 := CT.out W hU
          clear hU hF
          go_simp
          exact rfl
        simp only [Act.put, List.setIfInBounds_toArray, List.set_cons_zero, List.set_cons_succ]
        with_reducible apply wpV_light
        · simp only [lightOp]
        · intro W hU hF
          have f0 := CT.out W hU
          clear hU hF
          go_simp
          exact rfl
        simp only [Act.put, List.setIfInBounds_toArray, List.set_cons_zero, List.set_cons_succ]
        with_reducible apply wpV_light
        · simp only [lightOp]
        · intro W hU hF
          have f0 := CT.out W hU
          clear hU hF
          go_simp
          exact rfl
        simp only [Act.put, List.setIfInBounds_toArray, List.set_cons_zero, List.set_cons_succ]
        with_reducible apply wpV_light
        · simp only [lightOp]
        · intro W hU hF
          have f0 := CT.out W hU
          clear hU hF
          go_simp
          exact rfl
        simp only [Act.put, List.setIfInBounds_toArray, List.set_cons_zero, List.set_cons_succ]
        with_reducible apply wpV_light
        · simp only [lightOp]
        · intro W hU hF
          have f0 := CT.out W hU
          clear hU hF
          go_simp
          exact rfl
        simp only [Act.put, List.setIfInBounds_toArray, List.set_cons_zero, List.set_cons_succ]
        refine wpV_end (fun w2 hU _ _ => ?_)
        have U2 : Hid (Upd [] w1 w2) := Lib.hid (KU.out.drew.trans hU)
        clear hU CT
        refine wpT_end ?_
        generalize (some (⟨g, 0, none⟩ : Addr)) = A at *
        have W2 : Hid (Upd [] w w2) := Lib.hid (U1.out.trans U2.out)
        have CS : Hid (∀ W, Upd [] w2.drew W → W.cell? ⟨w.heap.size, 0, none⟩ = some (.int .i64 x) ∧ W.cell? ⟨w.heap.size, 1, none⟩ = some (.int .i64 y)) := Lib.hid (fun W hW => by
          have hu : Upd [] w2 W := (Upd.refl [] w2).drew.trans hW
          have hy := Y1.out.upd (U2.out.trans hu) (by simp)
          exact ⟨hy.cell 0, hy.cell 1⟩)
        have F1 : Hid (∀ W, Upd [] w2.drew W → Src W 2 (.slice A k c) k (flat encPr (l.take k))) := Lib.hid (fun W hW => by
          have hu : Upd [] w2 W := (Upd.refl [] w2).drew.trans hW
          have := (HO.out.upd0 (W2.out.trans hu)).rd.take k (by rw [HN.out]; exact hk) c
          unfold Rd at this
          rwa [List.length_take, HN.out, Nat.min_eq_left hk] at this)
        have F2 : Hid (∀ W, Upd [] w2.drew W → Src W 2 (.slice (if c = k then A else Option.map (fun x => x.add (k * 2)) A) (n - k) (c - k)) (n - k) (flat encPr (l.drop k))) := Lib.hid (fun W hW => by
          have hu : Upd [] w2 W := (Upd.refl [] w2).drew.trans hW
          have := (HO.out.upd0 (W2.out.trans hu)).rd.drop k (by rw [HN.out]; exact hk) hnc (c - k)
          unfold Rd at this
          rwa [List.length_drop, HN.out] at this)
        have SZ : Hid (w.heap.size ≤ w2.heap.size) := Lib.hid W2.out.size
        have EQ : Hid (flat encPr (l.take k) ++ ([Value.int .i64 x, Value.int .i64 y] ++ flat encPr (l.drop k)) = flat encPr (Assoc.put l x y) ∧ (Assoc.put l x y).length = n + 1) := Lib.hid (by
          rw [put_at (by rw [HN.out]; exact hk) HA.out HE.out]
          refine ⟨?_, ?_⟩
          · rw [flat_append, flat_cons]; rfl
          · simp [HN.out]; omega)
        clear KU
        go_wp2_with fail
        refine wp_invN [(0, .own w.heap.size 39 2 0 []), (4, .own w.heap.size 39 2 k (flat encPr (l.take k))), (6, .lit 39 #[.int .i64 x, .int .i64 y] 1), (7, .own w.heap.size 39 2 (k + 1) (flat encPr (l.take k) ++ [.int .i64 x, .int .i64 y])), (11, .own w.heap.size 39 2 (n + 1) (flat encPr (l.take k) ++ [.int .i64 x, .int .i64 y] ++ flat encPr (l.drop k)))] [(4, [0]), (7, [4]), (11, [7])] (by kernel_rfl) (by kernel_rfl) (by kernel_rfl) ⟨lasts_own _ _ _ _ _ (by simp [maxLen]), lasts_own _ _ _ _ _ (by unfold maxLen; omega), lasts_lit _ _ _, lasts_own _ _ _ _ _ (by unfold maxLen; omega), lasts_own _ _ _ _ _ (by unfold maxLen; omega), trivial⟩ ?_
        refine wpV_heavy (by simp only [lightOp]) (by rfl) (fun W hU hk hF K hK => ?_) ?_
        · go_wp2_with fail
          exact wpV_made hK rfl rfl rfl rfl (Nat.le_trans SZ.out hU.size)
        rintro _ ⟨A1, c1, rfl, _, _⟩
        simp only [Act.put, List.setIfInBounds_toArray, List.set_cons_zero, List.set_cons_succ]
        with_reducible apply wpV_light
        · simp only [lightOp]
        · intro W hU hF
          have f0 := CS.out W hU
          clear hU hF
          go_simp
          exact rfl
        simp only [Act.put, List.setIfInBounds_toArray, List.set_cons_zero, List.set_cons_succ]
        with_reducible apply wpV_light
        · simp only [lightOp]
        · intro W hU hF
          have f0 := CS.out W hU
          clear hU hF
          go_simp
          exact rfl
        simp only [Act.put, List.setIfInBounds_toArray, List.set_cons_zero, List.set_cons_succ]
        with_reducible apply wpV_light
        · simp only [lightOp]
        · intro W hU hF
          have f0 := CS.out W hU
          clear hU hF
          go_simp
          exact rfl
        simp only [Act.put, List.setIfInBounds_toArray, List.set_cons_zero, List.set_cons_succ]
        refine wpV_heavy (by simp only [lightOp]) (by rfl) (fun W hU hk hF K hK => ?_) ?_
        · exact wpV_app hK (.tmp 22) (.tmp 25) _ (by rfl) elem_pair _ _ (by rfl) (by rfl) rfl rfl (by simp [usedV, mkI, conOf, specOf, Spec.own]) (hF.out.1 (by kernel_rfl)) (F1.out W hU) (by omega) (by simp) flat_cells (by unfold maxLen; omega) (by omega) (Nat.le_trans SZ.out hU.size)
        rintro _ ⟨A2, c2, rfl, _, _⟩
        simp only [Act.put, List.setIfInBounds_toArray, List.set_cons_zero, List.set_cons_succ]
        with_reducible apply wpV_light
        · simp only [lightOp]
        · intro W hU hF
          have f0 := CS.out W hU
          clear hU hF
          go_simp
          exact rfl
        simp only [Act.put, List.setIfInBounds_toArray, List.set_cons_zero, List.set_cons_succ]
        refine wpV_heavy (by simp only [lightOp]) (by rfl) (fun W hU hk hF K hK => ?_) ?_
        · go_wp2_with fail
          exact wpV_lit hK rfl rfl rfl
        rintro _ ⟨g3, rfl⟩
        simp only [Act.put, List.setIfInBounds_toArray, List.set_cons_zero, List.set_cons_succ]
        refine wpV_heavy (by simp only [lightOp]) (by rfl) (fun W hU hk hF K hK => ?_) ?_
        · obtain ⟨g', he, hbl⟩ := hF.out.2.2.1 (by kernel_rfl)
          injection he with he _ _
          injection he with he
          injection he with he
          subst he
          exact wpV_app hK (.tmp 26) (.tmp 28) _ (by rfl) elem_pair _ _ (by rfl) (by rfl) rfl rfl (by simp [usedV, mkI, conOf, specOf, Spec.own]) (hF.out.2.1 (by kernel_rfl)) (.of_blk hbl (m := 1) 1 rfl) (by omega) (by simp) (by intro u hu; simp at hu; rcases hu with rfl | rfl <;> rfl) (by unfold maxLen; omega) (by omega) (Nat.le_trans SZ.out hU.size)
        rintro _ ⟨A4, c4, rfl, _, _⟩
        simp only [Act.put, List.setIfInBounds_toArray, List.set_cons_zero, List.set_cons_succ]
        with_reducible apply wpV_light
        · simp only [lightOp]
        · intro W hU hF
          have f0 := CS.out W hU
          clear hU hF
          go_simp
          exact rfl
        simp only [Act.put, List.setIfInBounds_toArray, List.set_cons_zero, List.set_cons_succ]
        with_reducible apply wpV_light
        · simp only [lightOp]
        · intro W hU hF
          have f0 := CS.out W hU
          clear hU hF
          go_simp
          exact rfl
        simp only [Act.put, List.setIfInBounds_toArray, List.set_cons_zero, List.set_cons_succ]
        with_reducible apply wpV_light
        · simp only [lightOp]
        · intro W hU hF
          have f0 := CS.out W hU
          clear hU hF
          go_simp
          exact rfl
        simp only [Act.put, List.setIfInBounds_toArray, List.set_cons_zero, List.set_cons_succ]
        refine wpV_heavy (by simp only [lightOp]) (by rfl) (fun W hU hk hF K hK => ?_) ?_
        · exact wpV_app hK (.tmp 29) (.tmp 32) _ (by rfl) elem_pair _ _ (by rfl) (by rfl) rfl rfl (by simp [usedV, mkI, conOf, specOf, Spec.own]) (hF.out.2.2.2.1 (by kernel_rfl)) (F2.out W hU) (by omega) (by simp) flat_cells (by unfold maxLen; omega) (by omega) (Nat.le_trans SZ.out hU.size)
        rintro _ ⟨A5, c5, rfl, _, _⟩
        simp only [Act.put, List.setIfInBounds_toArray, List.set_cons_zero, List.set_cons_succ]
        with_reducible apply wpV_light
        · simp only [lightOp]
        · intro W hU hF
          have f0 := CS.out W hU
          clear hU hF
          go_simp
          exact rfl
        simp only [Act.put, List.setIfInBounds_toArray, List.set_cons_zero, List.set_cons_succ]
        refine wpV_end (fun W hU _ hF => ?_)
        have U3 : Hid (Upd [] w W) := Lib.hid (W2.out.drew.trans hU)
        have O3 : Hid (Ow encPr 39 W w.heap.size (.slice A5 (n + 1) c5) (Assoc.put l x y)) := Lib.hid (by
          have := hF.out.2.2.2.2.1 (by kernel_rfl)
          unfold Ow
          rw [EQ.out.2, ← EQ.out.1, ← List.append_assoc]
          exact this)
        clear hU hF
        refine wpT_end ?_
        go_wp2_with fail
        all_goals
          go_ret
          exact ⟨_, rfl, O3.out, U3.out⟩
    · have HE : Hid (l.length = k ∨ x < (l.getD k default).1) := Lib.hid (.inl (by rw [HN.out]; omega))
      have d1 : decide ((k : Int) < (n : Int)) = false := by simp; omega
      go_wp2_with fail
      refine wp_invN [] [] (by kernel_rfl) (by kernel_rfl) (by kernel_rfl) trivial ?_
      with_reducible apply wpV_light
      · simp only [lightOp]
      · intro W hU hF
        clear hU hF
        go_simp
        exact rfl
      simp only [Act.put, List.setIfInBounds_toArray, List.set_cons_zero, List.set_cons_succ]
      with_reducible apply wpV_light
      · simp only [lightOp]
      · intro W hU hF
        clear hU hF
        go_simp
        exact rfl
      simp only [Act.put, List.setIfInBounds_toArray, List.set_cons_zero, List.set_cons_succ]
      with_reducible apply wpV_light
      · simp only [lightOp]
      · intro W hU hF
        clear hU hF
        go_simp
        exact rfl
      simp only [Act.put, List.setIfInBounds_toArray, List.set_cons_zero, List.set_cons_succ]
      with_reducible apply wpV_light
      · simp only [lightOp]
      · intro W hU hF
        clear hU hF
        go_simp
        exact rfl
      simp only [Act.put, List.setIfInBounds_toArray, List.set_cons_zero, List.set_cons_succ]
      with_reducible apply wpV_light
      · simp only [lightOp]
      · intro W hU hF
        clear hU hF
        go_simp
        exact rfl
      simp only [Act.put, List.setIfInBounds_toArray, List.set_cons_zero, List.set_cons_succ]
      refine wpV_skip (by rfl) (by simp only [lightOp]) ?_
      simp only [Act.put, List.setIfInBounds_toArray, List.set_cons_zero, List.set_cons_succ]
      refine wpV_skip (by rfl) (by simp only [lightOp]) ?_
      simp only [Act.put, List.setIfInBounds_toArray, List.set_cons_zero, List.set_cons_succ]
      refine wpV_skip (by rfl) (by simp only [lightOp]) ?_
      simp only [Act.put, List.setIfInBounds_toArray, List.set_cons_zero, List.set_cons_succ]
      refine wpV_skip (by rfl) (by simp only [lightOp]) ?_
      simp only [Act.put, List.setIfInBounds_toArray, List.set_cons_zero, List.set_cons_succ]
      refine wpV_skip (by rfl) (by simp only [lightOp]) ?_
      simp only [Act.put, List.setIfInBounds_toArray, List.set_cons_zero, List.set_cons_succ]
      refine wpV_skip (by rfl) (by simp only [lightOp]) ?_
      simp only [Act.put, List.setIfInBounds_toArray, List.set_cons_zero, List.set_cons_succ]
      refine wpV_skip (by rfl) (by simp only [lightOp]) ?_
      simp only [Act.put, List.setIfInBounds_toArray, List.set_cons_zero, List.set_cons_succ]
      refine wpV_skip (by rfl) (by simp only [lightOp]) ?_
      simp only [Act.put, List.setIfInBounds_toArray, List.set_cons_zero, List.set_cons_succ]
      with_reducible apply wpV_light
      · simp only [lightOp]
      · intro W hU hF
        clear hU hF
        go_simp
        exact rfl
      simp only [Act.put, List.setIfInBounds_toArray, List.set_cons_zero, List.set_cons_succ]
      refine wpV_end (fun w2 hU _ _ => ?_)
      have U2 : Hid (Upd [] w1 w2) := Lib.hid (KU.out.drew.trans hU)
      clear hU
      refine wpT_end ?_
      have W2 : Hid (Upd [] w w2) := Lib.hid (U1.out.trans U2.out)
      have CS : Hid (∀ W, Upd [] w2.drew W → W.cell? ⟨w.heap.size, 0, none⟩ = some (.int .i64 x) ∧ W.cell? ⟨w.heap.size, 1, none⟩ = some (.int .i64 y)) := Lib.hid (fun W hW => by
        have hu : Upd [] w2 W := (Upd.refl [] w2).drew.trans hW
        have hy := Y1.out.upd (U2.out.trans hu) (by simp)
        exact ⟨hy.cell 0, hy.cell 1⟩)
      have F1 : Hid (∀ W, Upd [] w2.drew W → Src W 2 (.slice A k c) k (flat encPr (l.take k))) := Lib.hid (fun W hW => by
        have hu : Upd [] w2 W := (Upd.refl [] w2).drew.trans hW
        have := (HO.out.upd0 (W2.out.trans hu)).rd.take k (by rw [HN.out]; exact hk) c
        unfold Rd at this
        rwa [List.length_take, HN.out, Nat.min_eq_left hk] at this)
      have F2 : Hid (∀ W, Upd [] w2.drew W → Src W 2 (.slice (if c = k then A else Option.map (fun x => x.add (k * 2)) A) (n - k) (c - k)) (n - k) (flat encPr (l.drop k))) := Lib.hid (fun W hW => by
        have hu : Upd [] w2 W := (Upd.refl [] w2).drew.trans hW
        have := (HO.out.upd0 (W2.out.trans hu)).rd.drop k (by rw [HN.out]; exact hk) hnc (c - k)
        unfold Rd at this
        rwa [List.length_drop, HN.out] at this)
      have SZ : Hid (w.heap.size ≤ w2.heap.size) := Lib.hid W2.out.size
      have EQ : Hid (flat encPr (l.take k) ++ ([Value.int .i64 x, Value.int .i64 y] ++ flat encPr (l.drop k)) = flat encPr (Assoc.put l x y) ∧ (Assoc.put l x y).length = n + 1) := Lib.hid (by
        rw [put_at (by rw [HN.out]; exact hk) HA.out HE.out]
        refine ⟨?_, ?_⟩
        · rw [flat_append, flat_cons]; rfl
        · simp [HN.out]; omega)
      clear KU
      go_wp2_with fail
      refine wp_invN [(0, .own w.heap.size 39 2 0 []), (4, .own w.heap.size 39 2 k (flat encPr (l.take k))), (6, .lit 39 #[.int .i64 x, .int .i64 y] 1), (7, .own w.heap.size 39 2 (k + 1) (flat encPr (l.take k) ++ [.int .i64 x, .int .i64 y])), (11, .own w.heap.size 39 2 (n + 1) (flat encPr (l.take k) ++ [.int .i64 x, .int .i64 y] ++ flat encPr (l.drop k)))] [(4, [0]), (7, [4]), (11, [7])] (by kernel_rfl) (by kernel_rfl) (by kernel_rfl) ⟨lasts_own _ _ _ _ _ (by simp [maxLen]), lasts_own _ _ _ _ _ (by unfold maxLen; omega), lasts_lit _ _ _, lasts_own _ _ _ _ _ (by unfold maxLen; omega), lasts_own _ _ _ _ _ (by unfold maxLen; omega), trivial⟩ ?_
      refine wpV_heavy (by simp only [lightOp]) (by rfl) (fun W hU hk hF K hK => ?_) ?_
      · go_wp2_with fail
        exact wpV_made hK rfl rfl rfl rfl (Nat.le_trans SZ.out hU.size)
      rintro _ ⟨A1, c1, rfl, _, _⟩
      simp only [Act.put, List.setIfInBounds_toArray, List.set_cons_zero, List.set_cons_succ]
      with_reducible apply wpV_light
      · simp only [lightOp]
      · intro W hU hF
        have f0 := CS.out W hU
        clear hU hF
        go_simp
        exact rfl
      simp only [Act.put, List.setIfInBounds_toArray, List.set_cons_zero, List.set_cons_succ]
      with_reducible apply wpV_light
      · simp only [lightOp]
      · intro W hU hF
        have f0 := CS.out W hU
        clear hU hF
        go_simp
        exact rfl
      simp only [Act.put, List.setIfInBounds_toArray, List.set_cons_zero, List.set_cons_succ]
      with_reducible apply wpV_light
      · simp only [lightOp]
      · intro W hU hF
        have f0 := CS.out W hU
        clear hU hF
        go_simp
        exact rfl
      simp only [Act.put, List.setIfInBounds_toArray, List.set_cons_zero, List.set_cons_succ]
      refine wpV_heavy (by simp only [lightOp]) (by rfl) (fun W hU hk hF K hK => ?_) ?_
      · exact wpV_app hK (.tmp 22) (.tmp 25) _ (by rfl) elem_pair _ _ (by rfl) (by rfl) rfl rfl (by simp [usedV, mkI, conOf, specOf, Spec.own]) (hF.out.1 (by kernel_rfl)) (F1.out W hU) (by omega) (by simp) flat_cells (by unfold maxLen; omega) (by omega) (Nat.le_trans SZ.out hU.size)
      rintro _ ⟨A2, c2, rfl, _, _⟩
      simp only [Act.put, List.setIfInBounds_toArray, List.set_cons_zero, List.set_cons_succ]
      with_reducible apply wpV_light
      · simp only [lightOp]
      · intro W hU hF
        have f0 := CS.out W hU
        clear hU hF
        go_simp
        exact rfl
      simp only [Act.put, List.setIfInBounds_toArray, List.set_cons_zero, List.set_cons_succ]
      refine wpV_heavy (by simp only [lightOp]) (by rfl) (fun W hU hk hF K hK => ?_) ?_
      · go_wp2_with fail
        exact wpV_lit hK rfl rfl rfl
      rintro _ ⟨g3, rfl⟩
      simp only [Act.put, List.setIfInBounds_toArray, List.set_cons_zero, List.set_cons_succ]
      refine wpV_heavy (by simp only [lightOp]) (by rfl) (fun W hU hk hF K hK => ?_) ?_
      · obtain ⟨g', he, hbl⟩ := hF.out.2.2.1 (by kernel_rfl)
        injection he with he _ _
        injection he with he
        injection he with he
        subst he
        exact wpV_app hK (.tmp 26) (.tmp 28) _ (by rfl) elem_pair _ _ (by rfl) (by rfl) rfl rfl (by simp [usedV, mkI, conOf, specOf, Spec.own]) (hF.out.2.1 (by kernel_rfl)) (.of_blk hbl (m := 1) 1 rfl) (by omega) (by simp) (by intro u hu; simp at hu; rcases hu with rfl | rfl <;> rfl) (by unfold maxLen; omega) (by omega) (Nat.le_trans SZ.out hU.size)
      rintro _ ⟨A4, c4, rfl, _, _⟩
      simp only [Act.put, List.setIfInBounds_toArray, List.set_cons_zero, List.set_cons_succ]
      with_reducible apply wpV_light
      · simp only [lightOp]
      · intro W hU hF
        have f0 := CS.out W hU
        clear hU hF
        go_simp
        exact rfl
      simp only [Act.put, List.setIfInBounds_toArray, List.set_cons_zero, List.set_cons_succ]
      with_reducible apply wpV_light
      · simp only [lightOp]
      · intro W hU hF
        have f0 := CS.out W hU
        clear hU hF
        go_simp
        exact rfl
      simp only [Act.put, List.setIfInBounds_toArray, List.set_cons_zero, List.set_cons_succ]
      with_reducible apply wpV_light
      · simp only [lightOp]
      · intro W hU hF
        have f0 := CS.out W hU
        clear hU hF
        go_simp
        exact rfl
      simp only [Act.put, List.setIfInBounds_toArray, List.set_cons_zero, List.set_cons_succ]
      refine wpV_heavy (by simp only [lightOp]) (by rfl) (fun W hU hk hF K hK => ?_) ?_
      · exact wpV_app hK (.tmp 29) (.tmp 32) _ (by rfl) elem_pair _ _ (by rfl) (by rfl) rfl rfl (by simp [usedV, mkI, conOf, specOf, Spec.own]) (hF.out.2.2.2.1 (by kernel_rfl)) (F2.out W hU) (by omega) (by simp) flat_cells (by unfold maxLen; omega) (by omega) (Nat.le_trans SZ.out hU.size)
      rintro _ ⟨A5, c5, rfl, _, _⟩
      simp only [Act.put, List.setIfInBounds_toArray, List.set_cons_zero, List.set_cons_succ]
      with_reducible apply wpV_light
      · simp only [lightOp]
      · intro W hU hF
        have f0 := CS.out W hU
        clear hU hF
        go_simp
        exact rfl
      simp only [Act.put, List.setIfInBounds_toArray, List.set_cons_zero, List.set_cons_succ]
      refine wpV_end (fun W hU _ hF => ?_)
      have U3 : Hid (Upd [] w W) := Lib.hid (W2.out.drew.trans hU)
      have O3 : Hid (Ow encPr 39 W w.heap.size (.slice A5 (n + 1) c5) (Assoc.put l x y)) := Lib.hid (by
        have := hF.out.2.2.2.2.1 (by kernel_rfl)
        unfold Ow
        rw [EQ.out.2, ← EQ.out.1, ← List.append_assoc]
        exact this)
      clear hU hF
      refine wpT_end ?_
      go_wp2_with fail
      all_goals
        go_ret
        exact ⟨_, rfl, O3.out, U3.out⟩
end Go.Proofs.YthdjbflbhgbckaaDoor

/-
  concordref04: the queue as a list in order: Push, Cancel, Move, Due.
-/
import Derived.Test.YtainiojlhdbhgaaDoorRefQ
set_option linter.unusedVariables false
namespace Go.Proofs.YtainiojlhdbhgaaDoor
open Go.RowKit HeapPlain
attribute [local go_sem] litStep_value

theorem own_takeA {w : World} {B s n c : Nat} {e : TypeId} {A : Option Addr} {xs : List Value} (h : w.ownsRow B e s (.slice A n c) n xs) (k : Nat) (hk : k ≤ n) : w.ownsRow B e s (.slice A k c) k (xs.take (k * s)) := by
  have h0 := h
  rcases h0.2 with ⟨e1, e2⟩ | ⟨g, cap, cur, e1, _⟩
  · injection e1 with a1 a2 a3
    subst a1 a2 a3
    have : k = 0 := by omega
    subst this
    exact ⟨by simp, .inl ⟨rfl, by simp⟩⟩
  · injection e1 with a1 a2 a3
    subst a1 a3
    exact own_take h k hk
theorem posI_none {S : List Tm} {id : Int} (h : hasT S id = false) : posI S id = -1 := by
  rw [← posS_has] at h
  unfold posI
  cases hp : posS S id with
  | none => rfl
  | some k => rw [hp] at h; cases h
theorem posI_some {S : List Tm} {id : Int} {k : Nat} (h : posS S id = some k) : posI S id = k := by unfold posI; rw [h]; rfl

def RPushPost (B rb : Nat) (S : List Tm) (t : Tm) (w : World) (e : Ending) (w' : World) : Prop := e = .returned (.int .i64 (pushE S t)) ∧ (if pushE S t = 0 then RSt w.heap.size rb w' (insO ltT S t) else Upd [] w w') ∧ Upd [rb] w w'
def RCancelPost (B rb : Nat) (S : List Tm) (id : Int) (w : World) (e : Ending) (w' : World) : Prop := e = .returned (.int .i64 (if hasT S id then 0 else 6)) ∧ (if hasT S id then RSt w.heap.size rb w' (S.eraseIdx ((posS S id).getD 0)) else Upd [] w w') ∧ Upd [rb] w w'
def RMovePost (B rb : Nat) (S : List Tm) (id wn : Int) (w : World) (e : Ending) (w' : World) : Prop := e = .returned (.int .i64 (if hasT S id then 0 else 6)) ∧ (if hasT S id then RSt w.heap.size rb w' (insO ltT (S.eraseIdx ((posS S id).getD 0)) ⟨wn, id⟩) else Upd [] w w') ∧ Upd [rb] w w'
set_option maxHeartbeats 1000000 in
theorem rpush_ok (B rb : Nat) (S : List Tm) (t : Tm) (w : World) (h : RSt B rb w S) (hS : S.length ≤ 200) :
    Calls Tryd.prog 33 #[.pointer (some ⟨rb, 0, none⟩), .agg #[.int .i64 t.wn, .int .i64 t.id]] w fun e w' => RPushPost B rb S t w e w' := by
  obtain ⟨n, hn⟩ : ∃ n, S.length = n := ⟨_, rfl⟩
  have H := Lib.hid h
  have HN := Lib.hid hn
  rw [hn] at hS
  obtain ⟨v, hb, ho⟩ := h
  have HBX := Lib.hid hb
  have HOX := Lib.hid ho
  clear hn hb ho
  go_enter Tryd.func33, Tryd.ntmps33
  go_wp2_with fail
  have U1 : Hid (Upd [] w (w.alloc (.cells #[.int .i64 t.wn, .int .i64 t.id] 29))) := Lib.hid ((Upd.refl [] w).alloc _)
  have Y1 : Hid (Blk (w.alloc (.cells #[.int .i64 t.wn, .int .i64 t.id] 29)) w.heap.size 29 #[.int .i64 t.wn, .int .i64 t.id]) := Lib.hid (Blk.new w _ _)
  generalize (w.alloc (.cells #[.int .i64 t.wn, .int .i64 t.id] 29)) = w1 at *
  refine (rfind_ok B rb S t.id w1 (RSt.upd0 H.out U1.out) (by rw [HN.out]; omega)).mono ?_
  rintro e w2 ⟨rfl, rfl⟩
  have R1 := Lib.hid (RSt.upd0 H.out U1.out)
  cases hh : hasT S t.id with
  | true =>
    obtain ⟨k, hk⟩ : ∃ k, posS S t.id = some k := Option.isSome_iff_exists.1 (by rw [posS_has, hh])
    rw [posI_some hk]
    have HE : Hid (pushE S t = 7) := Lib.hid (by unfold pushE; rw [hh]; rfl)
    have q : (0 : Int) ≤ (k : Int) := by omega
    clear hh hk
    go_wp2_with fail
    go_ret
    unfold RPushPost
    rw [HE.out]
    exact ⟨rfl, by rw [if_neg (by omega)]; exact U1.out, U1.out.mono (by simp)⟩
  | false =>
    rw [posI_none hh]
    have HH := Lib.hid hh
    clear hh
    obtain ⟨A, c, hv, _, _⟩ := own_slice HOX.out
    subst hv
    have c0 : w1.cell? ⟨rb, 0, none⟩ = some (.slice A n c) := by have := (HBX.out.upd U1.out (by simp)).cell 0; rw [HN.out] at this; exact this
    have y0 : w1.cell? ⟨w.heap.size, 0, none⟩ = some (.int .i64 t.wn) := Y1.out.cell 0
    have y1 : w1.cell? ⟨w.heap.size, 1, none⟩ = some (.int .i64 t.id) := Y1.out.cell 1
    by_cases h2 : 200 ≤ n
    · have d : decide ((200 : Int) ≤ (n : Int)) = true := by simp; omega
      have HE : Hid (pushE S t = 8) := Lib.hid (by unfold pushE; rw [HH.out, HN.out, if_neg (by simp), if_pos h2])
      go_wp2_with fail
      go_ret
      unfold RPushPost
      rw [HE.out]
      exact ⟨rfl, by rw [if_neg (by omega)]; exact U1.out, U1.out.mono (by simp)⟩
    · have d : decide ((200 : Int) ≤ (n : Int)) = false := by simp; omega
      have HE : Hid (pushE S t = 0) := Lib.hid (by unfold pushE; rw [HH.out, HN.out, if_neg (by simp), if_neg h2])
      go_wp2_with fail
      refine (rput_ok B rb S t w1 R1.out (by rw [HN.out]; omega)).mono ?_
      rintro e w2 ⟨rfl, r2, u2⟩
      have R2 := Lib.hid r2
      have U2 := Lib.hid u2
      clear r2 u2 c0 y0 y1
      go_wp2_with fail
      go_ret
      unfold RPushPost
      rw [HE.out]
      refine ⟨rfl, ?_, (U1.out.mono (by simp)).trans U2.out⟩
      rw [if_pos rfl]
      obtain ⟨v, h1, h2⟩ := R2.out
      exact ⟨v, h1, own_base h2 U1.out.size⟩

set_option maxRecDepth 100000 in
set_option maxHeartbeats 4000000 in
theorem rcancel_ok (B rb : Nat) (S : List Tm) (id : Int) (w : World) (h : RSt B rb w S) (hS : S.length ≤ 1000) :
    Calls Tryd.prog 35 #[.pointer (some ⟨rb, 0, none⟩), .int .i64 id] w fun e w' => RCancelPost B rb S id w e w' := by
  have H := Lib.hid h
  obtain ⟨v, hb, ho⟩ := h
  obtain ⟨A, c, rfl, hnc, hcm⟩ := own_slice ho
  obtain ⟨n, hn⟩ : ∃ n, S.length = n := ⟨_, rfl⟩
  have HS0 := Lib.hid hS
  rw [hn] at hnc hS hb ho
  have HB := Lib.hid hb
  have HO := Lib.hid ho
  have HN := Lib.hid hn
  unfold maxLen at hcm
  clear hb ho hn
  go_enter Tryd.func35, Tryd.ntmps35
  go_wp2_with fail
  refine (rfind_ok B rb S id w H.out HS0.out).mono ?_
  rintro e w2 ⟨rfl, rfl⟩
  cases hh : hasT S id with
  | false =>
    rw [posI_none hh]
    have HH := Lib.hid hh
    clear hh
    go_wp2_with fail
    go_ret
    unfold RCancelPost
    rw [HH.out]
    exact ⟨rfl, .refl _ _, .refl _ _⟩
  | true =>
    obtain ⟨k, hk⟩ : ∃ k, posS S id = some k := Option.isSome_iff_exists.1 (by rw [posS_has, hh])
    rw [posI_some hk]
    have HK := Lib.hid hk
    have HH := Lib.hid hh
    obtain ⟨x, hx, _⟩ := posS_some hk
    have hkn : k < n := by have := (List.getElem?_eq_some_iff.1 hx).1; rw [HN.out] at this; exact this
    have q1 : (0 : Int) ≤ (k : Int) := by omega
    have q3 : (k : Int) ≤ (c : Int) := by omega
    have q4 : (n : Int) ≤ (c : Int) := by omega
    have q5 : (k : Int) + 1 ≤ (n : Int) := by omega
    have q6 : (k : Int) + 1 ≤ (c : Int) := by omega
    have q7 : k + 1 ≤ n := by omega
    have q8 : (0 : Int) ≤ (k : Int) + 1 := by omega
    clear hh hk hx
    have CS : Hid (∀ W, Upd [] w.drew W → W.cell? ⟨rb, 0, none⟩ = some (.slice A n c)) := Lib.hid (fun W hW => (HB.out.upd ((Upd.refl [] w).drew.trans hW) (by simp)).cell 0)
    have F1 : Hid (∀ W, Upd [] w.drew W → Src W 2 (.slice A k c) k (flatT (S.take k))) := Lib.hid (fun W hW => by
      rw [flatT_take]
      exact (Src.of_own (own_upd0 HO.out ((Upd.refl [] w).drew.trans hW))).take k (by omega) c)
    have F2 : Hid (∀ W, Upd [] w.drew W → Src W 2 (.slice (if c = k + 1 then A else Option.map (fun x => x.add ((k + 1) * 2)) A) (n - (k + 1)) (c - (k + 1))) (n - (k + 1)) (flatT (S.drop (k + 1)))) := Lib.hid (fun W hW => by
      rw [flatT_drop]
      exact (Src.of_own (own_upd0 HO.out ((Upd.refl [] w).drew.trans hW))).drop (k + 1) q7 hnc (c - (k + 1)))
    have EQ : Hid (flatT (S.take k) ++ flatT (S.drop (k + 1)) = flatT (S.eraseIdx k) ∧ (S.eraseIdx k).length = n - 1) := Lib.hid (by
      rw [List.eraseIdx_eq_take_drop_succ, flatT_append]
      refine ⟨rfl, ?_⟩
      simp [HN.out]; omega)
    have wa : IntKind.i64.wrap ((k : Int) + 1) = (k : Int) + 1 := IntWalk.i64_in _ (by omega)
    have wb : ((k : Int) + 1).toNat = k + 1 := by omega
    go_wp2_with fail
    refine wp_invNT 19 [(1, .own w.heap.size 29 2 0 []), (8, .own w.heap.size 29 2 k (flatT (S.take k))), (16, .own w.heap.size 29 2 (n - 1) (flatT (S.take k) ++ flatT (S.drop (k + 1))))] [(8, [1]), (16, [8])] (by kernel_rfl) (by simp) (by kernel_rfl) (by kernel_rfl) ⟨lasts_own _ _ _ _ _ (by simp [maxLen]), lasts_own _ _ _ _ _ (by unfold maxLen; omega), lasts_own _ _ _ _ _ (by unfold maxLen; omega), trivial⟩ ?_
    simp only [List.take_succ_cons, List.take_zero, List.drop_succ_cons, List.drop_zero]
    with_reducible apply wpV_light
    · simp only [lightOp]
    · intro W hU hF
      have f0 := CS.out W hU
      clear hU hF
      go_simp
      exact rfl
    simp only [Act.put, List.setIfInBounds_toArray, List.set_cons_zero, List.set_cons_succ]
    refine wpV_heavy (by simp only [lightOp]) (by rfl) (fun W hU hk hF K hK => ?_) ?_
    · go_wp2_with fail
      exact wpV_made hK rfl rfl rfl rfl hU.size
    rintro _ ⟨A1, c1, rfl, _, _⟩
    simp only [Act.put, List.setIfInBounds_toArray, List.set_cons_zero, List.set_cons_succ]
    with_reducible apply wpV_light
    · simp only [lightOp]
    · intro W hU hF
      have f0 := CS.out W hU
      clear hU hF
      go_simp
      exact rfl
    simp only [Act.put, List.setIfInBounds_toArray, List.set_cons_zero, List.set_cons_succ]
    with_reducible apply wpV_light
    · simp only [lightOp]
    · intro W hU hF
      have f0 := CS.out W hU
      clear hU hF
      go_simp
      exact rfl
    simp only [Act.put, List.setIfInBounds_toArray, List.set_cons_zero, List.set_cons_succ]
    with_reducible apply wpV_light
    · simp only [lightOp]
    · intro W hU hF
      have f0 := CS.out W hU
      clear hU hF
      go_simp
      exact rfl
    simp only [Act.put, List.setIfInBounds_toArray, List.set_cons_zero, List.set_cons_succ]
    with_reducible apply wpV_light
    · simp only [lightOp]
    · intro W hU hF
      have f0 := CS.out W hU
      clear hU hF
      go_simp
      exact rfl
    simp only [Act.put, List.setIfInBounds_toArray, List.set_cons_zero, List.set_cons_succ]
    with_reducible apply wpV_light
    · simp only [lightOp]
    · intro W hU hF
      have f0 := CS.out W hU
      clear hU hF
      go_simp
      exact rfl
    simp only [Act.put, List.setIfInBounds_toArray, List.set_cons_zero, List.set_cons_succ]
    with_reducible apply wpV_light
    · simp only [lightOp]
    · intro W hU hF
      have f0 := CS.out W hU
      clear hU hF
      go_simp
      exact rfl
    simp only [Act.put, List.setIfInBounds_toArray, List.set_cons_zero, List.set_cons_succ]
    refine wpV_heavy (by simp only [lightOp]) (by rfl) (fun W hU hk hF K hK => ?_) ?_
    · exact wpV_app hK (.tmp 12) (.tmp 18) _ (by rfl) tim_elem _ _ (by rfl) (by rfl) rfl rfl (by simp [usedV, mkI, conOf, specOf, Spec.own]) (hF.out.1 (by kernel_rfl)) (F1.out W hU) (by omega) (by simp) (flatT_one _) (by unfold maxLen; omega) (by omega) hU.size
    rintro _ ⟨A2, c2, rfl, _, _⟩
    simp only [Act.put, List.setIfInBounds_toArray, List.set_cons_zero, List.set_cons_succ]
    with_reducible apply wpV_light
    · simp only [lightOp]
    · intro W hU hF
      have f0 := CS.out W hU
      clear hU hF
      go_simp
      exact rfl
    simp only [Act.put, List.setIfInBounds_toArray, List.set_cons_zero, List.set_cons_succ]
    with_reducible apply wpV_light
    · simp only [lightOp]
    · intro W hU hF
      have f0 := CS.out W hU
      clear hU hF
      go_simp
      exact rfl
    simp only [Act.put, List.setIfInBounds_toArray, List.set_cons_zero, List.set_cons_succ]
    with_reducible apply wpV_light
    · simp only [lightOp]
    · intro W hU hF
      have f0 := CS.out W hU
      clear hU hF
      go_simp
      exact rfl
    simp only [Act.put, List.setIfInBounds_toArray, List.set_cons_zero, List.set_cons_succ]
    with_reducible apply wpV_light
    · simp only [lightOp]
    · intro W hU hF
      have f0 := CS.out W hU
      clear hU hF
      go_simp
      exact rfl
    simp only [Act.put, List.setIfInBounds_toArray, List.set_cons_zero, List.set_cons_succ]
    with_reducible apply wpV_light
    · simp only [lightOp]
    · intro W hU hF
      have f0 := CS.out W hU
      clear hU hF
      go_simp
      exact rfl
    simp only [Act.put, List.setIfInBounds_toArray, List.set_cons_zero, List.set_cons_succ]
    with_reducible apply wpV_light
    · simp only [lightOp]
    · intro W hU hF
      have f0 := CS.out W hU
      clear hU hF
      go_simp
      exact rfl
    simp only [Act.put, List.setIfInBounds_toArray, List.set_cons_zero, List.set_cons_succ]
    with_reducible apply wpV_light
    · simp only [lightOp]
    · intro W hU hF
      have f0 := CS.out W hU
      clear hU hF
      go_simp
      exact rfl
    simp only [Act.put, List.setIfInBounds_toArray, List.set_cons_zero, List.set_cons_succ]
    refine wpV_heavy (by simp only [lightOp]) (by rfl) (fun W hU hk hF K hK => ?_) ?_
    · exact wpV_app hK (.tmp 19) (.tmp 26) _ (by rfl) tim_elem _ _ (by rfl) (by rfl) rfl rfl (by simp [usedV, mkI, conOf, specOf, Spec.own]) (hF.out.2.1 (by kernel_rfl)) (F2.out W hU) (by omega) (by simp) (flatT_one _) (by unfold maxLen; omega) (by omega) hU.size
    rintro _ ⟨A5, c5, rfl, _, _⟩
    simp only [Act.put, List.setIfInBounds_toArray, List.set_cons_zero, List.set_cons_succ]
    with_reducible apply wpV_light
    · simp only [lightOp]
    · intro W hU hF
      have f0 := CS.out W hU
      clear hU hF
      go_simp
      exact rfl
    simp only [Act.put, List.setIfInBounds_toArray, List.set_cons_zero, List.set_cons_succ]
    with_reducible apply wpV_light
    · simp only [lightOp]
    · intro W hU hF
      have f0 := CS.out W hU
      clear hU hF
      go_simp
      exact rfl
    simp only [Act.put, List.setIfInBounds_toArray, List.set_cons_zero, List.set_cons_succ]
    refine wpV_end (fun W hU _ hF => ?_)
    have U3 : Hid (Upd [] w W) := Lib.hid ((Upd.refl [] w).drew.trans hU)
    have O3 : Hid (W.ownsRow w.heap.size 29 2 (.slice A5 (n - 1) c5) (n - 1) (flatT (S.eraseIdx k))) := Lib.hid (by
      have := hF.out.2.2.1 (by kernel_rfl)
      rw [← EQ.out.1]
      exact this)
    have HB3 := Lib.hid (HB.out.upd U3.out (by simp))
    have f0 : W.cell? ⟨rb, 0, none⟩ = some (.slice A n c) := HB3.out.cell 0
    have f1 : W.frozen? ⟨rb, 0, none⟩ = false := HB3.out.frozen 0
    have f2 : rb < W.heap.size := HB3.out.lt
    clear hU hF wa wb
    refine wpT_op (by rfl) (fun K hK => ?_)
    go_wp2_with fail
    all_goals
      refine hK.out _ _ ?_
      clear hK K
      try simp only [Act.put, List.setIfInBounds_toArray, List.set_cons_zero, List.set_cons_succ]
      refine wpT_end ?_
      go_wp2_with fail
      go_ret
      have UF : Upd [rb] W (W.setCell ⟨rb, 0, none⟩ (.slice A5 (n - 1) c5)) := (Upd.refl [rb] W).setCell (.inl (by simp)) _
      have nb : ∀ b, (Value.slice A5 (n - 1) c5).ownBlock = some b → b ≠ rb := fun b hb e => by
        subst e
        exact (own_type O3.out HB3.out (by decide)) hb
      unfold RCancelPost
      rw [HH.out, HK.out]
      refine ⟨rfl, ⟨_, HB3.out.set_eq rfl, ?_⟩, (U3.out.mono (by simp)).trans UF⟩
      show World.ownsRow _ _ _ _ _ (S.eraseIdx k).length (flatT (S.eraseIdx k))
      rw [EQ.out.2]
      exact own_upd O3.out UF (by intro b hb; simpa using nb b hb)

set_option maxHeartbeats 1000000 in
theorem rmove_ok (B rb : Nat) (S : List Tm) (id wn : Int) (w : World) (h : RSt B rb w S) (hS : S.length ≤ 900) :
    Calls Tryd.prog 34 #[.pointer (some ⟨rb, 0, none⟩), .int .i64 id, .int .i64 wn] w fun e w' => RMovePost B rb S id wn w e w' := by
  have H := Lib.hid h
  have HS := Lib.hid hS
  clear h hS
  go_enter Tryd.func34, Tryd.ntmps34
  go_wp2_with fail
  refine (rcancel_ok B rb S id w H.out (by have := HS.out; omega)).mono ?_
  rintro e w2 ⟨rfl, r2, u2⟩
  cases hh : hasT S id with
  | false =>
    rw [hh] at r2
    have R2 := Lib.hid r2
    have U2 := Lib.hid u2
    have HH := Lib.hid hh
    clear hh r2 u2
    go_wp2_with fail
    go_ret
    unfold RMovePost
    rw [HH.out]
    exact ⟨rfl, R2.out, U2.out⟩
  | true =>
    rw [hh] at r2
    have R2 : Hid (RSt w.heap.size rb w2 (S.eraseIdx ((posS S id).getD 0))) := Lib.hid (by simpa using r2)
    have U2 := Lib.hid u2
    have HH := Lib.hid hh
    clear hh r2 u2
    go_wp2_with fail
    have HL : (S.eraseIdx ((posS S id).getD 0)).length ≤ 1000 := by have := List.length_eraseIdx_le S ((posS S id).getD 0); have := HS.out; omega
    refine (rput_ok w.heap.size rb (S.eraseIdx ((posS S id).getD 0)) ⟨wn, id⟩ w2 R2.out HL).mono ?_
    rintro e w3 ⟨rfl, r3, u3⟩
    have R3 := Lib.hid r3
    have U3 := Lib.hid u3
    clear r3 u3 HL
    go_wp2_with fail
    go_ret
    unfold RMovePost
    rw [HH.out]
    refine ⟨rfl, ?_, U2.out.trans U3.out⟩
    obtain ⟨v, h1, h2⟩ := R3.out
    exact ⟨v, h1, own_base h2 U2.out.size⟩

theorem due_at {S : List Tm} {now : Int} {k : Nat} (hk : k ≤ S.length) (ha : ∀ j, j < k → (S.getD j default).wn ≤ now) (hb : S.length = k ∨ now < (S.getD k default).wn) : dueT S now = S.take k ∧ restT S now = S.drop k := by
  refine take_while _ S k hk (fun j hj hjk => ?_) ?_
  · have := ha j hjk
    rw [List.getD_eq_getElem?_getD, List.getElem?_eq_getElem hj] at this
    simpa using this
  · rcases hb with h | h
    · exact .inl h
    · rcases Nat.lt_or_ge k S.length with h1 | h1
      · refine .inr ⟨h1, ?_⟩
        rw [List.getD_eq_getElem?_getD, List.getElem?_eq_getElem h1] at h
        simpa using h
      · exact .inl (by omega)

def RDuePost (B rb : Nat) (S : List Tm) (now : Int) (w : World) (e : Ending) (w' : World) : Prop := ∃ v, e = .returned v ∧ w'.ownsRow B 29 2 v (dueT S now).length (flatT (dueT S now)) ∧ RSt w.heap.size rb w' (restT S now) ∧ Upd [rb] w w'
set_option maxRecDepth 100000 in
set_option maxHeartbeats 4000000 in
theorem rdue_ok (B rb : Nat) (S : List Tm) (now : Int) (w : World) (h : RSt B rb w S) (hS : S.length ≤ 1000) :
    Calls Tryd.prog 36 #[.pointer (some ⟨rb, 0, none⟩), .int .i64 now] w fun e w' => RDuePost B rb S now w e w' := by
  obtain ⟨v, hb, ho⟩ := h
  obtain ⟨A, c, rfl, hnc, hcm⟩ := own_slice ho
  obtain ⟨n, hn⟩ : ∃ n, S.length = n := ⟨_, rfl⟩
  rw [hn] at hnc hS hb ho
  have HB := Lib.hid hb
  have HO := Lib.hid ho
  have HN := Lib.hid hn
  have hrb := hb.lt
  unfold maxLen at hcm
  have c0 : w.cell? ⟨rb, 0, none⟩ = some (.slice A n c) := hb.cell 0
  have f1 : w.frozen? ⟨rb, 0, none⟩ = false := hb.frozen 0
  clear hb ho hn
  go_enter Tryd.func36, Tryd.ntmps36
  go_wp2_with fail
  go_loop [5] (fun v => ∃ k : Nat, v = .int .i64 k ∧ k ≤ n ∧ Hid (∀ j, j < k → (S.getD j default).wn ≤ now)) (fun v => n - (intOf v).toNat)
  case atStart => exact ⟨0, rfl, by omega, Lib.hid (fun j hj => by omega)⟩
  case round =>
    obtain ⟨k, rfl, hk, HA⟩ := hrel
    have q1 : (0 : Int) ≤ (k : Int) := by omega
    have q3 : (k : Int) ≤ (c : Int) := by omega
    have q4 : (n : Int) ≤ (c : Int) := by omega
    have q5 : (k : Int) ≤ (n : Int) := by omega
    by_cases hkn : k < n
    · obtain ⟨x, hx⟩ : ∃ x, S[k]? = some x := ⟨_, List.getElem?_eq_getElem (by rw [HN.out]; omega)⟩
      have hxd : S.getD k default = x := by rw [List.getD_eq_getElem?_getD, hx]; rfl
      have HXD := Lib.hid hxd
      obtain ⟨g, cg, cur, e1, _⟩ := own_form HO.out (by omega)
      injection e1 with e1 _ e1'
      subst e1 e1'
      have e0 : w.cell? ⟨g, k * 2, none⟩ = some (.int .i64 x.wn) := own_cell HO.out _ _ (flatT_get S k x hx).1
      have q2 : (k : Int) < (n : Int) := by omega
      clear hx hxd
      by_cases hw : x.wn ≤ now
      · have d : decide (x.wn ≤ now) = true := by simpa using hw
        go_wp2_with fail
        go_round
        case rel => exact ⟨k + 1, by go_num, by omega, Lib.hid (fun j hj => by
          by_cases e : j = k
          · rw [e, HXD.out]; exact hw
          · exact HA.out j (by omega))⟩
        case measure => simp [intOf]; omega
      · have d : decide (x.wn ≤ now) = false := by simpa using hw
        have HE : Hid (S.length = k ∨ now < (S.getD k default).wn) := Lib.hid (.inr (by rw [HXD.out]; omega))
        clear hw
        have DE := Lib.hid (due_at (by rw [HN.out]; exact hk) HA.out HE.out)
        obtain ⟨X, hX, hXo, hXs⟩ := cut_tail tim_elem (some (⟨g, 0, none⟩ : Addr)) n c k hk hnc
        have DR := Lib.hid (hXs _ _ (Src.of_own (own_upd0 HO.out ((Upd.refl [] w).alloc (.cells #[] 29)))))
        clear hXo hXs
        go_wp2_with (at_builtin; refine stopped ?_)
        refine Lib.hid ?_
        refine wpList_app _ (by rfl) (.tmp 35) (.tmp 41) _ (by rfl) tim_elem _ _ (by rfl) (by rfl) (own_made (B := w.heap.size) 2 (Blk.new w 29 #[]) (Nat.le_refl _)) DR.out (by rw [← flatT_drop]; exact flatT_one _) (by unfold maxLen; omega) (by omega) (by simp) ?_
        intro v2 w2 o2 u2 b2
        have U2 : Hid (Upd [] w w2) := Lib.hid (((Upd.refl [] w).alloc _).trans' u2 (by intro x hx; simp [Value.ownBlock] at hx; subst hx; exact .inr (Nat.le_refl _)))
        have O2 : Hid (w2.ownsRow w.heap.size 29 2 v2 (n - k) (flatT (S.drop k))) := Lib.hid (by
          rw [flatT_drop]
          simpa using o2)
        have HB2 := Lib.hid (HB.out.upd U2.out (by simp))
        have c2 : w2.cell? ⟨rb, 0, none⟩ = some (.slice (some (⟨g, 0, none⟩ : Addr)) n c) := HB2.out.cell 0
        have f2 : w2.frozen? ⟨rb, 0, none⟩ = false := HB2.out.frozen 0
        have g2 : rb < w2.heap.size := HB2.out.lt
        obtain ⟨A2, cc2, hv2, _, _⟩ := own_slice O2.out
        subst hv2
        clear o2 u2 b2
        go_wp2_with fail
        all_goals
          go_ret
          have UF : Upd [rb] w2 (w2.setCell ⟨rb, 0, none⟩ (.slice A2 (n - k) cc2)) := (Upd.refl [rb] w2).setCell (.inl (by simp)) _
          have nb : ∀ b, (Value.slice A2 (n - k) cc2).ownBlock = some b → b ≠ rb := fun b hb e => by
            subst e
            exact (own_type O2.out HB2.out (by decide)) hb
          have ob : ∀ b, (Value.slice (some (⟨g, 0, none⟩ : Addr)) n c).ownBlock = some b → b ≠ rb := fun b hb e => by
            subst e
            exact (own_type HO.out HB.out (by decide)) hb
          unfold RDuePost
          refine ⟨_, rfl, ?_, ⟨_, HB2.out.set_eq rfl, ?_⟩, (U2.out.mono (by simp)).trans UF⟩
          · rw [DE.out.1, List.length_take, HN.out, Nat.min_eq_left hk, flatT_take]
            refine own_upd (own_upd0 (own_takeA HO.out k hk) U2.out) UF (by intro b hb; simpa using ob b (by first | exact hb | (cases A <;> exact hb)))
          · rw [DE.out.2, List.length_drop, HN.out]
            exact own_upd O2.out UF (by intro b hb; simpa using nb b hb)
    · have HE : Hid (S.length = k ∨ now < (S.getD k default).wn) := Lib.hid (.inl (by rw [HN.out]; omega))
      have d1 : decide ((k : Int) < (n : Int)) = false := by simp; omega
      have d2 : decide (k < n) = false := by simp; omega
      have DE := Lib.hid (due_at (by rw [HN.out]; exact hk) HA.out HE.out)
      obtain ⟨X, hX, hXo, hXs⟩ := cut_tail tim_elem A n c k hk hnc
      have DR := Lib.hid (hXs _ _ (Src.of_own (own_upd0 HO.out ((Upd.refl [] w).alloc (.cells #[] 29)))))
      clear hXo hXs
      go_wp2_with (at_builtin; refine stopped ?_)
      refine Lib.hid ?_
      refine wpList_app _ (by rfl) (.tmp 35) (.tmp 41) _ (by rfl) tim_elem _ _ (by rfl) (by rfl) (own_made (B := w.heap.size) 2 (Blk.new w 29 #[]) (Nat.le_refl _)) DR.out (by rw [← flatT_drop]; exact flatT_one _) (by unfold maxLen; omega) (by omega) (by simp) ?_
      intro v2 w2 o2 u2 b2
      have U2 : Hid (Upd [] w w2) := Lib.hid (((Upd.refl [] w).alloc _).trans' u2 (by intro x hx; simp [Value.ownBlock] at hx; subst hx; exact .inr (Nat.le_refl _)))
      have O2 : Hid (w2.ownsRow w.heap.size 29 2 v2 (n - k) (flatT (S.drop k))) := Lib.hid (by
        rw [flatT_drop]
        simpa using o2)
      have HB2 := Lib.hid (HB.out.upd U2.out (by simp))
      have c2 : w2.cell? ⟨rb, 0, none⟩ = some (.slice A n c) := HB2.out.cell 0
      have f2 : w2.frozen? ⟨rb, 0, none⟩ = false := HB2.out.frozen 0
      have g2 : rb < w2.heap.size := HB2.out.lt
      obtain ⟨A2, cc2, hv2, _, _⟩ := own_slice O2.out
      subst hv2
      clear o2 u2 b2
      go_wp2_with fail
      all_goals
        go_ret
        have UF : Upd [rb] w2 (w2.setCell ⟨rb, 0, none⟩ (.slice A2 (n - k) cc2)) := (Upd.refl [rb] w2).setCell (.inl (by simp)) _
        have nb : ∀ b, (Value.slice A2 (n - k) cc2).ownBlock = some b → b ≠ rb := fun b hb e => by
          subst e
          exact (own_type O2.out HB2.out (by decide)) hb
        have ob : ∀ b, (Value.slice A n c).ownBlock = some b → b ≠ rb := fun b hb e => by
          subst e
          exact (own_type HO.out HB.out (by decide)) hb
        unfold RDuePost
        refine ⟨_, rfl, ?_, ⟨_, HB2.out.set_eq rfl, ?_⟩, (U2.out.mono (by simp)).trans UF⟩
        · rw [DE.out.1, List.length_take, HN.out, Nat.min_eq_left hk, flatT_take]
          refine own_upd (own_upd0 (own_takeA HO.out k hk) U2.out) UF (by intro b hb; simpa using ob b (by first | exact hb | (cases A <;> exact hb)))
        · rw [DE.out.2, List.length_drop, HN.out]
          exact own_upd O2.out UF (by intro b hb; simpa using nb b hb)
end Go.Proofs.YtainiojlhdbhgaaDoor

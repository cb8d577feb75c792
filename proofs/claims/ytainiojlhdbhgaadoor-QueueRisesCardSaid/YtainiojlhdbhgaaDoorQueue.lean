/-
  queue.Queue: New, made, Len, Push, Next, find, Cancel.
-/
import Derived.Test.YtainiojlhdbhgaaDoorTim3
import Derived.Test.YtainiojlhdbhgaaDoorErrV
set_option linter.unusedVariables false
namespace Go.Proofs.YtainiojlhdbhgaaDoor
open Go.RowKit HeapPlain
attribute [local go_sem] litStep_value

/-- A queue: its own block, and what it keeps; a heap of these. -/
structure QSt (B qb p mb : Nat) (w : World) (ts : List Tm) : Prop where
  box : Blk w qb 60 #[.pointer (some ⟨p, 0, none⟩)]
  tim : TimSt B p mb w ts
  hp : Hp ltT ts.length ts
  bq : B ≤ qb
/-- What a call of a queue's turns: blocks of its heap, and new ones. -/
abbrev FrQ := FrT
theorem qb_not {B qb p mb : Nat} {w : World} {ts : List Tm} (h : QSt B qb p mb w ts) : ¬ ownT p mb w qb := by
  obtain ⟨v, hb, ho⟩ := h.tim.obj
  rintro (rfl | rfl | ⟨v', h1, h2⟩)
  · exact (Blk.ne_ h.box hb (by decide)) rfl
  · exact (blk_map h.box h.tim.mp) rfl
  · rw [hb.cell] at h1
    have hv : v = v' := Option.some.inj h1
    subst hv
    exact (own_type ho h.box (by decide)) h2
theorem QSt.step {B qb p mb : Nat} {w w' : World} {ts us : List Tm} (h : QSt B qb p mb w ts) (hf : FrT p mb w w') (ht : TimSt B p mb w' us) (hu : Hp ltT us.length us) : QSt B qb p mb w' us :=
  ⟨h.box.updP hf.1 (qb_not h), ht, hu, h.bq⟩
theorem QSt.upd0 {B qb p mb : Nat} {w w' : World} {ts : List Tm} (h : QSt B qb p mb w ts) (hu : Upd [] w w') : QSt B qb p mb w' ts ∧ FrT p mb w w' := by
  obtain ⟨h1, h2⟩ := h.tim.upd0 hu
  exact ⟨⟨h.box.upd hu (by simp), h1, h.hp, h.bq⟩, h2⟩

set_option maxHeartbeats 1000000 in
theorem q_new (w : World) (B : Nat) (hB : B ≤ w.heap.size) : Calls Tryd.prog 9 #[] w fun e w' => ∃ qb p mb, e = .returned (.pointer (some ⟨qb, 0, none⟩)) ∧ QSt B qb p mb w' [] ∧ Upd [] w w' ∧ w.heap.size ≤ qb ∧ w.heap.size ≤ p ∧ w.heap.size ≤ mb := by
  have hmm : ∀ w, (Instr.makeMap 56 none).run Tryd.prog w = .ok (.map (some w.heap.size)) (w.alloc (.map #[] 0)) := fun _ => by kernel_rfl
  go_enter Tryd.func9, Tryd.ntmps9
  go_wp2_with fail
  go_ret
  have b0 := IMap.new w .i64
  refine ⟨w.heap.size + 1 + 1, w.heap.size + 1, w.heap.size, rfl, ⟨Blk.newAt _ _ (by simp), ⟨⟨.slice none 0 0, (Blk.newAt _ _ (by simp)).alloc _, own_nil _ _ _ _⟩, ?_, by simp, by simp, by omega, hB⟩, fun k h0 hk => by simp at hk, by omega⟩, (((Upd.refl [] w).alloc _).alloc _).alloc _, by omega, by omega, by omega⟩
  exact ((b0.congr (fun k => rfl)).upd (((Upd.refl [] _).alloc _).alloc _) (by simp))

/-- An error's value as the queue tells it. -/
theorem q_made (B qb p mb : Nat) (ts : List Tm) (w : World) (h : QSt B qb p mb w ts) : Calls Tryd.prog 23 #[.pointer (some ⟨qb, 0, none⟩)] w fun e w' => e = .returned (.bool true) ∧ w = w' := by
  have c0 : w.cell? ⟨qb, 0, none⟩ = some (.pointer (some ⟨p, 0, none⟩)) := h.box.cell 0
  clear h
  go_enter Tryd.func23, Tryd.ntmps23
  go_wp2_with fail
  go_ret
  exact ⟨rfl, rfl⟩
theorem q_made_nil (w : World) : Calls Tryd.prog 23 #[.pointer none] w fun e w' => e = .returned (.bool false) ∧ w = w' := by
  go_enter Tryd.func23, Tryd.ntmps23
  go_wp2_with fail
  go_ret
  exact ⟨rfl, rfl⟩
theorem q_len (B qb p mb : Nat) (ts : List Tm) (w : World) (h : QSt B qb p mb w ts) : Calls Tryd.prog 14 #[.pointer (some ⟨qb, 0, none⟩)] w fun e w' => e = .returned (.int .i64 ts.length) ∧ QSt B qb p mb w' ts ∧ FrT p mb w w' := by
  have H := Lib.hid h
  have c0 : w.cell? ⟨qb, 0, none⟩ = some (.pointer (some ⟨p, 0, none⟩)) := h.box.cell 0
  clear h
  go_enter Tryd.func14, Tryd.ntmps14
  go_wp2_with fail
  refine (q_made B qb p mb ts w H.out).mono ?_; rintro e w1 ⟨rfl, rfl⟩
  go_wp2_with fail
  refine (tim_len B p mb ts w H.out.tim).mono ?_; rintro e w1 ⟨rfl, s1, f1⟩
  have S1 := Lib.hid s1
  have F1 := Lib.hid f1
  clear s1 f1
  go_wp2_with fail
  go_ret
  exact ⟨rfl, H.out.step F1.out S1.out H.out.hp, F1.out⟩
theorem q_len_nil (w : World) : Calls Tryd.prog 14 #[.pointer none] w fun e w' => e = .returned (.int .i64 0) ∧ w = w' := by
  go_enter Tryd.func14, Tryd.ntmps14
  go_wp2_with fail
  refine (q_made_nil w).mono ?_; rintro e w1 ⟨rfl, rfl⟩
  go_wp2_with fail
  go_ret
  exact ⟨rfl, rfl⟩

def hasT (ts : List Tm) (id : Int) : Bool := ts.any (fun t => t.id == id)
theorem posT_has {ts : List Tm} {id : Int} : (posT ts id).isSome = hasT ts id := by
  unfold posT hasT
  cases hi : ts.findIdx? (fun t => t.id == id) with
  | none =>
    rw [List.findIdx?_eq_none_iff] at hi
    simp only [Option.map_none, Option.isSome_none]
    symm
    rw [List.any_eq_false]
    intro x hx
    simpa using hi x hx
  | some j =>
    rw [List.findIdx?_eq_some_iff_getElem] at hi
    obtain ⟨hj, h1, _⟩ := hi
    simp only [Option.map_some, Option.isSome_some]
    symm
    rw [List.any_eq_true]
    exact ⟨_, List.getElem_mem hj, h1⟩
/-- The error of a push. -/
def pushE (ts : List Tm) (x : Tm) : Int := if hasT ts x.id then 7 else if 200 ≤ ts.length then 8 else 0

/-- What a push leaves. -/
def PushPost (B qb p mb : Nat) (ts : List Tm) (x : Tm) (w : World) (e : Ending) (w' : World) : Prop := ∃ v us, e = .returned v ∧ ErrV w' v (pushE ts x) (if hasT ts x.id then x.id else 0) ∧ QSt B qb p mb w' us ∧ (if pushE ts x = 0 then us.Perm (x :: ts) else us = ts) ∧ FrT p mb w w'
set_option maxRecDepth 100000 in
set_option maxHeartbeats 2000000 in
theorem q_push (B qb p mb : Nat) (ts : List Tm) (x : Tm) (w : World) (h : QSt B qb p mb w ts) (hl : ts.length ≤ 200) (hBw : B ≤ w.heap.size) :
    Calls Tryd.prog 11 #[.pointer (some ⟨qb, 0, none⟩), .agg #[.int .i64 x.wn, .int .i64 x.id]] w fun e w' => PushPost B qb p mb ts x w e w' := by
  have H := Lib.hid h
  obtain ⟨hv, hb⟩ : ∃ b, hasT ts x.id = b := ⟨_, rfl⟩
  have HH := Lib.hid hb
  obtain ⟨v, hbo, hown⟩ := h.tim.obj
  have HT := Lib.hid hbo
  have HM := Lib.hid h.tim.mp
  have PH : Hid ((posT ts x.id).isSome = hv) := Lib.hid (by rw [posT_has, hb])
  have U1 : Hid (Upd [] w (w.alloc (.cells #[.int .i64 x.wn, .int .i64 x.id] 29))) := Lib.hid ((Upd.refl [] w).alloc _)
  have HQ := Lib.hid h.box
  clear h hb hbo hown
  go_enter Tryd.func11, Tryd.ntmps11
  go_wp2_with fail
  have Y1 : Hid (Blk (w.alloc (.cells #[.int .i64 x.wn, .int .i64 x.id] 29)) w.heap.size 29 #[.int .i64 x.wn, .int .i64 x.id]) := Lib.hid (Blk.new w _ _)
  generalize (w.alloc (.cells #[.int .i64 x.wn, .int .i64 x.id] 29)) = w1 at *
  refine (q_made B qb p mb ts w1 (H.out.upd0 U1.out).1).mono ?_; rintro e w2 ⟨rfl, rfl⟩
  have HQ1 := Lib.hid (HQ.out.upd U1.out (by simp))
  have HT1 := Lib.hid (HT.out.upd U1.out (by simp))
  have HM1 := Lib.hid (HM.out.upd U1.out (by simp))
  obtain ⟨g, hg⟩ : ∃ g, (posT ts x.id).getD (.int .i64 0) = g := ⟨_, rfl⟩
  have HGG := Lib.hid hg
  have CS : Hid (∀ W, Upd [] w1.drew W → W.cell? ⟨qb, 0, none⟩ = some (.pointer (some ⟨p, 0, none⟩)) ∧ W.cell? ⟨p, 1, none⟩ = some (.map (some mb)) ∧ W.cell? ⟨w.heap.size, 1, none⟩ = some (.int .i64 x.id) ∧ (Instr.lookup 56 (.map (some mb)) (.int .i64 x.id) true).run Tryd.prog W = .ok (.tuple #[g, .bool hv]) W) := Lib.hid (fun W hW => by
    have hu : Upd [] w1 W := (Upd.refl [] w1).drew.trans hW
    have hr := run_lookup_int (P := Tryd.prog) (z := .int .i64 0) Tryd.underlying56 Tryd.underlying3 (w := W) (by kernel_rfl) (HM1.out.upd hu (by simp)) x.id
    rw [HGG.out, PH.out] at hr
    exact ⟨(HQ1.out.upd hu (by simp)).cell 0, (HT1.out.upd hu (by simp)).cell 1, (Y1.out.upd hu (by simp)).cell 1, hr⟩)
  clear hg
  go_wp2_with fail
  refine wp_invN [] [] (by kernel_rfl) (by kernel_rfl) (by kernel_rfl) trivial ?_
  with_reducible apply wpV_light
  · simp only [lightOp]
  · intro W hU hF
    have f0 := CS.out W hU
    clear hU hF
    go_simp
    exact rfl
  simp only [Act.put, List.setIfInBounds_toArray, List.set_cons_zero, List.set_cons_succ]
  with_reducible apply wpV_light
  · simp only [lightOp]
  · intro W hU hF
    have f0 := CS.out W hU
    clear hU hF
    go_simp
    exact rfl
  simp only [Act.put, List.setIfInBounds_toArray, List.set_cons_zero, List.set_cons_succ]
  with_reducible apply wpV_light
  · simp only [lightOp]
  · intro W hU hF
    have f0 := CS.out W hU
    clear hU hF
    go_simp
    exact rfl
  simp only [Act.put, List.setIfInBounds_toArray, List.set_cons_zero, List.set_cons_succ]
  with_reducible apply wpV_light
  · simp only [lightOp]
  · intro W hU hF
    have f0 := CS.out W hU
    clear hU hF
    go_simp
    exact rfl
  simp only [Act.put, List.setIfInBounds_toArray, List.set_cons_zero, List.set_cons_succ]
  with_reducible apply wpV_light
  · simp only [lightOp]
  · intro W hU hF
    have f0 := CS.out W hU
    clear hU hF
    go_simp
    exact rfl
  simp only [Act.put, List.setIfInBounds_toArray, List.set_cons_zero, List.set_cons_succ]
  with_reducible apply wpV_light
  · simp only [lightOp]
  · intro W hU hF
    have f0 := CS.out W hU
    clear hU hF
    go_simp
    exact rfl
  simp only [Act.put, List.setIfInBounds_toArray, List.set_cons_zero, List.set_cons_succ]
  with_reducible apply wpV_light
  · simp only [lightOp]
  · intro W hU hF
    have f0 := CS.out W hU
    clear hU hF
    go_simp
    exact rfl
  simp only [Act.put, List.setIfInBounds_toArray, List.set_cons_zero, List.set_cons_succ]
  with_reducible apply wpV_light
  · simp only [lightOp]
  · intro W hU hF
    have f0 := CS.out W hU
    clear hU hF
    go_simp
    exact rfl
  simp only [Act.put, List.setIfInBounds_toArray, List.set_cons_zero, List.set_cons_succ]
  with_reducible apply wpV_light
  · simp only [lightOp]
  · intro W hU hF
    have f0 := CS.out W hU
    clear hU hF
    go_simp
    exact rfl
  simp only [Act.put, List.setIfInBounds_toArray, List.set_cons_zero, List.set_cons_succ]
  with_reducible apply wpV_light
  · simp only [lightOp]
  · intro W hU hF
    have f0 := CS.out W hU
    clear hU hF
    go_simp
    exact rfl
  simp only [Act.put, List.setIfInBounds_toArray, List.set_cons_zero, List.set_cons_succ]
  with_reducible apply wpV_light
  · simp only [lightOp]
  · intro W hU hF
    have f0 := CS.out W hU
    clear hU hF
    go_simp
    exact rfl
  simp only [Act.put, List.setIfInBounds_toArray, List.set_cons_zero, List.set_cons_succ]
  with_reducible apply wpV_light
  · simp only [lightOp]
  · intro W hU hF
    have f0 := CS.out W hU
    clear hU hF
    go_simp
    exact rfl
  simp only [Act.put, List.setIfInBounds_toArray, List.set_cons_zero, List.set_cons_succ]
  with_reducible apply wpV_light
  · simp only [lightOp]
  · intro W hU hF
    have f0 := CS.out W hU
    clear hU hF
    go_simp
    exact rfl
  simp only [Act.put, List.setIfInBounds_toArray, List.set_cons_zero, List.set_cons_succ]
  with_reducible apply wpV_light
  · simp only [lightOp]
  · intro W hU hF
    have f0 := CS.out W hU
    clear hU hF
    go_simp
    exact rfl
  simp only [Act.put, List.setIfInBounds_toArray, List.set_cons_zero, List.set_cons_succ]
  with_reducible apply wpV_light
  · simp only [lightOp]
  · intro W hU hF
    have f0 := CS.out W hU
    clear hU hF
    go_simp
    exact rfl
  simp only [Act.put, List.setIfInBounds_toArray, List.set_cons_zero, List.set_cons_succ]
  refine wpV_end (fun W hU _ _ => ?_)
  have U2 : Hid (Upd [] w W) := Lib.hid (U1.out.drew.trans hU)
  have YW := Lib.hid (Y1.out.upd ((Upd.refl [] w1).drew.trans hU) (by simp))
  clear hU
  refine wpT_end ?_
  have y0 : W.cell? ⟨w.heap.size, 0, none⟩ = some (.int .i64 x.wn) := YW.out.cell 0
  have y1 : W.cell? ⟨w.heap.size, 1, none⟩ = some (.int .i64 x.id) := YW.out.cell 1
  obtain ⟨Q2, F2⟩ := H.out.upd0 U2.out
  have HQ2 := Lib.hid Q2
  have HF2 := Lib.hid F2
  have c0 : W.cell? ⟨qb, 0, none⟩ = some (.pointer (some ⟨p, 0, none⟩)) := Q2.box.cell 0
  clear Q2 F2
  cases hv with
  | true =>
    have HP : Hid (pushE ts x = 7) := Lib.hid (by unfold pushE; rw [HH.out]; rfl)
    go_wp2_with fail
    go_ret
    unfold PushPost; rw [HP.out, HH.out]
    have hu : Upd [] W (W.alloc (.cells #[.int .i64 x.id, .int .i64 7] 66)) := (Upd.refl [] W).alloc _
    obtain ⟨q3, f3⟩ := HQ2.out.upd0 hu
    exact ⟨_, ts, rfl, by rw [if_pos rfl]; exact ErrV.fault (Blk.new W _ _) (by omega) (by omega), q3, by rw [if_neg (by omega)], HF2.out.trans f3⟩
  | false =>
    go_wp2_with fail
    refine (tim_len B p mb ts W HQ2.out.tim).mono ?_; rintro e w3 ⟨rfl, s3, f3⟩
    have U3 : Hid (QSt B qb p mb w3 ts) := Lib.hid (HQ2.out.step f3 s3 H.out.hp)
    have F3 := Lib.hid (HF2.out.trans f3)
    have Y3 : Hid (Blk w3 w.heap.size 29 #[.int .i64 x.wn, .int .i64 x.id]) := Lib.hid (YW.out.updP f3.1 (fun ho => by
      obtain ⟨vv, hb2, ho2⟩ := HQ2.out.tim.obj
      rcases ho with e | e | ⟨v', h1, h2⟩
      · have := H.out.tim.obj
        obtain ⟨_, hb3, _⟩ := this
        have := hb3.lt
        omega
      · have := H.out.tim.mp.lt
        omega
      · obtain ⟨vv0, hb0, ho0⟩ := H.out.tim.obj
        have e0 := (hb0.upd U2.out (by simp)).cell 0
        rw [h1] at e0
        have hv : v' = vv0 := Option.some.inj e0
        subst hv
        have := (own_lt ho0 h2).2
        omega))
    have y0 : w3.cell? ⟨w.heap.size, 0, none⟩ = some (.int .i64 x.wn) := Y3.out.cell 0
    have y1 : w3.cell? ⟨w.heap.size, 1, none⟩ = some (.int .i64 x.id) := Y3.out.cell 1
    have c0 : w3.cell? ⟨qb, 0, none⟩ = some (.pointer (some ⟨p, 0, none⟩)) := U3.out.box.cell 0
    clear s3 f3 YW
    obtain ⟨n, hn⟩ : ∃ n, ts.length = n := ⟨_, rfl⟩
    have HN := Lib.hid hn
    rw [hn] at hl ⊢
    clear hn
    by_cases h200 : 200 ≤ n
    · have h200' : decide ((200 : Int) ≤ n) = true := by simp; omega
      have HP : Hid (pushE ts x = 8) := Lib.hid (by unfold pushE; rw [HH.out, HN.out, if_neg (by simp), if_pos h200])
      go_wp2_with fail
      go_ret
      unfold PushPost; rw [HP.out, HH.out]
      exact ⟨_, ts, rfl, by rw [if_neg (by simp)]; exact ErrV.errno _ _ (by omega) (by omega), U3.out, by rw [if_neg (by omega)], F3.out⟩
    · have h200' : decide ((200 : Int) ≤ n) = false := by simp; omega
      have HP : Hid (pushE ts x = 0) := Lib.hid (by unfold pushE; rw [HH.out, HN.out, if_neg (by simp), if_neg h200])
      have CT : Hid (∀ W, Upd [] w3.drew W → W.cell? ⟨qb, 0, none⟩ = some (.pointer (some ⟨p, 0, none⟩)) ∧ W.cell? ⟨w.heap.size, 0, none⟩ = some (.int .i64 x.wn) ∧ W.cell? ⟨w.heap.size, 1, none⟩ = some (.int .i64 x.id)) := Lib.hid (fun W hW => by
        have hu : Upd [] w3 W := (Upd.refl [] w3).drew.trans hW
        exact ⟨(U3.out.box.upd hu (by simp)).cell 0, (Y3.out.upd hu (by simp)).cell 0, (Y3.out.upd hu (by simp)).cell 1⟩)
      clear y0 y1 c0
      go_wp2_with fail
      refine wp_invNT 7 [] [] (by kernel_rfl) (by simp) (by kernel_rfl) (by kernel_rfl) trivial ?_
      simp only [List.take_succ_cons, List.take_zero, List.drop_succ_cons, List.drop_zero]
      with_reducible apply wpV_light
      · simp only [lightOp]
      · intro W hU hF
        have f0 := CT.out W hU
        clear hU hF
        go_simp
        exact rfl
      simp only [Act.put, List.setIfInBounds_toArray, List.set_cons_zero, List.set_cons_succ]
      with_reducible apply wpV_light
      · simp only [lightOp]
      · intro W hU hF
        have f0 := CT.out W hU
        clear hU hF
        go_simp
        exact rfl
      simp only [Act.put, List.setIfInBounds_toArray, List.set_cons_zero, List.set_cons_succ]
      with_reducible apply wpV_light
      · simp only [lightOp]
      · intro W hU hF
        have f0 := CT.out W hU
        clear hU hF
        go_simp
        exact rfl
      simp only [Act.put, List.setIfInBounds_toArray, List.set_cons_zero, List.set_cons_succ]
      with_reducible apply wpV_light
      · simp only [lightOp]
      · intro W hU hF
        have f0 := CT.out W hU
        clear hU hF
        go_simp
        exact rfl
      simp only [Act.put, List.setIfInBounds_toArray, List.set_cons_zero, List.set_cons_succ]
      with_reducible apply wpV_light
      · simp only [lightOp]
      · intro W hU hF
        have f0 := CT.out W hU
        clear hU hF
        go_simp
        exact rfl
      simp only [Act.put, List.setIfInBounds_toArray, List.set_cons_zero, List.set_cons_succ]
      with_reducible apply wpV_light
      · simp only [lightOp]
      · intro W hU hF
        have f0 := CT.out W hU
        clear hU hF
        go_simp
        exact rfl
      simp only [Act.put, List.setIfInBounds_toArray, List.set_cons_zero, List.set_cons_succ]
      with_reducible apply wpV_light
      · simp only [lightOp]
      · intro W hU hF
        have f0 := CT.out W hU
        clear hU hF
        go_simp
        exact rfl
      simp only [Act.put, List.setIfInBounds_toArray, List.set_cons_zero, List.set_cons_succ]
      refine wpV_end (fun W5 hU _ _ => ?_)
      obtain ⟨Q5, F5⟩ := U3.out.upd0 ((Upd.refl [] w3).drew.trans hU)
      have Z5 : Hid (B ≤ W5.heap.size) := Lib.hid (Nat.le_trans hBw (Nat.le_trans F3.out.1.size F5.1.size))
      have HQ5 := Lib.hid Q5
      have HF5 := Lib.hid (F3.out.trans F5)
      have NO : Hid (∀ t ∈ ts, t.id ≠ x.id) := Lib.hid (fun t ht e => by
        have := HH.out
        unfold hasT at this
        rw [List.any_eq_false] at this
        have := this t ht
        simp at this
        exact this e)
      clear hU Q5 F5
      refine wpT_op (by rfl) (fun K hK => ?_)
      go_wp2_with fail
      refine (heap_push (tim_heaped B p mb) ltT_ord n ts x 29 (.agg #[.int .i64 x.wn, .int .i64 x.id]) W5 HQ5.out.tim HN.out (by have := H.out.hp; rw [HN.out] at this; exact this) (tim_push B p mb ts x W5 HQ5.out.tim NO.out (by rw [HN.out]; omega) Z5.out)).mono ?_
      rintro e w6 ⟨rfl, us, s6, p6, h6, f6⟩
      have S6 : Hid (QSt B qb p mb w6 us) := Lib.hid (HQ5.out.step f6 s6 (by rw [p6.length_eq, List.length_cons, HN.out]; exact h6))
      have F6 := Lib.hid (HF5.out.trans f6)
      have P6 := Lib.hid p6
      clear s6 p6 h6 f6
      go_wp2_with fail
      refine hK.out _ _ ?_
      clear hK K
      try simp only [Act.put, List.setIfInBounds_toArray, List.set_cons_zero, List.set_cons_succ]
      refine wpT_end ?_
      go_wp2_with fail
      go_ret
      unfold PushPost; rw [HP.out, HH.out]
      exact ⟨_, us, rfl, by rw [if_neg (by simp)]; exact ErrV.nil _, S6.out, by rw [if_pos rfl]; exact P6.out, F6.out⟩
theorem q_push_nil (x : Tm) (w : World) : Calls Tryd.prog 11 #[.pointer none, .agg #[.int .i64 x.wn, .int .i64 x.id]] w fun e w' => e = .returned (.iface 62 (.int .i64 1)) ∧ Upd [] w w' := by
  go_enter Tryd.func11, Tryd.ntmps11
  go_wp2_with fail
  refine (q_made_nil _).mono ?_; rintro e w2 ⟨rfl, rfl⟩
  go_wp2_with fail
  go_ret
  exact ⟨rfl, (Upd.refl [] w).alloc _⟩
end Go.Proofs.YtainiojlhdbhgaaDoor

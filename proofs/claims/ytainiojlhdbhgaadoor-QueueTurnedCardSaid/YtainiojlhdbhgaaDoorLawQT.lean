/-
  QueueTurned, the walk.
-/
import Derived.Test.YtainiojlhdbhgaaDoorTwoQ
set_option linter.unusedVariables false
namespace Go.Proofs.YtainiojlhdbhgaaDoor
open Go.RowKit HeapPlain
attribute [local go_sem] litStep_value

/-- The list, turned. -/
def rotL (L : List Tm) (m : Nat) : List Tm := L.drop m ++ L.take m
theorem rot_perm (L : List Tm) (m : Nat) : (rotL L m).Perm L := by
  unfold rotL
  conv => rhs; rw [← List.take_append_drop m L]
  exact List.perm_append_comm
theorem rot_at {L : List Tm} {m i n : Nat} (hn : L.length = n) (hm : m < n) (hi : i < n) : (rotL L m)[i]? = L[(i + m) % n]? := by
  unfold rotL
  rw [List.getElem?_append, List.length_drop, hn]
  split
  · rename_i h
    rw [List.getElem?_drop, Nat.mod_eq_of_lt (by omega), Nat.add_comm]
  · rename_i h
    rw [List.getElem?_take, if_pos (by omega), Nat.mod_eq_sub_mod (by omega), Nat.mod_eq_of_lt (by omega)]
    congr 1
    omega
theorem turn_ok (turn : Int) (n : Nat) (h0 : 0 < n) (h6 : n ≤ 60) : ∃ m : Nat, m < n ∧ (wrap64 (turn.tmod n + n)).tmod n = m := by
  have h1 : -(n : Int) < turn.tmod n ∧ turn.tmod n < n := by
    have := Int.natAbs_tmod turn n
    have h2 : (turn.tmod n).natAbs < n := by rw [this]; simpa using Nat.mod_lt _ h0
    omega
  generalize turn.tmod n = b at *
  have h2 : wrap64 (b + n) = b + n := by unfold wrap64; omega
  have h3 : 0 ≤ (b + n) % (n : Int) := Int.emod_nonneg _ (by omega)
  have h4 : (b + n) % (n : Int) < n := Int.emod_lt_of_pos _ (by omega)
  refine ⟨((b + n) % (n : Int)).toNat, by omega, ?_⟩
  rw [h2, Int.tmod_eq_emod_of_nonneg (by omega)]
  omega
theorem rot_idx {i m n : Nat} : ((i : Int) + (m : Int)).tmod (n : Int) = (((i + m) % n : Nat) : Int) := by
  rw [Int.tmod_eq_emod_of_nonneg (by omega)]
  simp
theorem push_take {L ts us : List Tm} {k : Nat} {x : Tm} (hx : L[k]? = some x) (hp : ts.Perm (L.take k)) (hu : us.Perm (x :: ts)) : us.Perm (L.take (k + 1)) := by
  rw [List.take_add_one, hx]
  exact (hu.trans (hp.cons x)).trans (List.perm_append_comm (l₁ := [x]))

set_option maxRecDepth 100000 in
set_option maxHeartbeats 8000000 in
theorem law_qturned (A : Option Addr) (n c : Nat) (L : List Tm) (turn : Int) (w : World) (hA : Rd encT w (.slice A n c) L) (hn : L.length = n) (hnc : n ≤ c) (hcm : c ≤ maxLen) (hg : Typed w) :
    Calls Tryd.prog 5 #[.slice A n c, .int .i64 turn] w fun e w' => e = .returned (.bool true) ∧ Upd [] w w' := by
  have HG := Lib.hid hg
  have HA := Lib.hid hA
  have HN := Lib.hid hn
  unfold maxLen at hcm
  clear hg hA hn
  go_enter Tryd.func5, Tryd.ntmps5
  by_cases h60 : 60 < n
  · have d : decide ((60 : Int) < (n : Int)) = true := by simp; omega
    go_wp2_with fail
    refine (alive_ok _ HG.out).mono ?_; rintro e w2 ⟨rfl, u2⟩
    go_wp2_with fail
    go_ret
    exact ⟨rfl, u2⟩
  have d : decide ((60 : Int) < (n : Int)) = false := by simp; omega
  by_cases h0 : n = 0
  · subst h0
    go_wp2_with fail
    refine (alive_ok _ HG.out).mono ?_; rintro e w2 ⟨rfl, u2⟩
    go_wp2_with fail
    go_ret
    exact ⟨rfl, u2⟩
  have z0 : ¬ (n : Int) = 0 := by omega
  have z1 : decide ((n : Int) = 0) = false := decide_eq_false z0
  obtain ⟨ad, rfl⟩ : ∃ ad, A = some ad := by
    obtain ⟨x, hx⟩ : ∃ x, L[0]? = some x := ⟨_, List.getElem?_eq_getElem (by rw [HN.out]; omega)⟩
    obtain ⟨ad, h, _⟩ := HA.out.at_ hx
    exact ⟨ad, h⟩
  have CEL : Hid (∀ W k x, Upd [] w W → L[k]? = some x → W.cell? (ad.add (k * 2)) = some (.int .i64 x.wn) ∧ W.cell? ⟨(ad.add (k * 2)).block, (ad.add (k * 2)).off + 1, none⟩ = some (.int .i64 x.id)) := Lib.hid (fun W k x hu hx => by
    obtain ⟨ad', h1, _, h2⟩ := (HA.out.upd0 hu).at_ hx
    injection h1 with h1
    subst h1
    exact ⟨h2 0 _ rfl, by have := h2 1 _ rfl; rwa [show k * encT.s + 1 = k * 2 + (0 + 1) from rfl, add_more] at this⟩)
  go_wp2_with fail
  go_loopw [22] (fun v wr => ∃ k : Nat, v = .int .i64 k ∧ k ≤ n ∧ Hid ((idsT (L.take k)).Nodup ∧ Upd [] w wr)) (fun v _ => n - (intOf v).toNat)
  case atStart => exact ⟨0, rfl, by omega, Lib.hid ⟨by simp, .refl _ _⟩⟩
  case round =>
    obtain ⟨k, rfl, hk, HK⟩ := hrel
    by_cases hkn : k < n
    · obtain ⟨x, hx⟩ : ∃ x, L[k]? = some x := ⟨_, List.getElem?_eq_getElem (by rw [HN.out]; exact hkn)⟩
      have HX := Lib.hid hx
      have q1 : (0 : Int) ≤ (k : Int) := by omega
      have q2 : (k : Int) < (n : Int) := by omega
      have q3 : (k : Int) ≤ (c : Int) := by omega
      have q4 : k ≤ n := by omega
      have q5 : (n : Int) ≤ (c : Int) := by omega
      clear hx
      go_wp2_with fail
      go_loopw [29] (fun v wi => ∃ j : Nat, v = .int .i64 j ∧ j ≤ k ∧ Hid ((∀ i y, i < j → L[i]? = some y → y.id ≠ x.id) ∧ Upd [] w wi)) (fun v _ => k - (intOf v).toNat)
      case atStart => exact ⟨0, rfl, by omega, Lib.hid ⟨by intro i y h; omega, HK.out.2⟩⟩
      case round =>
        obtain ⟨j, rfl, hj, HJ⟩ := hrel
        by_cases hjk : j < k
        · obtain ⟨y, hy⟩ : ∃ y, L[j]? = some y := ⟨_, List.getElem?_eq_getElem (by rw [HN.out]; omega)⟩
          have HY := Lib.hid hy
          have q6 : (0 : Int) ≤ (j : Int) := by omega
          have q7 : (j : Int) < (n : Int) := by omega
          have q8 : (j : Int) < (k : Int) := by omega
          clear hy
          have UJ := Lib.hid HJ.out.2
          rename World => wi
          have CS : Hid (∀ W, Upd [] wi.drew W → W.cell? ⟨(ad.add (k * 2)).block, (ad.add (k * 2)).off + 1, none⟩ = some (.int .i64 x.id) ∧ W.cell? ⟨(ad.add (j * 2)).block, (ad.add (j * 2)).off + 1, none⟩ = some (.int .i64 y.id)) := Lib.hid (fun W hW => by
            have hu : Upd [] w W := UJ.out.trans ((Upd.refl [] wi).drew.trans hW)
            exact ⟨(CEL.out W k x hu HX.out).2, (CEL.out W j y hu HY.out).2⟩)
          by_cases hxy : x.id = y.id
          · have dd : (x.id == y.id) = true := by simpa using hxy
            go_wp2_with fail
            refine wp_invN [] [] (by kernel_rfl) (by kernel_rfl) (by kernel_rfl) trivial ?_
            with_reducible apply wpV_light
            · simp only [lightOp]
            · intro W hU hF
              have f0 := CS.out W hU
              clear hU hF
              go_simp
              exact rfl
            simp only [Act.put, List.setIfInBounds_toArray, List.set_cons_zero, List.set_cons_succ]
            with_reducible apply wpV_light
            · simp only [lightOp]
            · intro W hU hF
              have f0 := CS.out W hU
              clear hU hF
              go_simp
              exact rfl
            simp only [Act.put, List.setIfInBounds_toArray, List.set_cons_zero, List.set_cons_succ]
            with_reducible apply wpV_light
            · simp only [lightOp]
            · intro W hU hF
              have f0 := CS.out W hU
              clear hU hF
              go_simp
              exact rfl
            simp only [Act.put, List.setIfInBounds_toArray, List.set_cons_zero, List.set_cons_succ]
            with_reducible apply wpV_light
            · simp only [lightOp]
            · intro W hU hF
              have f0 := CS.out W hU
              clear hU hF
              go_simp
              exact rfl
            simp only [Act.put, List.setIfInBounds_toArray, List.set_cons_zero, List.set_cons_succ]
            with_reducible apply wpV_light
            · simp only [lightOp]
            · intro W hU hF
              have f0 := CS.out W hU
              clear hU hF
              go_simp
              exact rfl
            simp only [Act.put, List.setIfInBounds_toArray, List.set_cons_zero, List.set_cons_succ]
            with_reducible apply wpV_light
            · simp only [lightOp]
            · intro W hU hF
              have f0 := CS.out W hU
              clear hU hF
              go_simp
              exact rfl
            simp only [Act.put, List.setIfInBounds_toArray, List.set_cons_zero, List.set_cons_succ]
            with_reducible apply wpV_light
            · simp only [lightOp]
            · intro W hU hF
              have f0 := CS.out W hU
              clear hU hF
              go_simp
              exact rfl
            simp only [Act.put, List.setIfInBounds_toArray, List.set_cons_zero, List.set_cons_succ]
            with_reducible apply wpV_light
            · simp only [lightOp]
            · intro W hU hF
              have f0 := CS.out W hU
              clear hU hF
              go_simp
              exact rfl
            simp only [Act.put, List.setIfInBounds_toArray, List.set_cons_zero, List.set_cons_succ]
            with_reducible apply wpV_light
            · simp only [lightOp]
            · intro W hU hF
              have f0 := CS.out W hU
              clear hU hF
              go_simp
              exact rfl
            simp only [Act.put, List.setIfInBounds_toArray, List.set_cons_zero, List.set_cons_succ]
            with_reducible apply wpV_light
            · simp only [lightOp]
            · intro W hU hF
              have f0 := CS.out W hU
              clear hU hF
              go_simp
              exact rfl
            simp only [Act.put, List.setIfInBounds_toArray, List.set_cons_zero, List.set_cons_succ]
            with_reducible apply wpV_light
            · simp only [lightOp]
            · intro W hU hF
              have f0 := CS.out W hU
              clear hU hF
              go_simp
              exact rfl
            simp only [Act.put, List.setIfInBounds_toArray, List.set_cons_zero, List.set_cons_succ]
            refine wpV_end (fun W hU _ _ => ?_)
            have U2 : Hid (Upd [] w W) := Lib.hid (UJ.out.trans ((Upd.refl [] _).drew.trans hU))
            clear hU
            refine wpT_end ?_
            go_wp2_with fail
            refine (alive_ok _ (HG.out.upd U2.out (by simp))).mono ?_; rintro e w3 ⟨rfl, u3⟩
            have U3 := Lib.hid (U2.out.trans u3)
            clear u3
            go_wp2_with fail
            go_ret
            exact ⟨rfl, U3.out⟩
          · have dd : (x.id == y.id) = false := by simpa using hxy
            have NE : Hid (∀ i y, i < j + 1 → L[i]? = some y → y.id ≠ x.id) := Lib.hid (fun i z hi hz => by
              by_cases e : i = j
              · subst e
                rw [HY.out] at hz
                cases hz
                exact fun e => hxy e.symm
              · exact HJ.out.1 i z (by omega) hz)
            clear hxy
            go_wp2_with fail
            refine wp_invN [] [] (by kernel_rfl) (by kernel_rfl) (by kernel_rfl) trivial ?_
            with_reducible apply wpV_light
            · simp only [lightOp]
            · intro W hU hF
              have f0 := CS.out W hU
              clear hU hF
              go_simp
              exact rfl
            simp only [Act.put, List.setIfInBounds_toArray, List.set_cons_zero, List.set_cons_succ]
            with_reducible apply wpV_light
            · simp only [lightOp]
            · intro W hU hF
              have f0 := CS.out W hU
              clear hU hF
              go_simp
              exact rfl
            simp only [Act.put, List.setIfInBounds_toArray, List.set_cons_zero, List.set_cons_succ]
            with_reducible apply wpV_light
            · simp only [lightOp]
            · intro W hU hF
              have f0 := CS.out W hU
              clear hU hF
              go_simp
              exact rfl
            simp only [Act.put, List.setIfInBounds_toArray, List.set_cons_zero, List.set_cons_succ]
            with_reducible apply wpV_light
            · simp only [lightOp]
            · intro W hU hF
              have f0 := CS.out W hU
              clear hU hF
              go_simp
              exact rfl
            simp only [Act.put, List.setIfInBounds_toArray, List.set_cons_zero, List.set_cons_succ]
            with_reducible apply wpV_light
            · simp only [lightOp]
            · intro W hU hF
              have f0 := CS.out W hU
              clear hU hF
              go_simp
              exact rfl
            simp only [Act.put, List.setIfInBounds_toArray, List.set_cons_zero, List.set_cons_succ]
            with_reducible apply wpV_light
            · simp only [lightOp]
            · intro W hU hF
              have f0 := CS.out W hU
              clear hU hF
              go_simp
              exact rfl
            simp only [Act.put, List.setIfInBounds_toArray, List.set_cons_zero, List.set_cons_succ]
            with_reducible apply wpV_light
            · simp only [lightOp]
            · intro W hU hF
              have f0 := CS.out W hU
              clear hU hF
              go_simp
              exact rfl
            simp only [Act.put, List.setIfInBounds_toArray, List.set_cons_zero, List.set_cons_succ]
            with_reducible apply wpV_light
            · simp only [lightOp]
            · intro W hU hF
              have f0 := CS.out W hU
              clear hU hF
              go_simp
              exact rfl
            simp only [Act.put, List.setIfInBounds_toArray, List.set_cons_zero, List.set_cons_succ]
            with_reducible apply wpV_light
            · simp only [lightOp]
            · intro W hU hF
              have f0 := CS.out W hU
              clear hU hF
              go_simp
              exact rfl
            simp only [Act.put, List.setIfInBounds_toArray, List.set_cons_zero, List.set_cons_succ]
            with_reducible apply wpV_light
            · simp only [lightOp]
            · intro W hU hF
              have f0 := CS.out W hU
              clear hU hF
              go_simp
              exact rfl
            simp only [Act.put, List.setIfInBounds_toArray, List.set_cons_zero, List.set_cons_succ]
            with_reducible apply wpV_light
            · simp only [lightOp]
            · intro W hU hF
              have f0 := CS.out W hU
              clear hU hF
              go_simp
              exact rfl
            simp only [Act.put, List.setIfInBounds_toArray, List.set_cons_zero, List.set_cons_succ]
            refine wpV_end (fun W hU _ _ => ?_)
            have U2 : Hid (Upd [] w W) := Lib.hid (UJ.out.trans ((Upd.refl [] _).drew.trans hU))
            clear hU
            refine wpT_end ?_
            go_wp2_with fail
            go_roundw
            case rel => exact ⟨j + 1, by go_num, by omega, Lib.hid ⟨NE.out, U2.out⟩⟩
            case measure => simp [intOf]; omega
        · have hjk2 : j = k := by omega
          subst hjk2
          have ND : Hid ((idsT (L.take (j + 1))).Nodup) := Lib.hid (by
            rw [List.take_add_one, HX.out]
            show ((L.take j ++ [x]).map (·.id)).Nodup
            rw [List.map_append, List.nodup_append]
            refine ⟨HK.out.1, by simp, fun a ha b hb => ?_⟩
            obtain ⟨y, hy, rfl⟩ := List.mem_map.1 ha
            simp at hb
            subst hb
            obtain ⟨i, hi, rfl⟩ := List.getElem_of_mem hy
            rw [List.length_take] at hi
            refine HJ.out.1 i _ (by omega) ?_
            rw [List.getElem_take, List.getElem?_eq_getElem (by omega)])
          have UJ := Lib.hid HJ.out.2
          go_wp2_with fail
          go_roundw
          case rel => exact ⟨j + 1, by go_num, by omega, Lib.hid ⟨ND.out, UJ.out⟩⟩
          case measure => simp [intOf]; omega
    · have hkn2 : k = n := by omega
      subst hkn2
      have ND : Hid ((idsT L).Nodup) := Lib.hid (by have := HK.out.1; rwa [List.take_of_length_le (by rw [HN.out]; exact Nat.le_refl _)] at this)
      have U0 := Lib.hid HK.out.2
      clear hk HK hkn
      go_wp2_with fail
      refine (q_new _ w.heap.size U0.out.size).mono ?_; rintro e w1 ⟨qa, pa, ma, rfl, q1, u1, _, _, _⟩
      have Q1 := Lib.hid q1
      have U1 := Lib.hid (U0.out.trans u1)
      clear q1 u1
      go_wp2_with fail
      refine (q_new w1 w1.heap.size (Nat.le_refl _)).mono ?_; rintro e w2 ⟨qb, pb, mb, rfl, q2, u2, _, _, _⟩
      have T2 : Hid (Two qa pa ma qb pb mb w w2 [] []) := Lib.hid ⟨(Q1.out.upd0 u2).1, q2.base U1.out.size, far_new Q1.out q2 u2, U1.out.trans u2⟩
      clear q2 u2 Q1 U1 U0
      go_wp2_with fail
      obtain ⟨m, hmk, hme⟩ := turn_ok turn k (by omega) (by omega)
      rw [hme]
      clear hme
      go_loopw [66] (fun v wr => ∃ i : Nat, v = .int .i64 i ∧ i ≤ k ∧ Hid (∃ ts us, Two qa pa ma qb pb mb w wr ts us ∧ ts.Perm (L.take i) ∧ us.Perm ((rotL L m).take i))) (fun v _ => k - (intOf v).toNat)
      case atStart => exact ⟨0, rfl, by omega, Lib.hid ⟨[], [], T2.out, by simp, by simp⟩⟩
      case round =>
        obtain ⟨i, rfl, hi, HK⟩ := hrel
        obtain ⟨ts, us, t, p, r⟩ := HK.out
        have T := Lib.hid t
        have PT := Lib.hid p
        have RT := Lib.hid r
        clear HK t p r
        rename World => wi
        have TL : Hid (ts.length = i ∧ us.length = i) := Lib.hid (by
          rw [PT.out.length_eq, RT.out.length_eq, List.length_take, List.length_take, (rot_perm L m).length_eq, HN.out]
          omega)
        by_cases hik : i < k
        · obtain ⟨x, hx⟩ : ∃ x, L[i]? = some x := ⟨_, List.getElem?_eq_getElem (by rw [HN.out]; exact hik)⟩
          obtain ⟨j, hj⟩ : ∃ j, (i + m) % k = j := ⟨_, rfl⟩
          have hjk : j < k := by rw [← hj]; exact Nat.mod_lt _ (by omega)
          obtain ⟨y, hy⟩ : ∃ y, L[j]? = some y := ⟨_, List.getElem?_eq_getElem (by rw [HN.out]; exact hjk)⟩
          have HX := Lib.hid hx
          have HY := Lib.hid hy
          have HR : Hid ((rotL L m)[i]? = some y) := Lib.hid (by rw [rot_at HN.out hmk hik, hj]; exact hy)
          have NR : Hid ((idsT (rotL L m)).Nodup) := Lib.hid (((rot_perm L m).map (·.id)).nodup_iff.2 ND.out)
          have hij : ((i : Int) + (m : Int)).tmod (k : Int) = (j : Int) := by rw [rot_idx, hj]
          have PE1 : Hid (pushE ts x = 0) := Lib.hid (pushE_new (by rw [hasT_perm PT.out]; exact has_take ND.out HX.out) (by rw [TL.out.1]; omega))
          have PE2 : Hid (pushE us y = 0) := Lib.hid (pushE_new (by rw [hasT_perm RT.out]; exact has_take NR.out HR.out) (by rw [TL.out.2]; omega))
          obtain ⟨e0, e1⟩ := CEL.out wi i x T.out.u HX.out
          have q1 : (0 : Int) ≤ (i : Int) := by omega
          have q2 : (i : Int) < (k : Int) := by omega
          have q3 : (0 : Int) ≤ (j : Int) := by omega
          have q4 : (j : Int) < (k : Int) := by omega
          clear hx hy hj
          go_wp2_with fail
          refine (q_push w.heap.size qa pa ma ts x wi T.out.a (by rw [TL.out.1]; omega) T.out.u.size).mono ?_
          rintro e w3 ⟨va, ts3, rfl, ea, q3, p3, f3⟩
          rw [PE1.out] at ea p3
          obtain rfl := ea.nils
          rw [if_pos rfl] at p3
          have T3 := Lib.hid (T.out.stepA q3 f3)
          have P3 := Lib.hid (push_take HX.out PT.out p3)
          clear ea q3 p3 f3 e0 e1
          obtain ⟨g0, g1⟩ := CEL.out w3 j y T3.out.u HY.out
          go_wp2_with fail
          refine (no_nil _).mono ?_; rintro e w' ⟨rfl, rfl⟩
          go_wp2_with fail
          refine (q_push w.heap.size qb pb mb us y w3 T3.out.b (by rw [TL.out.2]; omega) T3.out.u.size).mono ?_
          rintro e w4 ⟨vb, us4, rfl, eb, q4, p4, f4⟩
          rw [PE2.out] at eb p4
          obtain rfl := eb.nils
          rw [if_pos rfl] at p4
          have T4 := Lib.hid (T3.out.stepB q4 f4)
          have P4 := Lib.hid (push_take HR.out RT.out p4)
          clear eb q4 p4 f4 g0 g1
          go_wp2_with fail
          refine (no_nil _).mono ?_; rintro e w' ⟨rfl, rfl⟩
          go_wp2_with fail
          go_roundw
          case rel => exact ⟨i + 1, by go_num, by omega, Lib.hid ⟨_, _, T4.out, P3.out, P4.out⟩⟩
          case measure => simp [intOf]; omega
        · have hik2 : i = k := by omega
          subst hik2
          have SE : Hid (sortL ts = sortL us) := Lib.hid (by
            refine sortL_eq T.out.a.tim.nd ?_
            have h1 := PT.out
            have h2 := RT.out
            rw [List.take_of_length_le (by rw [HN.out]; exact Nat.le_refl _)] at h1
            rw [List.take_of_length_le (by rw [(rot_perm L m).length_eq, HN.out]; exact Nat.le_refl _)] at h2
            exact h1.trans ((rot_perm L m).symm.trans h2.symm))
          clear hi hik
          go_wp2_with fail
          refine (q_all w.heap.size qa pa ma ts wi T.out.a).mono ?_; rintro e w3 ⟨va, rfl, oa, ua⟩
          have OA : Hid (w3.ownsRow wi.heap.size 29 2 va (sortL ts).length (flatT (sortL ts))) := Lib.hid (by rw [(sortL_perm ts).length_eq]; exact oa)
          have T3 := Lib.hid (T.out.upd0 ua)
          clear oa ua
          go_wp2_with fail
          refine (q_all w.heap.size qb pb mb us w3 T3.out.b).mono ?_; rintro e w4 ⟨vb, rfl, ob, ub⟩
          have OB : Hid (w4.ownsRow w3.heap.size 29 2 vb (sortL us).length (flatT (sortL us))) := Lib.hid (by rw [(sortL_perm us).length_eq]; exact ob)
          have OA4 := Lib.hid (own_upd0 OA.out ub)
          have T4 := Lib.hid (T3.out.upd0 ub)
          clear ob ub
          go_wp2_with fail
          refine (same_ok _ _ (sortL ts) (sortL us) va vb w4 OA4.out OB.out (by rw [(sortL_perm ts).length_eq, TL.out.1]; omega) (by rw [(sortL_perm us).length_eq, TL.out.2]; omega)).mono ?_
          rintro e w5 ⟨rfl, u5⟩
          rw [decide_eq_true SE.out]
          have T5 := Lib.hid (T4.out.upd0 u5)
          clear u5
          go_wp2_with fail
          refine (q_len0 w.heap.size qa pa ma ts w5 T5.out.a).mono ?_; rintro e w6 ⟨rfl, rfl⟩
          rw [TL.out.1]
          go_wp2_with fail
          refine (alive_ok _ (HG.out.upd T5.out.u (by simp))).mono ?_; rintro e w6 ⟨rfl, u6⟩
          have U6 := Lib.hid (T5.out.u.trans u6)
          clear u6
          go_wp2_with fail
          go_ret
          exact ⟨rfl, U6.out⟩
end Go.Proofs.YtainiojlhdbhgaaDoor

/-
  model.State: Same.
-/
import Derived.Test.YtjlpogmoebmkdaaDoorMEq
set_option linter.unusedVariables false
namespace Go.Proofs.YtjlpogmoebmkdaaDoor
open Go.RowKit Assoc MP
attribute [local go_sem] litStep_value

def sameUpTo (s t : MS) (k : Nat) : Prop := ∀ j, j < k → coll s j = coll t j
theorem ms_eq {s t : MS} (h1 : s.K = t.K) {n : Nat} (hs : s.L.length = n) (ht : t.L.length = n) (h : sameUpTo s t n) : s = t := by
  cases s with
  | mk K L =>
    cases t with
    | mk K' L' =>
      simp only at h1 hs ht
      subst h1
      congr 1
      apply List.ext_getElem (by rw [hs, ht])
      intro i h2 h3
      have := h i (by omega)
      unfold coll at this
      simpa [List.getD_eq_getElem?_getD, h2, h3] using this
def SamePost (s t : MS) (w : World) (e : Ending) (w' : World) : Prop := ∃ b, e = .returned (.bool b) ∧ (b = true ↔ s = t) ∧ Upd [] w w'
set_option maxRecDepth 100000 in
set_option maxHeartbeats 4000000 in
theorem m_same (B B' sb tb : Nat) (F F' : List Nat) (s t : MS) (w : World) (h : Mdl B sb F w s) (h' : Mdl B' tb F' w t) :
    Calls Tryd.prog 22 #[.pointer (some ⟨sb, 0, none⟩), .pointer (some ⟨tb, 0, none⟩)] w fun e w' => SamePost s t w e w' := by
  obtain ⟨g, vk, gc, cc, ms, hF, hs⟩ := h
  obtain ⟨g', vk', gc', cc', ms', hF', ht⟩ := h'
  have HS := Lib.hid hs
  have HT := Lib.hid ht
  have HG := Lib.hid g
  have HG' := Lib.hid g'
  have K8 := Lib.hid (And.intro g.k8 g'.k8)
  obtain ⟨Ak, ck, rfl, _, _⟩ := own_slice hs.k
  obtain ⟨Ak', ck', rfl, _, _⟩ := own_slice ht.k
  obtain ⟨n, hn⟩ : ∃ n, s.L.length = n := ⟨_, rfl⟩
  obtain ⟨n', hn'⟩ : ∃ n, t.L.length = n := ⟨_, rfl⟩
  have HN := Lib.hid hn
  have HN' := Lib.hid hn'
  have hn8 : n ≤ 8 := by rw [← hn, ← g.kl]; exact g.k8
  have HB : Hid (Blk w sb 75 #[.slice Ak s.K.length ck, .slice (some ⟨gc, 0, none⟩) n cc]) := Lib.hid (by rw [← hn]; exact hs.box)
  have HB' : Hid (Blk w tb 75 #[.slice Ak' t.K.length ck', .slice (some ⟨gc', 0, none⟩) n' cc']) := Lib.hid (by rw [← hn']; exact ht.box)
  have OC : Hid (w.ownsRow B 59 1 (.slice (some ⟨gc, 0, none⟩) n cc) n (mapsV ms)) := Lib.hid (by rw [← hn]; exact hs.c)
  have OC' : Hid (w.ownsRow B' 59 1 (.slice (some ⟨gc', 0, none⟩) n' cc') n' (mapsV ms')) := Lib.hid (by rw [← hn']; exact ht.c)
  clear g g' hs ht hF hF' hn hn'
  go_enter Tryd.func22, Tryd.ntmps22
  go_wp2_with fail
  have CS : Hid (∀ W, Upd [] w.drew W → W.cell? ⟨sb, 0, none⟩ = some (.slice Ak s.K.length ck) ∧ W.cell? ⟨tb, 0, none⟩ = some (.slice Ak' t.K.length ck')) := Lib.hid (fun W hW => by
    have hu := (Upd.refl [] w).drew.trans hW
    exact ⟨(HB.out.upd hu (by simp)).cell 0, (HB'.out.upd hu (by simp)).cell 0⟩)
  refine wp_invN [(8, .det (.bool (decide (s.K = t.K))))] [] (by kernel_rfl) (by kernel_rfl) (by kernel_rfl) ⟨lasts_det _, trivial⟩ ?_
  with_reducible apply wpV_light
  · simp only [lightOp]
  · intro W hU hF
    have f0 := CS.out W hU
    clear hU hF
    go_simp
    exact rfl
  simp only [Act.put, List.setIfInBounds_toArray, List.set_cons_zero, List.set_cons_succ]
  with_reducible apply wpV_light
  · simp only [lightOp]
  · intro W hU hF
    have f0 := CS.out W hU
    clear hU hF
    go_simp
    exact rfl
  simp only [Act.put, List.setIfInBounds_toArray, List.set_cons_zero, List.set_cons_succ]
  with_reducible apply wpV_light
  · simp only [lightOp]
  · intro W hU hF
    have f0 := CS.out W hU
    clear hU hF
    go_simp
    exact rfl
  simp only [Act.put, List.setIfInBounds_toArray, List.set_cons_zero, List.set_cons_succ]
  with_reducible apply wpV_light
  · simp only [lightOp]
  · intro W hU hF
    have f0 := CS.out W hU
    clear hU hF
    go_simp
    exact rfl
  simp only [Act.put, List.setIfInBounds_toArray, List.set_cons_zero, List.set_cons_succ]
  with_reducible apply wpV_light
  · simp only [lightOp]
  · intro W hU hF
    have f0 := CS.out W hU
    clear hU hF
    go_simp
    exact rfl
  simp only [Act.put, List.setIfInBounds_toArray, List.set_cons_zero, List.set_cons_succ]
  with_reducible apply wpV_light
  · simp only [lightOp]
  · intro W hU hF
    have f0 := CS.out W hU
    clear hU hF
    go_simp
    exact rfl
  simp only [Act.put, List.setIfInBounds_toArray, List.set_cons_zero, List.set_cons_succ]
  with_reducible apply wpV_light
  · simp only [lightOp]
  · intro W hU hF
    have f0 := CS.out W hU
    clear hU hF
    go_simp
    exact rfl
  simp only [Act.put, List.setIfInBounds_toArray, List.set_cons_zero, List.set_cons_succ]
  with_reducible apply wpV_light
  · simp only [lightOp]
  · intro W hU hF
    have f0 := CS.out W hU
    clear hU hF
    go_simp
    exact rfl
  simp only [Act.put, List.setIfInBounds_toArray, List.set_cons_zero, List.set_cons_succ]
  refine wpV_heavy (by simp only [lightOp]) (by rfl) (fun W hU hk hF K hK => ?_) ?_
  · go_wp2_with fail
    refine (equal_ints B B' s.K t.K _ _ _ (HS.out.k.upd0 ((Upd.refl [] w).drew.trans hU)) (HT.out.k.upd0 ((Upd.refl [] w).drew.trans hU)) (by have := K8.out.1; omega) (by have := K8.out.2; omega)).mono ?_; rintro e w2 ⟨rfl, u2⟩
    go_wp2_with fail
    exact hK.out _ _ (outV_new rfl rfl (by intro b hb; cases hb) u2)
  rintro _ rfl
  simp only [Act.put, List.setIfInBounds_toArray, List.set_cons_zero, List.set_cons_succ]
  with_reducible apply wpV_light
  · simp only [lightOp]
  · intro W hU hF
    have f0 := CS.out W hU
    clear hU hF
    go_simp
    exact rfl
  simp only [Act.put, List.setIfInBounds_toArray, List.set_cons_zero, List.set_cons_succ]
  refine wpV_end (fun W hU _ _ => ?_)
  have U1 : Hid (Upd [] w W) := Lib.hid ((Upd.refl [] w).drew.trans hU)
  clear hU
  refine wpT_end ?_
  by_cases hkk : s.K = t.K
  · have HKK := Lib.hid hkk
    have hnn : n' = n := by rw [← HN'.out, ← HN.out, ← HG'.out.kl, ← HG.out.kl, hkk]
    subst hnn
    rw [decide_eq_true hkk]
    have c1 : W.cell? ⟨sb, 1, none⟩ = some (.slice (some ⟨gc, 0, none⟩) n' cc) := (HB.out.upd U1.out (by simp)).cell 1
    clear hkk
    go_wp2_with fail
    clear c1
    go_loopw [33] (fun v wr => ∃ k : Nat, v = .int .i64 k ∧ k ≤ n' ∧ Hid (sameUpTo s t k) ∧ Hid (Upd [] w wr)) (fun v _ => n' - (intOf v).toNat)
    case atStart => exact ⟨0, rfl, by omega, Lib.hid (fun j hj => by omega), U1⟩
    case round =>
      obtain ⟨k, rfl, hk, HSU, UI⟩ := hrel
      by_cases hkn : k < n'
      · obtain ⟨m, hm, him⟩ := HS.out.at_ (i := k) (by rw [HN.out]; exact hkn)
        obtain ⟨m', hm', him'⟩ := HT.out.at_ (i := k) (by rw [HN'.out]; exact hkn)
        have HM := Lib.hid him
        have HM' := Lib.hid him'
        have x0 : w.cell? ⟨gc, k, none⟩ = some (.map (some m)) := own_cell OC.out k _ (by unfold mapsV; rw [List.getElem?_map, hm]; rfl)
        have x0' : w.cell? ⟨gc', k, none⟩ = some (.map (some m')) := own_cell OC'.out k _ (by unfold mapsV; rw [List.getElem?_map, hm']; rfl)
        have CL : Hid (∀ V, Upd [] wr.drew V → V.cell? ⟨sb, 1, none⟩ = some (.slice (some ⟨gc, 0, none⟩) n' cc) ∧ V.cell? ⟨tb, 1, none⟩ = some (.slice (some ⟨gc', 0, none⟩) n' cc') ∧ V.cell? ⟨gc, k, none⟩ = some (.map (some m)) ∧ V.cell? ⟨gc', k, none⟩ = some (.map (some m'))) := Lib.hid (fun V hV => by
          have hu := UI.out.drew.trans hV
          exact ⟨(HB.out.upd hu (by simp)).cell 1, (HB'.out.upd hu (by simp)).cell 1, own_cell (own_upd0 OC.out hu) k _ (by unfold mapsV; rw [List.getElem?_map, hm]; rfl), own_cell (own_upd0 OC'.out hu) k _ (by unfold mapsV; rw [List.getElem?_map, hm']; rfl)⟩)
        have SR := Lib.hid (HG.out.srt _ (coll_mem (s := s) (i := k) (by rw [HN.out]; exact hkn)))
        have SR' := Lib.hid (HG'.out.srt _ (coll_mem (s := t) (i := k) (by rw [HN'.out]; exact hkn)))
        have q1 : (0 : Int) ≤ (k : Int) := by omega
        have q2 : (k : Int) < (n' : Int) := by omega
        clear hm hm' him him' x0 x0'
        go_wp2_with fail
        refine wp_invN [(14, .det (.bool (decide (coll s k = coll t k))))] [] (by kernel_rfl) (by kernel_rfl) (by kernel_rfl) ⟨lasts_det _, trivial⟩ ?_
        with_reducible apply wpV_light
        · simp only [lightOp]
        · intro W hU hF
          have f0 := CL.out W hU
          clear hU hF
          go_simp
          exact rfl
        simp only [Act.put, List.setIfInBounds_toArray, List.set_cons_zero, List.set_cons_succ]
        with_reducible apply wpV_light
        · simp only [lightOp]
        · intro W hU hF
          have f0 := CL.out W hU
          clear hU hF
          go_simp
          exact rfl
        simp only [Act.put, List.setIfInBounds_toArray, List.set_cons_zero, List.set_cons_succ]
        with_reducible apply wpV_light
        · simp only [lightOp]
        · intro W hU hF
          have f0 := CL.out W hU
          clear hU hF
          go_simp
          exact rfl
        simp only [Act.put, List.setIfInBounds_toArray, List.set_cons_zero, List.set_cons_succ]
        with_reducible apply wpV_light
        · simp only [lightOp]
        · intro W hU hF
          have f0 := CL.out W hU
          clear hU hF
          go_simp
          exact rfl
        simp only [Act.put, List.setIfInBounds_toArray, List.set_cons_zero, List.set_cons_succ]
        with_reducible apply wpV_light
        · simp only [lightOp]
        · intro W hU hF
          have f0 := CL.out W hU
          clear hU hF
          go_simp
          exact rfl
        simp only [Act.put, List.setIfInBounds_toArray, List.set_cons_zero, List.set_cons_succ]
        with_reducible apply wpV_light
        · simp only [lightOp]
        · intro W hU hF
          have f0 := CL.out W hU
          clear hU hF
          go_simp
          exact rfl
        simp only [Act.put, List.setIfInBounds_toArray, List.set_cons_zero, List.set_cons_succ]
        with_reducible apply wpV_light
        · simp only [lightOp]
        · intro W hU hF
          have f0 := CL.out W hU
          clear hU hF
          go_simp
          exact rfl
        simp only [Act.put, List.setIfInBounds_toArray, List.set_cons_zero, List.set_cons_succ]
        with_reducible apply wpV_light
        · simp only [lightOp]
        · intro W hU hF
          have f0 := CL.out W hU
          clear hU hF
          go_simp
          exact rfl
        simp only [Act.put, List.setIfInBounds_toArray, List.set_cons_zero, List.set_cons_succ]
        with_reducible apply wpV_light
        · simp only [lightOp]
        · intro W hU hF
          have f0 := CL.out W hU
          clear hU hF
          go_simp
          exact rfl
        simp only [Act.put, List.setIfInBounds_toArray, List.set_cons_zero, List.set_cons_succ]
        with_reducible apply wpV_light
        · simp only [lightOp]
        · intro W hU hF
          have f0 := CL.out W hU
          clear hU hF
          go_simp
          exact rfl
        simp only [Act.put, List.setIfInBounds_toArray, List.set_cons_zero, List.set_cons_succ]
        with_reducible apply wpV_light
        · simp only [lightOp]
        · intro W hU hF
          have f0 := CL.out W hU
          clear hU hF
          go_simp
          exact rfl
        simp only [Act.put, List.setIfInBounds_toArray, List.set_cons_zero, List.set_cons_succ]
        with_reducible apply wpV_light
        · simp only [lightOp]
        · intro W hU hF
          have f0 := CL.out W hU
          clear hU hF
          go_simp
          exact rfl
        simp only [Act.put, List.setIfInBounds_toArray, List.set_cons_zero, List.set_cons_succ]
        with_reducible apply wpV_light
        · simp only [lightOp]
        · intro W hU hF
          have f0 := CL.out W hU
          clear hU hF
          go_simp
          exact rfl
        simp only [Act.put, List.setIfInBounds_toArray, List.set_cons_zero, List.set_cons_succ]
        with_reducible apply wpV_light
        · simp only [lightOp]
        · intro W hU hF
          have f0 := CL.out W hU
          clear hU hF
          go_simp
          exact rfl
        simp only [Act.put, List.setIfInBounds_toArray, List.set_cons_zero, List.set_cons_succ]
        refine wpV_heavy (by simp only [lightOp]) (by rfl) (fun W hU hk hF K hK => ?_) ?_
        · go_wp2_with fail
          have hu := UI.out.trans ((Upd.refl [] wr).drew.trans hU)
          refine (equal_maps m m' (coll s k) (coll t k) _ (HM.out.upd hu (by simp)) (HM'.out.upd hu (by simp)) SR.out SR'.out).mono ?_; rintro e w2 ⟨rfl, u2⟩
          go_wp2_with fail
          exact hK.out _ _ (outV_new rfl rfl (by intro b hb; cases hb) u2)
        rintro _ rfl
        simp only [Act.put, List.setIfInBounds_toArray, List.set_cons_zero, List.set_cons_succ]
        with_reducible apply wpV_light
        · simp only [lightOp]
        · intro W hU hF
          have f0 := CL.out W hU
          clear hU hF
          go_simp
          exact rfl
        simp only [Act.put, List.setIfInBounds_toArray, List.set_cons_zero, List.set_cons_succ]
        refine wpV_end (fun V hU _ _ => ?_)
        have U2 : Hid (Upd [] w V) := Lib.hid (UI.out.trans ((Upd.refl [] wr).drew.trans hU))
        clear hU
        refine wpT_end ?_
        by_cases hcc : coll s k = coll t k
        · rw [decide_eq_true hcc]
          have HS2 : Hid (sameUpTo s t (k + 1)) := Lib.hid (fun j hj => by
            rcases Nat.lt_or_ge j k with h1 | h1
            · exact HSU.out j h1
            · obtain rfl : j = k := by omega
              exact hcc)
          clear hcc
          go_wp2_with fail
          go_roundw
          case rel => exact ⟨k + 1, by go_num, by omega, HS2, U2⟩
          case measure => simp [intOf]; omega
        · rw [decide_eq_false hcc]
          have HZ : Hid (¬ s = t) := Lib.hid (fun e => hcc (by rw [e]))
          clear hcc
          go_wp2_with fail
          go_ret
          unfold SamePost
          exact ⟨_, rfl, ⟨fun h => (by cases h), fun h => absurd h HZ.out⟩, U2.out⟩
      · obtain rfl : k = n' := by omega
        go_wp2_with fail
        go_ret
        unfold SamePost
        exact ⟨_, rfl, ⟨fun _ => ms_eq HKK.out HN.out HN'.out HSU.out, fun _ => rfl⟩, UI.out⟩
  · rw [decide_eq_false hkk]
    have HZ : Hid (¬ s = t) := Lib.hid (fun e => hkk (by rw [e]))
    clear hkk
    go_wp2_with fail
    go_ret
    unfold SamePost
    exact ⟨_, rfl, ⟨fun h => (by cases h), fun h => absurd h HZ.out⟩, U1.out⟩
end Go.Proofs.YtjlpogmoebmkdaaDoor

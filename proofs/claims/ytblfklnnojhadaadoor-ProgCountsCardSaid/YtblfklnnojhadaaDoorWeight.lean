/-
  concordlaw09.weight, Few: how many statements there are.
-/
import Derived.Test.YtblfklnnojhadaaDoorWalkP
import Derived.IntWalk
set_option linter.unusedVariables false
namespace Go.Proofs.YtblfklnnojhadaaDoor
open Go.RowKit
attribute [local go_sem] litStep_value

/-- What weight counts on; and of all. -/
def wtG (r : Nat → List Stm → Nat) (d : Nat) : List Stm → Nat → Nat
  | [], n => n
  | .mk _ _ _ _ _ _ _ b e :: l, n => if n < 1000 then wtG r d l (n + 1 + r (d + 1) b + r (d + 1) e) else n
def wtF : Nat → Nat → List Stm → Nat
  | 0, _, _ => 0
  | m + 1, d, l => if 30 < d then 1000 else min (wtG (wtF m) d l 0) 1000
theorem wtF_le : ∀ m d l, wtF m d l ≤ 1000
  | 0, _, _ => by simp [wtF]
  | m + 1, d, l => by unfold wtF; split <;> omega
theorem wtG_done (r : Nat → List Stm → Nat) (d : Nat) (l : List Stm) (n : Nat) (h : ¬ n < 1000) : wtG r d l n = n := by
  cases l with
  | nil => rfl
  | cons s l => cases s; unfold wtG; rw [if_neg h]
theorem wtG_mono (r : Nat → List Stm → Nat) (d : Nat) : ∀ (l : List Stm) (n : Nat), n ≤ wtG r d l n
  | [], n => Nat.le_refl _
  | .mk _ _ _ _ _ _ _ b e :: l, n => by
    unfold wtG
    split
    · have := wtG_mono r d l (n + 1 + r (d + 1) b + r (d + 1) e)
      omega
    · exact Nat.le_refl _
/-- Where it is below 1000 it is how many there are. -/
theorem wtG_cons (r : Nat → List Stm → Nat) (d : Nat) (a1 a2 a3 a4 a5 a6 a7 : Int) (b e l : List Stm) (n : Nat) : wtG r d (.mk a1 a2 a3 a4 a5 a6 a7 b e :: l) n = if n < 1000 then wtG r d l (n + 1 + r (d + 1) b + r (d + 1) e) else n := rfl
theorem wtF_sizes : ∀ (m d : Nat) (l : List Stm), 31 < m + d → d ≤ 31 → wtF m d l < 1000 → wtF m d l = sizes l
  | 0, d, l, hm, h31, h => by omega
  | m + 1, d, l, hm, h31, h => by
    unfold wtF at h ⊢
    split at h
    · omega
    · rename_i hd
      rw [if_neg hd]
      have key : ∀ (l : List Stm) (n : Nat), wtG (wtF m) d l n < 1000 → wtG (wtF m) d l n = n + sizes l := by
        intro l
        induction l with
        | nil => intro n _; rfl
        | cons s l ih =>
          intro n h
          cases s with
          | mk a1 a2 a3 a4 a5 a6 a7 b e =>
            rw [wtG_cons] at h ⊢
            split at h
            · rename_i hn
              rw [if_pos hn]
              have h1 := wtG_mono (wtF m) d l (n + 1 + wtF m (d + 1) b + wtF m (d + 1) e)
              have hb := wtF_sizes m (d + 1) b (by omega) (by omega) (by omega)
              have he := wtF_sizes m (d + 1) e (by omega) (by omega) (by omega)
              rw [ih _ h, hb, he, sizes_cons, size_mk]
              omega
            · omega
      have := key l 0 (by omega)
      omega

set_option maxRecDepth 100000 in
set_option maxHeartbeats 4000000 in
theorem weight_ok {B : Nat} : ∀ (m : Nat) (d : Nat) (l : List Stm) (v : Value) (w : World), 31 < m + d → d ≤ 31 → Stms w B v l → B ≤ w.heap.size →
    Calls Tryd.prog 26 #[v, .int .i64 d] w fun e w' => e = .returned (.int .i64 (wtF m d l)) ∧ Upd [] w w' := by
  intro m
  induction m with
  | zero => intro d l v w h1 h2; omega
  | succ m ih =>
    intro d l v w hm hd hv hB
    by_cases h30 : 30 < d
    · have h30' : decide ((30 : Int) < d) = true := by simp; omega
      have HR : Hid (wtF (m + 1) d l = 1000) := Lib.hid (by unfold wtF; rw [if_pos h30])
      go_enter Tryd.func26, Tryd.ntmps26
      go_wp2_with fail
      go_ret
      rw [HR.out]
      exact ⟨rfl, .refl _ _⟩
    · have h30' : decide ((30 : Int) < d) = false := by simp; omega
      have HR : Hid (wtF (m + 1) d l = min (wtG (wtF m) d (l.drop 0) 0) 1000) := Lib.hid (by unfold wtF; rw [if_neg h30]; rfl)
      obtain ⟨tot, htot⟩ : ∃ t, wtF (m + 1) d l = t := ⟨_, rfl⟩
      rw [htot] at HR ⊢
      have IH := Lib.hid ih
      have HLI := Lib.hid hv
      have HLE : Hid (∀ d l, wtF m d l ≤ 1000) := Lib.hid (wtF_le m)
      clear htot ih
      cases hv with
      | mk A nn c l vb ve hln hc hcm hcell hbb hee =>
      have hnn : nn ≤ 9223372036854775807 := by omega
      have HLN := Lib.hid hln
      have HCE := Lib.hid hcell
      have HBB := Lib.hid hbb
      have HEE := Lib.hid hee
      clear hln hcell hbb hee
      go_enter Tryd.func26, Tryd.ntmps26
      go_wp2_with fail
      go_loopw [5, 6] (fun u i wr => ∃ (k n : Nat), u = .int .i64 n ∧ n ≤ 3000 ∧ i = .int .i64 k ∧ k ≤ nn ∧ Hid (tot = min (wtG (wtF m) d (l.drop k) n) 1000) ∧ Hid (Upd [] w wr)) (fun _ i _ => nn - (intOf i).toNat)
      case atStart => exact ⟨0, 0, rfl, by omega, rfl, by omega, HR, Lib.hid (.refl _ _)⟩
      case round =>
        obtain ⟨k, n, rfl, hn, rfl, hk, KR, KU⟩ := hrel
        by_cases hkn : k < nn
        · have hkn' : decide ((k : Int) < nn) = true := by simp; omega
          by_cases hn1 : n < 1000
          · have hn1' : decide ((n : Int) < 1000) = true := by simp; omega
            obtain ⟨x, hx⟩ : ∃ x, l[k]? = some x := ⟨_, List.getElem?_eq_getElem (by rw [HLN.out]; exact hkn)⟩
            obtain ⟨a1, a2, a3, a4, a5, a6, a7, bo, el⟩ := x
            have HZ : Hid (tot = min (wtG (wtF m) d (l.drop (k + 1)) (n + 1 + wtF m (d + 1) bo + wtF m (d + 1) el)) 1000) := Lib.hid (by
              rw [KR.out]
              obtain ⟨hl, he⟩ := List.getElem?_eq_some_iff.1 hx
              rw [List.drop_eq_getElem_cons hl, he, wtG_cons, if_pos hn1])
            obtain ⟨ad, rfl, hlt, hcc⟩ := HCE.out k a1 a2 a3 a4 a5 a6 a7 bo el hx
            have hsb := HBB.out k a1 a2 a3 a4 a5 a6 a7 bo el hx
            have hse := HEE.out k a1 a2 a3 a4 a5 a6 a7 bo el hx
            obtain ⟨Ab, nb, cb, hvb⟩ := hsb.slice
            obtain ⟨Ae, ne, ce, hve⟩ := hse.slice
            rw [hvb, hve] at hcc
            rw [hvb] at hsb
            rw [hve] at hse
            have HSB := Lib.hid hsb
            have HSE := Lib.hid hse
            have CS : Hid (∀ W, Upd [] wr.drew W → W.cell? ⟨(ad.add (k * 9)).block, (ad.add (k * 9)).off + (6 + 1), none⟩ = some (.slice Ab nb cb) ∧ W.cell? ⟨(ad.add (k * 9)).block, (ad.add (k * 9)).off + (7 + 1), none⟩ = some (.slice Ae ne ce)) := Lib.hid (fun W hW => by
              have hb : Below B w W := (KU.out.drew.trans hW).below hB (by simp)
              constructor
              · rw [← add_more]; exact (hb.cell (by rw [block_add]; exact hlt)).trans (hcc 7 _ rfl)
              · rw [← add_more]; exact (hb.cell (by rw [block_add]; exact hlt)).trans (hcc 8 _ rfl))
            have hr1 := HLE.out (d + 1) bo
            have hr2 := HLE.out (d + 1) el
            obtain ⟨r1, hr1e⟩ : ∃ r, wtF m (d + 1) bo = r := ⟨_, rfl⟩
            obtain ⟨r2, hr2e⟩ : ∃ r, wtF m (d + 1) el = r := ⟨_, rfl⟩
            rw [hr1e, hr2e] at HZ
            rw [hr1e] at hr1
            rw [hr2e] at hr2
            have HE1 := Lib.hid hr1e
            have HE2 := Lib.hid hr2e
            clear hvb hve hsb hse hcc hx hr1e hr2e
            have e1 : IntKind.i64.wrap ((n : Int) + 1) = (n : Int) + 1 := IntWalk.i64_in _ (by omega)
            have e2 : IntKind.i64.wrap ((n : Int) + 1 + r1) = (n : Int) + 1 + r1 := IntWalk.i64_in _ (by omega)
            have e3 : IntKind.i64.wrap ((n : Int) + 1 + r1 + r2) = (n : Int) + 1 + r1 + r2 := IntWalk.i64_in _ (by omega)
            have e4 : IntKind.i64.wrap ((d : Int) + 1) = (d : Int) + 1 := IntWalk.i64_in _ (by omega)
            have q1 : (0 : Int) ≤ (k : Int) := by omega
            have q2 : (k : Int) < (nn : Int) := by omega
            go_wp2_with fail
            refine wp_invN [(9, .det (.int .i64 r1)), (18, .det (.int .i64 r2))] [] (by kernel_rfl) (by kernel_rfl) ⟨lasts_det _, lasts_det _, trivial⟩ ?_
            with_reducible apply wpV_light
            · simp only [lightOp]
            · intro W hU hF
              have f0 := CS.out W hU
              clear hU hF
              go_simp
              exact rfl
            simp only [Act.put, List.setIfInBounds_toArray, List.set_cons_zero, List.set_cons_succ]
            with_reducible apply wpV_light
            · simp only [lightOp]
            · intro W hU hF
              have f0 := CS.out W hU
              clear hU hF
              go_simp
              exact rfl
            simp only [Act.put, List.setIfInBounds_toArray, List.set_cons_zero, List.set_cons_succ]
            with_reducible apply wpV_light
            · simp only [lightOp]
            · intro W hU hF
              have f0 := CS.out W hU
              clear hU hF
              go_simp
              exact rfl
            simp only [Act.put, List.setIfInBounds_toArray, List.set_cons_zero, List.set_cons_succ]
            with_reducible apply wpV_light
            · simp only [lightOp]
            · intro W hU hF
              have f0 := CS.out W hU
              clear hU hF
              go_simp
              exact rfl
            simp only [Act.put, List.setIfInBounds_toArray, List.set_cons_zero, List.set_cons_succ]
            with_reducible apply wpV_light
            · simp only [lightOp]
            · intro W hU hF
              have f0 := CS.out W hU
              clear hU hF
              go_simp
              exact rfl
            simp only [Act.put, List.setIfInBounds_toArray, List.set_cons_zero, List.set_cons_succ]
            with_reducible apply wpV_light
            · simp only [lightOp]
            · intro W hU hF
              have f0 := CS.out W hU
              clear hU hF
              go_simp
              exact rfl
            simp only [Act.put, List.setIfInBounds_toArray, List.set_cons_zero, List.set_cons_succ]
            with_reducible apply wpV_light
            · simp only [lightOp]
            · intro W hU hF
              have f0 := CS.out W hU
              clear hU hF
              go_simp
              exact rfl
            simp only [Act.put, List.setIfInBounds_toArray, List.set_cons_zero, List.set_cons_succ]
            with_reducible apply wpV_light
            · simp only [lightOp]
            · intro W hU hF
              have f0 := CS.out W hU
              clear hU hF
              go_simp
              exact rfl
            simp only [Act.put, List.setIfInBounds_toArray, List.set_cons_zero, List.set_cons_succ]
            with_reducible apply wpV_light
            · simp only [lightOp]
            · intro W hU hF
              have f0 := CS.out W hU
              clear hU hF
              go_simp
              exact rfl
            simp only [Act.put, List.setIfInBounds_toArray, List.set_cons_zero, List.set_cons_succ]
            refine wpV_heavy (by simp only [lightOp]) (by rfl) (fun W hU hk hF K hK => ?_) ?_
            · go_wp2_with fail
              have hc := IH.out (d + 1) bo (.slice Ab nb cb) W (by omega) (by omega) (HSB.out.belowW ((KU.out.drew.trans hU).below hB (by simp))) (Nat.le_trans hB (KU.out.drew.trans hU).size)
              rw [show ((d + 1 : Nat) : Int) = (d : Int) + 1 by omega, HE1.out] at hc
              refine hc.mono ?_; rintro e w2 ⟨rfl, u2⟩
              go_wp2_with fail
              exact hK.out _ _ (outV_new rfl rfl (by intro b hb; cases hb) u2)
            rintro _ rfl
            simp only [Act.put, List.setIfInBounds_toArray, List.set_cons_zero, List.set_cons_succ]
            with_reducible apply wpV_light
            · simp only [lightOp]
            · intro W hU hF
              have f0 := CS.out W hU
              clear hU hF
              go_simp
              exact rfl
            simp only [Act.put, List.setIfInBounds_toArray, List.set_cons_zero, List.set_cons_succ]
            with_reducible apply wpV_light
            · simp only [lightOp]
            · intro W hU hF
              have f0 := CS.out W hU
              clear hU hF
              go_simp
              exact rfl
            simp only [Act.put, List.setIfInBounds_toArray, List.set_cons_zero, List.set_cons_succ]
            with_reducible apply wpV_light
            · simp only [lightOp]
            · intro W hU hF
              have f0 := CS.out W hU
              clear hU hF
              go_simp
              exact rfl
            simp only [Act.put, List.setIfInBounds_toArray, List.set_cons_zero, List.set_cons_succ]
            with_reducible apply wpV_light
            · simp only [lightOp]
            · intro W hU hF
              have f0 := CS.out W hU
              clear hU hF
              go_simp
              exact rfl
            simp only [Act.put, List.setIfInBounds_toArray, List.set_cons_zero, List.set_cons_succ]
            with_reducible apply wpV_light
            · simp only [lightOp]
            · intro W hU hF
              have f0 := CS.out W hU
              clear hU hF
              go_simp
              exact rfl
            simp only [Act.put, List.setIfInBounds_toArray, List.set_cons_zero, List.set_cons_succ]
            with_reducible apply wpV_light
            · simp only [lightOp]
            · intro W hU hF
              have f0 := CS.out W hU
              clear hU hF
              go_simp
              exact rfl
            simp only [Act.put, List.setIfInBounds_toArray, List.set_cons_zero, List.set_cons_succ]
            with_reducible apply wpV_light
            · simp only [lightOp]
            · intro W hU hF
              have f0 := CS.out W hU
              clear hU hF
              go_simp
              exact rfl
            simp only [Act.put, List.setIfInBounds_toArray, List.set_cons_zero, List.set_cons_succ]
            with_reducible apply wpV_light
            · simp only [lightOp]
            · intro W hU hF
              have f0 := CS.out W hU
              clear hU hF
              go_simp
              exact rfl
            simp only [Act.put, List.setIfInBounds_toArray, List.set_cons_zero, List.set_cons_succ]
            refine wpV_heavy (by simp only [lightOp]) (by rfl) (fun W hU hk hF K hK => ?_) ?_
            · go_wp2_with fail
              have hc := IH.out (d + 1) el (.slice Ae ne ce) W (by omega) (by omega) (HSE.out.belowW ((KU.out.drew.trans hU).below hB (by simp))) (Nat.le_trans hB (KU.out.drew.trans hU).size)
              rw [show ((d + 1 : Nat) : Int) = (d : Int) + 1 by omega, HE2.out] at hc
              refine hc.mono ?_; rintro e w2 ⟨rfl, u2⟩
              go_wp2_with fail
              exact hK.out _ _ (outV_new rfl rfl (by intro b hb; cases hb) u2)
            rintro _ rfl
            simp only [Act.put, List.setIfInBounds_toArray, List.set_cons_zero, List.set_cons_succ]
            with_reducible apply wpV_light
            · simp only [lightOp]
            · intro W hU hF
              have f0 := CS.out W hU
              clear hU hF
              go_simp
              exact rfl
            simp only [Act.put, List.setIfInBounds_toArray, List.set_cons_zero, List.set_cons_succ]
            with_reducible apply wpV_light
            · simp only [lightOp]
            · intro W hU hF
              have f0 := CS.out W hU
              clear hU hF
              go_simp
              exact rfl
            simp only [Act.put, List.setIfInBounds_toArray, List.set_cons_zero, List.set_cons_succ]
            refine wpV_end (fun W hU _ _ => ?_)
            have KU2 : Hid (Upd [] w W) := Lib.hid (KU.out.drew.trans hU)
            clear hU e1 e2 e3 e4 q1 q2
            go_wp2_with fail
            go_roundw
            case rel => exact ⟨k + 1, n + 1 + r1 + r2, by go_num, by omega, by go_num, by omega, HZ, KU2⟩
            case measure => simp [intOf]; omega
          · have hn1' : decide ((n : Int) < 1000) = false := by simp; omega
            have HZ : Hid (tot = 1000) := Lib.hid (by rw [KR.out, wtG_done _ _ _ _ hn1]; omega)
            go_wp2_with fail
            all_goals
              go_ret
              refine ⟨congrArg (fun x => Ending.returned (.int .i64 x)) ?_, KU.out⟩
              rw [HZ.out]
              omega
        · obtain rfl : nn = k := by omega
          have HZ : Hid (tot = min n 1000) := Lib.hid (by rw [KR.out, List.drop_eq_nil_of_le (by rw [HLN.out]; exact Nat.le_refl _)]; rfl)
          go_wp2_with fail
          all_goals
            go_ret
            refine ⟨congrArg (fun x => Ending.returned (.int .i64 x)) ?_, KU.out⟩
            rw [HZ.out]
            omega
end Go.Proofs.YtblfklnnojhadaaDoor

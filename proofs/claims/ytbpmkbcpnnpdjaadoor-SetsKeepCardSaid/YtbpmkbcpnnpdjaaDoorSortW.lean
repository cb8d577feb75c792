/-
  sets.Sets.Writes$1, and slices.SortFunc of what is written: by rising cells.
-/
import Derived.Test.YtbpmkbcpnnpdjaaDoorCmp64
import Derived.Test.YtbpmkbcpnnpdjaaDoorGrown
import Derived.Test.YtbpmkbcpnnpdjaaDoorLayW
import Derived.Test.YtbpmkbcpnnpdjaaDoorSortG
import Derived.Test.YtbpmkbcpnnpdjaaDoorSets
import Derived.Sort.Grow
set_option linter.unusedVariables false
namespace Go.Proofs.YtbpmkbcpnnpdjaaDoor
open Go.RowKit Go.Sort Assoc

set_option maxRecDepth 100000 in
set_option maxHeartbeats 1000000 in
theorem less_grown (a b x y : Int) (w : World) : Calls Tryd.prog 23 #[.agg #[.int .u64 a, .int .u64 x], .agg #[.int .u64 b, .int .u64 y]] w fun e w' => e = .returned (.int .i64 (cmpI a b)) ∧ Grown w w' := by
  go_enter Tryd.func23, Tryd.ntmps23
  go_wp2_with fail
  refine (compare64_ok a b _).mono ?_; rintro e w' ⟨rfl, rfl⟩
  go_wp2_with fail
  go_ret
  exact ⟨rfl, ((Grown.refl w).alloc _).alloc _⟩
def cfK (a b : Int) : Int := cmpI a b
theorem ltOf_K (a b : Int) : ltOf cfK a b = decide (a < b) := by
  unfold ltOf cfK cmpI
  by_cases h : a < b
  · simp [h]
  · rw [if_neg h]
    split <;> simp [h]
theorem swoK : SWO (ltOf cfK) where
  irrefl x := by rw [ltOf_K]; simp
  trans x y z h1 h2 := by rw [ltOf_K] at *; simp at *; omega
  ntrans x y z h1 h2 := by rw [ltOf_K] at *; simp at *; omega
/-- A key and what a function has for it. -/
def encF (f : Int → Int) : Enc Int := ⟨fun k => [.int .u64 k, .int .u64 (f k)], 2, fun _ => rfl, by intro a u hu; simp at hu; rcases hu with rfl | rfl <;> rfl, by omega⟩
theorem flat_F (f : Int → Int) (ks : List Int) : flat (encF f) ks = flat encW (ks.map fun k => (k, f k)) := by
  unfold flat
  rw [List.flatMap_map]
  rfl
theorem get_nodup {L : AL} (h : (L.map (·.1)).Nodup) {p : Int × Int} (hp : p ∈ L) : get L p.1 = some p.2 := by
  induction L with
  | nil => cases hp
  | cons a L ih =>
    rw [List.map_cons, List.nodup_cons] at h
    rw [get_cons]
    rcases List.mem_cons.1 hp with rfl | hp
    · rw [if_pos rfl]
    · rw [if_neg (fun e => h.1 (List.mem_map.2 ⟨p, hp, e.symm⟩))]
      exact ih h.2 hp
theorem keys_form {L : AL} (h : (L.map (·.1)).Nodup) : (L.map (·.1)).map (fun k => (k, (get L k).getD 0)) = L := by
  rw [List.map_map]
  conv => rhs; rw [← List.map_id L]
  refine List.map_congr_left fun p hp => ?_
  simp only [Function.comp, id]
  rw [get_nodup h hp]
  rfl
def sortW (L : AL) : AL := ((L.map (·.1)).mergeSort (fun x y => !(ltOf cfK) y x)).map (fun k => (k, (get L k).getD 0))
theorem sortW_perm {L : AL} (h : (L.map (·.1)).Nodup) : (sortW L).Perm L := by
  have h1 := (List.mergeSort_perm (L.map (·.1)) (fun x y => !(ltOf cfK) y x)).map (fun k => (k, (get L k).getD 0))
  rwa [keys_form h] at h1
theorem sortW_srt {L : AL} (h : (L.map (·.1)).Nodup) : Srt (sortW L) := by
  have h1 : ((L.map (·.1)).mergeSort (fun x y => !(ltOf cfK) y x)).Pairwise (fun a b => (!(ltOf cfK) b a) = true) := List.pairwise_mergeSort (fun a b c h1 h2 => by
    simp only [ltOf_K, Bool.not_eq_true', decide_eq_false_iff_not] at *
    omega) (fun a b => by
    simp only [ltOf_K]
    by_cases h : b < a
    · simp [h]; omega
    · simp [h]) _
  have h2 : ((L.map (·.1)).mergeSort (fun x y => !(ltOf cfK) y x)).Nodup := (List.mergeSort_perm _ _).nodup_iff.2 h
  have h3 := h1.and h2
  unfold sortW Srt
  rw [List.pairwise_map]
  refine h3.imp ?_
  rintro a b ⟨h4, h5⟩
  simp only [ltOf_K, Bool.not_eq_true', decide_eq_false_iff_not] at h4
  show a < b
  omega

theorem sortFuncW (B g n c : Nat) (L : AL) (w : World) (h : Ow encW 55 w B (.slice (some ⟨g, 0, none⟩) n c) L) (hn : L.length = n) (hl : n ≤ 1000) (hd : (L.map (·.1)).Nodup) :
    Calls Tryd.prog 22 #[.slice (some ⟨g, 0, none⟩) n c, .func (.func 23) #[] #[]] w fun e w' => e = .returned (.tuple #[]) ∧ Ow encW 55 w' B (.slice (some ⟨g, 0, none⟩) n c) (sortW L) ∧ Upd [g] w w' := by
  subst hn
  obtain ⟨f, hf⟩ : ∃ f : Int → Int, f = fun k => (get L k).getD 0 := ⟨_, rfl⟩
  obtain ⟨K, hK⟩ : ∃ K, K = L.map (·.1) := ⟨_, rfl⟩
  have hKL : K.length = L.length := by rw [hK]; simp
  have hform : K.map (fun k => (k, f k)) = L := by rw [hK, hf]; exact keys_form hd
  have ho : Ow (encF f) 55 w B (.slice (some ⟨g, 0, none⟩) K.length c) K := by
    unfold Ow
    rw [flat_F, hform, hKL]
    exact h
  have hg : g < w.heap.size := by
    obtain ⟨cur, _, hb, _⟩ := own_open h
    exact hb.lt
  have hc := AnyQ.slices_SortFunc_total sortW_lay 2 (fun w => by kernel_rfl) (fun w => by kernel_rfl) (encF f).c (encF f).len (encF f).one cfK swoK 23 #[] g 0 c K.toArray w (enters_of Tryd.func23 (by kernel_rfl) rfl)
    (fun m os dk _ x y => (less_grown x y (f x) (f y) _).mono fun e w' ⟨he, hw⟩ => ⟨he, hw⟩) (holdsK_own ho) hg (by simp; omega) (fun x y h1 h2 => by
      rw [ltOf_K] at h1 h2
      simp at h1 h2
      omega)
  have hc2 : Calls Tryd.prog 22 #[.slice (some ⟨g, 0, none⟩) K.length c, .func (.func 23) #[] #[]] w _ := hc
  rw [hKL] at hc2
  refine hc2.mono ?_
  rintro e w' ⟨rfl, m, os, rfl⟩
  have hd1 : (K.toArray.toList.mergeSort fun x y => !(ltOf cfK) y x).map (fun k => (k, f k)) = sortW L := by
    unfold sortW
    rw [hK, hf]
  have hk := own_sorted (m := m) (os := os) (d := (K.toArray.toList.mergeSort fun x y => !(ltOf cfK) y x).toArray) ho (by simp [(List.mergeSort_perm _ _).length_eq])
  refine ⟨rfl, ?_, hk.2⟩
  have h1 := hk.1
  unfold Ow at h1 ⊢
  rw [flat_F] at h1
  rw [show (K.toArray.toList.mergeSort fun x y => !(ltOf cfK) y x).toArray.toList = K.toArray.toList.mergeSort fun x y => !(ltOf cfK) y x by simp, hd1, (List.mergeSort_perm _ _).length_eq] at h1
  rw [show (sortW L).length = L.length from (sortW_perm hd).length_eq]
  rw [show K.toArray.toList.length = L.length by simpa using hKL] at h1
  try rw [hKL] at h1
  exact h1
theorem sortFuncW_none (p : Option Addr) (c : Nat) (w : World) :
    Calls Tryd.prog 22 #[.slice p 0 c, .func (.func 23) #[] #[]] w fun e w' => e = .returned (.tuple #[]) ∧ w = w' :=
  (show Calls Tryd.prog 22 #[.slice p 0 c, .func (.func 23) #[] #[]] w _ from AnyF.slices_SortFunc_none sortW_lay p c _ w).mono fun _ _ ⟨h1, h2⟩ => ⟨h1, h2.symm⟩
end Go.Proofs.YtbpmkbcpnnpdjaaDoor

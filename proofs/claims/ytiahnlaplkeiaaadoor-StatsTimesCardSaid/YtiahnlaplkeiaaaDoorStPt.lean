/-
  stats.Overlap$1, and slices.SortFunc of points in time.
-/
import Derived.Test.YtiahnlaplkeiaaaDoorStBz
import Derived.Test.YtiahnlaplkeiaaaDoorCmp
import Derived.Test.YtiahnlaplkeiaaaDoorGrown
import Derived.Test.YtiahnlaplkeiaaaDoorSortG
import Derived.Shelf.SlSortCmp.NoneTotal
import Derived.Test.YtiahnlaplkeiaaaDoorLayP
set_option linter.unusedVariables false
namespace Go.Proofs.YtiahnlaplkeiaaaDoor
open Go.RowKit Go.Sort St Go.Shelf
attribute [local go_sem] litStep_value

abbrev encP : Enc Pt := encII .i64 .i64
def cfP (a b : Pt) : Int := orL [cmpI a.1 b.1, cmpI a.2 b.2]
theorem ltOf_P (a b : Pt) : ltOf cfP a b = ltP a b := by
  unfold ltOf cfP ltP orL orL orL cmpI
  rw [decide_eq_decide]
  repeat' split
  all_goals omega
theorem swoP : SWO (ltOf cfP) where
  irrefl x := by rw [ltOf_P]; unfold ltP; simp
  trans x y z h1 h2 := by rw [ltOf_P] at *; unfold ltP at *; simp at *; omega
  ntrans x y z h1 h2 := by rw [ltOf_P] at *; unfold ltP at *; simp at *; omega
theorem blk_newAt {w : World} {t : TypeId} {cs : Array Value} {g : Nat} (h : w.heap.size = g) : Blk (w.alloc (.cells cs t)) g t cs := h ▸ Blk.new w t cs
set_option maxRecDepth 100000 in
set_option maxHeartbeats 2000000 in
theorem lessP_grown (a b : Pt) (w : World) : Calls Tryd.prog 27 #[.agg #[.int .i64 a.1, .int .i64 a.2], .agg #[.int .i64 b.1, .int .i64 b.2]] w fun e w' => e = .returned (.int .i64 (cfP a b)) ∧ Grown w w' := by
  go_enter Tryd.func27, Tryd.ntmps27
  go_wp2_with fail
  have B0 : Hid (Blk ((w.alloc (.cells #[.int .i64 a.1, .int .i64 a.2] 56)).alloc (.cells #[.int .i64 b.1, .int .i64 b.2] 56)) w.heap.size 56 #[.int .i64 a.1, .int .i64 a.2]) := Lib.hid ((Blk.new w _ _).alloc _)
  have B1 : Hid (Blk ((w.alloc (.cells #[.int .i64 a.1, .int .i64 a.2] 56)).alloc (.cells #[.int .i64 b.1, .int .i64 b.2] 56)) (w.heap.size + 1) 56 #[.int .i64 b.1, .int .i64 b.2]) := Lib.hid (blk_newAt (by simp))
  have U0 : Hid (Grown w ((w.alloc (.cells #[.int .i64 a.1, .int .i64 a.2] 56)).alloc (.cells #[.int .i64 b.1, .int .i64 b.2] 56))) := Lib.hid (((Grown.refl w).alloc _).alloc _)
  generalize ((w.alloc (.cells #[.int .i64 a.1, .int .i64 a.2] 56)).alloc (.cells #[.int .i64 b.1, .int .i64 b.2] 56)) = w1 at *
  have KP : Hid (∀ W, Upd [] w1 W → W.cell? ⟨w.heap.size, 0, none⟩ = some (.int .i64 a.1) ∧ W.cell? ⟨w.heap.size, 1, none⟩ = some (.int .i64 a.2) ∧ W.cell? ⟨w.heap.size + 1, 0, none⟩ = some (.int .i64 b.1) ∧ W.cell? ⟨w.heap.size + 1, 1, none⟩ = some (.int .i64 b.2)) := Lib.hid (fun W hW => ⟨(B0.out.upd hW (by simp)).cell 0, (B0.out.upd hW (by simp)).cell 1, (B1.out.upd hW (by simp)).cell 0, (B1.out.upd hW (by simp)).cell 1⟩)
  have v0 : Upd [] w1 w1.drew := (Upd.refl [] _).drew
  go_region_held3 (fun W => W.cell? ⟨w.heap.size, 0, none⟩ = some (.int .i64 a.1) ∧ W.cell? ⟨w.heap.size, 1, none⟩ = some (.int .i64 a.2) ∧ W.cell? ⟨w.heap.size + 1, 0, none⟩ = some (.int .i64 b.1) ∧ W.cell? ⟨w.heap.size + 1, 1, none⟩ = some (.int .i64 b.2)) (first | exact KP.out _ (v0.alloc _) | exact KP.out _ v0)
    (first | (go_at_call 29; refine (compare_ok _ _ _).mono ?_; rintro e w' ⟨rfl, rfl⟩) | (go_at_call 28; refine (or_ok w1.heap.size 2 [cmpI a.1 b.1, cmpI a.2 b.2] _ ((Blk.new w1 _ _).drew) (by simp)).mono ?_; rintro e w' ⟨rfl, rfl⟩))
  go_wp2_with fail
  go_ret
  exact ⟨rfl, (U0.out.alloc _).drew⟩

theorem sortFuncP (B g n c : Nat) (L : List Pt) (w : World) (h : Ow encP 56 w B (.slice (some ⟨g, 0, none⟩) n c) L) (hn : L.length = n) (hl : n ≤ 1000) :
    Calls Tryd.prog 26 #[.slice (some ⟨g, 0, none⟩) n c, .func (.func 27) #[] #[]] w fun e w' => e = .returned (.tuple #[]) ∧ Ow encP 56 w' B (.slice (some ⟨g, 0, none⟩) n c) (sortP L) ∧ Upd [g] w w' := by
  subst hn
  have ho : Ow encP 56 w B (.slice (some ⟨g, 0, none⟩) L.length c) L := h
  have hg : g < w.heap.size := by
    obtain ⟨cur, _, hb, _⟩ := own_open h
    exact hb.lt
  have hc := AnyQ.slices_SortFunc_total sortP_lay 2 (fun w => by kernel_rfl) (fun w => by kernel_rfl) encP.c encP.len encP.one cfP swoP 27 #[] g 0 c L.toArray w (enters_of Tryd.func27 (by kernel_rfl) rfl)
    (fun m os dk _ x y => (lessP_grown x y _).mono fun e w' ⟨he, hw⟩ => ⟨he, hw⟩) (holdsK_own ho) hg (by simp; omega) (fun x y h1 h2 => by
      rw [ltOf_P] at h1 h2
      unfold ltP at h1 h2
      simp at h1 h2
      ext <;> omega)
  refine (show Calls Tryd.prog 26 #[.slice (some ⟨g, 0, none⟩) L.length c, .func (.func 27) #[] #[]] w _ from hc).mono ?_
  rintro e w' ⟨rfl, m, os, rfl⟩
  have hd : (L.toArray.toList.mergeSort fun x y => !(ltOf cfP) y x) = sortP L := by
    unfold sortP
    simp only [ltOf_P]
  have hk := own_sorted (m := m) (os := os) (d := (sortP L).toArray) ho (by simpa using (sortP_perm L).length_eq)
  have hd2 : (L.toArray.toList.mergeSort fun x y => !(ltOf cfP) y x).toArray = (sortP L).toArray := by rw [hd]
  rw [hd2]
  refine ⟨rfl, ?_, hk.2⟩
  have h1 := hk.1
  unfold Ow at h1 ⊢
  rw [show (sortP L).toArray.toList = sortP L by simp, (sortP_perm L).length_eq] at h1
  rw [(sortP_perm L).length_eq]
  exact h1
theorem sortFuncP_none (p : Option Addr) (c : Nat) (w : World) :
    Calls Tryd.prog 26 #[.slice p 0 c, .func (.func 27) #[] #[]] w fun e w' => e = .returned (.tuple #[]) ∧ w = w' :=
  (show Calls Tryd.prog 26 #[.slice p 0 c, .func (.func 27) #[] #[]] w _ from AnyF.slices_SortFunc_none sortP_lay p c _ w).mono fun _ _ ⟨h1, h2⟩ => ⟨h1, h2.symm⟩
end Go.Proofs.YtiahnlaplkeiaaaDoor

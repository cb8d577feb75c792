/-
  prog.Colls: sorted, each once.
-/
import Derived.Test.YtblfklnnojhadaaDoorCollW
import Derived.Test.YtblfklnnojhadaaDoorSortI
set_option linter.unusedVariables false
namespace Go.Proofs.YtblfklnnojhadaaDoor
open Go.RowKit Colls

def collsL (L : List (Stm × Nat)) : List Int := L.filterMap fun p => collOf p.1
theorem collsL_cons (p : Stm × Nat) (L : List (Stm × Nat)) : collsL (p :: L) = (match collOf p.1 with | some c => [c] | none => []) ++ collsL L := by
  unfold collsL
  rw [List.filterMap_cons]
  cases collOf p.1 <;> rfl
theorem collsW : ∀ (L : List (Stm × Nat)) (s : List Int) (i : Nat), (walkF (σ := List Int) (fun s n _ x => (true, stepC s x)) L s i).2.1 = s ++ collsL L
  | [], s, i => by simp [walkF, collsL]
  | (x, d) :: L, s, i => by
    unfold walkF
    simp only
    rw [collsW L _ (i + 1), collsL_cons]
    unfold stepC
    cases collOf x <;> simp
theorem collsL_len (L : List (Stm × Nat)) : (collsL L).length ≤ L.length := List.length_filterMap_le _ _
/-- The collections that are named. -/
def collsR (l : List Stm) : List Int := allI (collsL (linesOf 1 l))
theorem collsR_len (l : List Stm) : (collsR l).length ≤ sizes l := by
  have h1 := collsL_len (linesOf 1 l)
  have h2 := lines_sizes _ l 1 (Nat.le_refl _)
  unfold collsR
  rw [← comp_sort]
  have h3 := comp_len ((collsL (linesOf 1 l)).mergeSort fun x y => decide (x ≤ y))
  rw [List.length_mergeSort] at h3
  omega
set_option maxRecDepth 100000 in
set_option maxHeartbeats 1000000 in
theorem colls_ok (l : List Stm) (v : Value) (w : World) (hv : Stms w w.heap.size v l) (hl : sizes l ≤ 900000) :
    Calls Tryd.prog 22 #[v] w fun e w' => ∃ v', e = .returned v' ∧ w'.ownsRow w.heap.size 3 1 v' (collsR l).length ((collsR l).map (Value.int .i64)) ∧ Upd [] w w' := by
  have HV := Lib.hid hv
  have CW : Hid ((walkF (σ := List Int) (fun s n _ x => (true, stepC s x)) (linesOf 1 l) [] 0).2.1 = collsL (linesOf 1 l)) := Lib.hid (by rw [collsW, List.nil_append])
  have CL : Hid ((collsL (linesOf 1 l)).length ≤ 900000) := Lib.hid (by
    have h1 := collsL_len (linesOf 1 l)
    have h2 := lines_sizes _ l 1 (Nat.le_refl _)
    omega)
  have CR : Hid (Lib.compact ((collsL (linesOf 1 l)).mergeSort fun x y => decide (x ≤ y)) = collsR l) := Lib.hid (comp_sort _)
  clear hv
  go_enter Tryd.func22, Tryd.ntmps22
  go_wp2_with fail
  have U1 : Hid (Upd [] w (w.alloc (.cells #[.slice none 0 0] 23))) := Lib.hid ((Upd.refl [] w).alloc _)
  have b1 : Hid (Blk (w.alloc (.cells #[.slice none 0 0] 23)) w.heap.size 23 #[.slice none 0 0]) := Lib.hid (Blk.new w _ _)
  generalize (w.alloc (.cells #[.slice none 0 0] 23)) = w1 at *
  have VV := colls_visitor w.heap.size w.heap.size
  have S1 : CollSt w.heap.size w.heap.size w1 [] := ⟨_, b1.out, Nat.le_refl _, own_nil _ _ _ _⟩
  have OB : Hid (∀ x, collOwn w.heap.size w1 x → w.heap.size ≤ x) := Lib.hid (fun x hx => (VV.ownB w1 [] x S1 hx).1)
  refine (walkPG_ok VV l v w1 [] (HV.out.belowW (U1.out.below (Nat.le_refl _) (by simp))) (Nat.le_refl _) S1 U1.out.size hl).mono ?_; rintro e w2 ⟨rfl, st, up, _⟩
  rw [CW.out] at st
  obtain ⟨vl, bl, _, ol⟩ := st
  have U2 := Lib.hid (up.to_upd' U1.out OB.out)
  obtain ⟨A2, c2, rfl, _, _⟩ := own_slice ol
  have e0 : w2.cell? ⟨w.heap.size, 0, none⟩ = some (.slice A2 (collsL (linesOf 1 l)).length c2) := bl.cell 0
  have BL := Lib.hid bl
  have OL := Lib.hid ol
  clear up bl ol VV S1
  go_wp2_with fail
  refine (sortI_ok OL.out (Nat.le_trans CL.out (by omega))).mono ?_; rintro e w3 ⟨rfl, o3, u3⟩
  have NB := own_type OL.out BL.out (by decide)
  have BL3 := Lib.hid (BL.out.upd u3 (fun h => NB (by simpa using h)))
  have O3 := Lib.hid o3
  have U3 : Hid (Upd [] w w3) := Lib.hid (U2.out.trans' u3 (fun x hx => .inr (own_lt OL.out (b := x) (by simpa using hx)).1))
  have e3 : w3.cell? ⟨w.heap.size, 0, none⟩ = some (.slice A2 (collsL (linesOf 1 l)).length c2) := BL3.out.cell 0
  clear e0 o3 u3 NB
  go_wp2_with fail
  refine (compI_ok O3.out (Nat.le_trans CL.out (by omega))).mono ?_; rintro e w4 ⟨v', rfl, o4, u4⟩
  rw [CR.out] at o4
  have O4 := Lib.hid o4
  have U4 : Hid (Upd [] w w4) := Lib.hid (U3.out.trans' u4 (fun x hx => .inr (own_lt O3.out (b := x) (by simpa using hx)).1))
  obtain ⟨A4, c4, rfl, _, _⟩ := own_slice o4
  clear o4 u4
  go_wp2_with fail
  go_ret
  exact ⟨_, rfl, O4.out, U4.out⟩
end Go.Proofs.YtblfklnnojhadaaDoor

/-
  stats.Show$1 and stats.Show, at the example's count.
-/
import Derived.Test.YtiahnlaplkeiaaaDoorStOv
import Derived.Test.YtiahnlaplkeiaaaDoorLayI
set_option linter.unusedVariables false
namespace Go.Proofs.YtiahnlaplkeiaaaDoor
open Go.RowKit St
attribute [local go_sem] litStep_value

theorem elem_str : Elem Tryd.prog 62 9 1 16 := .mk' (z := ((Tryd.prog.info? 9).bind (·.zero)).getD undef) Tryd.underlying62 (by kernel_rfl) (by kernel_rfl) (by decide)
structure StrSt (B lb : Nat) (w : World) (v : Value) (xs : List ByteArray) : Prop where
  box : Blk w lb 62 #[v]
  own : w.ownsRow B 9 1 v xs.length (xs.map Value.string)
  base : B ≤ w.heap.size
theorem StrSt.upd0 {B lb : Nat} {w w' : World} {v : Value} {xs : List ByteArray} (h : StrSt B lb w v xs) (hu : Upd [] w w') : StrSt B lb w' v xs := ⟨h.box.upd hu (by simp), own_upd0 h.own hu, Nat.le_trans h.base hu.size⟩
def partS (word : ByteArray) (i : Nat) : ByteArray := word ++ ⟨#[32]⟩ ++ ⟨(Lib.decDigits i).toArray⟩
set_option maxRecDepth 100000 in
set_option maxHeartbeats 2000000 in
theorem part_none (lb : Nat) (word : ByteArray) (w : World) : Calls Tryd.prog 34 #[.string word, .int .i64 0, .pointer (some ⟨lb, 0, none⟩)] w fun e w' => e = .returned (.tuple #[]) ∧ w = w' := by
  go_enter Tryd.func34, Tryd.ntmps34
  go_wp2_with fail
  go_end0
  exact ⟨rfl, rfl⟩
set_option maxRecDepth 100000 in
set_option maxHeartbeats 2000000 in
theorem part_some (B lb : Nat) (word : ByteArray) (i : Nat) (v : Value) (xs : List ByteArray) (w : World) (h : StrSt B lb w v xs) (h0 : 0 < i) (hi : i < 10) (hx : xs.length ≤ 100) (hlb : lb < B) (hwd : word.size ≤ 100) :
    Calls Tryd.prog 34 #[.string word, .int .i64 i, .pointer (some ⟨lb, 0, none⟩)] w fun e w' => e = .returned (.tuple #[]) ∧ ∃ v', StrSt B lb w' v' (xs ++ [partS word i]) ∧ Upd (lb :: v.ownBlock.toList) w w' := by
  have H := Lib.hid h
  have d0 : ((i : Int) != 0) = true := by
    have : ¬ (i : Int) = 0 := by omega
    simpa using this
  have n1 : (9223372036854775807 < word.size + 1) = False := by simp; omega
  have n2 : (9223372036854775807 < word.size + 1 + (Lib.decDigits i).length) = False := by
    have : (Lib.decDigits i).length = 1 := by unfold Lib.decDigits; rw [dif_pos hi]; rfl
    rw [this]; simp; omega
  have CS : Hid (∀ W, Upd [] w.drew W → W.cell? ⟨lb, 0, none⟩ = some v) := Lib.hid (fun W hW => (h.box.upd ((Upd.refl [] w).drew.trans hW) (by simp)).cell 0)
  clear h
  go_enter Tryd.func34, Tryd.ntmps34
  go_wp2_with fail
  refine wp_invNT 7 [(4, .det (.string ⟨(Lib.decDigits i).toArray⟩)), (6, .lit 9 #[.string (word ++ ⟨#[32]⟩ ++ ⟨(Lib.decDigits i).toArray⟩)] 1)] [] (by kernel_rfl) (by simp) (by kernel_rfl) (by kernel_rfl) ⟨lasts_det _, lasts_lit _ _ _, trivial⟩ ?_
  simp only [List.take_succ_cons, List.take_zero, List.drop_succ_cons, List.drop_zero]
  with_reducible apply wpV_light
  · simp only [lightOp]
  · intro W hU hF
    have f0 := CS.out W hU
    clear hU hF
    go_simp
    exact rfl
  simp only [Act.put, List.setIfInBounds_toArray, List.set_cons_zero, List.set_cons_succ]
  with_reducible apply wpV_light
  · simp only [lightOp]
  · intro W hU hF
    have f0 := CS.out W hU
    clear hU hF
    go_simp
    exact rfl
  simp only [Act.put, List.setIfInBounds_toArray, List.set_cons_zero, List.set_cons_succ]
  with_reducible apply wpV_light
  · simp only [lightOp]
  · intro W hU hF
    have f0 := CS.out W hU
    clear hU hF
    go_simp
    exact rfl
  simp only [Act.put, List.setIfInBounds_toArray, List.set_cons_zero, List.set_cons_succ]
  with_reducible apply wpV_light
  · simp only [lightOp]
  · intro W hU hF
    have f0 := CS.out W hU
    clear hU hF
    go_simp
    exact rfl
  simp only [Act.put, List.setIfInBounds_toArray, List.set_cons_zero, List.set_cons_succ]
  refine wpV_heavy (by simp only [lightOp]) (by rfl) (fun W hU hk hF K hK => ?_) ?_
  · go_wp2_with fail
    refine (itoa_ok i (by omega) _).mono ?_
    rintro e w2 ⟨rfl, rfl⟩
    go_wp2_with fail
    exact hK.out _ _ (outV_new rfl rfl (by intro b hb; cases hb) (.refl _ _))
  rintro _ rfl
  simp only [Act.put, List.setIfInBounds_toArray, List.set_cons_zero, List.set_cons_succ]
  with_reducible apply wpV_light
  · simp only [lightOp]
  · intro W hU hF
    have f0 := CS.out W hU
    clear hU hF
    go_simp
    exact rfl
  simp only [Act.put, List.setIfInBounds_toArray, List.set_cons_zero, List.set_cons_succ]
  refine wpV_heavy (by simp only [lightOp]) (by rfl) (fun W hU hk hF K hK => ?_) ?_
  · go_wp2_with fail
    exact wpV_lit hK rfl rfl rfl
  rintro _ ⟨g', rfl⟩
  simp only [Act.put, List.setIfInBounds_toArray, List.set_cons_zero, List.set_cons_succ]
  refine wpV_end (fun W hU _ hF => ?_)
  have U6 : Hid (Upd [] w W) := Lib.hid ((Upd.refl [] w).drew.trans hU)
  have LT : Hid (Blk W g' 9 #[.string (partS word i)]) := Lib.hid (by
    obtain ⟨g2, he, hb⟩ := hF.out.2.1 (by kernel_rfl)
    injection he with he _ _
    injection he with he
    injection he with he
    subst he
    exact hb)
  clear hU hF
  have H6 := Lib.hid (H.out.upd0 U6.out)
  refine wpT_op (by rfl) (fun K hK => ?_)
  refine wp_app W (.tmp 7) (.tmp 13) _ (by rfl) elem_str v _ (by rfl) (by rfl) H6.out.own (.of_blk LT.out (m := 1) 1 rfl) (by intro u hu; simp at hu; subst hu; rfl) (by simp only [maxLen]; omega) (by omega) H6.out.base ?_
  intro v7 w7 o7 u7 b7
  obtain ⟨A7, c7, rfl, _, _⟩ := own_slice o7
  have B7 : Hid (Blk w7 lb 62 #[v]) := Lib.hid (H6.out.box.upd u7 (fun hm => own_type H6.out.own H6.out.box (by decide) (by simpa using hm)))
  have O7 : Hid (w7.ownsRow B 9 1 (.slice A7 (xs.length + 1) c7) (xs ++ [partS word i]).length ((xs ++ [partS word i]).map Value.string)) := Lib.hid (by rw [List.length_append, List.map_append]; exact o7)
  have U7 : Hid (Upd v.ownBlock.toList w w7) := Lib.hid ((U6.out.mono (by simp)).trans u7)
  refine hK.out _ _ ?_
  clear hK K o7 u7 b7
  simp only [Act.put, List.setIfInBounds_toArray, List.set_cons_zero, List.set_cons_succ]
  have f1 : w7.frozen? ⟨lb, 0, none⟩ = false := B7.out.frozen 0
  have f0 : w7.cell? ⟨lb, 0, none⟩ = some v := B7.out.cell 0
  have f2 : lb < w7.heap.size := B7.out.lt
  refine wpT_op (by rfl) (fun K hK => ?_)
  go_wp2_with fail
  refine hK.out _ _ ?_
  clear hK K
  try simp only [Act.put, List.setIfInBounds_toArray, List.set_cons_zero, List.set_cons_succ]
  refine wpT_end ?_
  go_wp2_with fail
  go_end0
  refine ⟨rfl, _, ⟨B7.out.set_eq (i := 0) rfl, own_upd O7.out ((Upd.refl [lb] w7).setCell (.inl (by simp)) _) (by intro b hb; simp; rintro rfl; exact own_type O7.out B7.out (by decide) hb), ?_⟩, ?_⟩
  · exact Nat.le_trans (Nat.le_trans H.out.base U7.out.size) (by simp [World.setCell])
  · exact Upd.setCell (p := ⟨lb, 0, none⟩) (U7.out.mono (fun x hx => .inl (List.mem_cons_of_mem _ hx))) (.inl (List.mem_cons_self ..)) _
theorem StrSt.keep {B lb g : Nat} {w w' : World} {v : Value} {xs : List ByteArray} {t : TypeId} {cs : Array Value} (h : StrSt B lb w v xs) (hb : Blk w g t cs) (hu : Upd (lb :: v.ownBlock.toList) w w') (h1 : g < B) (h2 : g ≠ lb) : Blk w' g t cs := hb.upd hu (by
  intro hm
  rcases List.mem_cons.1 hm with hm | hm
  · exact h2 hm
  · have := (own_lt h.own (by simpa using hm)).1; omega)
theorem StrSt.rest {B lb : Nat} {w0 w w' : World} {v : Value} {xs : List ByteArray} (h : StrSt B lb w v xs) (h0 : Upd [] w0 w) (hu : Upd (lb :: v.ownBlock.toList) w w') (h1 : w0.heap.size ≤ lb) (h2 : w0.heap.size ≤ B) : Upd [] w0 w' := h0.trans' hu (by
  intro x hm
  rcases List.mem_cons.1 hm with hm | hm
  · right; omega
  · right; have := (own_lt h.own (by simpa using hm)).1; omega)
end Go.Proofs.YtiahnlaplkeiaaaDoor

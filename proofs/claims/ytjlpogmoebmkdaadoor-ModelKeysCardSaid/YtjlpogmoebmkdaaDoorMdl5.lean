/-
  slices.Clone of ints, maps.Clone; model.State: Kinds; one more map.
-/
import Derived.Test.YtjlpogmoebmkdaaDoorMdl2
import Derived.Test.YtjlpogmoebmkdaaDoorLayM
set_option linter.unusedVariables false
namespace Go.Proofs.YtjlpogmoebmkdaaDoor
open Go.RowKit Assoc MP
attribute [local go_sem] litStep_value

theorem elem_int : Elem Tryd.prog 22 3 1 8 := .mk' (z := ((Tryd.prog.info? 3).bind (·.zero)).getD undef) Tryd.underlying22 (by kernel_rfl) (by kernel_rfl) (by omega)
theorem elem_map : Elem Tryd.prog 73 59 1 8 := .mk' (z := ((Tryd.prog.info? 59).bind (·.zero)).getD undef) Tryd.underlying73 (by kernel_rfl) (by kernel_rfl) (by omega)
def CloneKPost (xs : List Int) (w : World) (e : Ending) (w' : World) : Prop := ∃ v, e = .returned v ∧ Ow encK 3 w' w.heap.size v xs ∧ Upd [] w w'
set_option maxRecDepth 100000 in
set_option maxHeartbeats 1000000 in
theorem clone_ints (A : Option Addr) (n c : Nat) (xs : List Int) (w : World) (h : Rd encK w (.slice A n c) xs) (hn : xs.length = n) (hl : n ≤ 1000) :
    Calls Tryd.prog 31 #[.slice A n c] w fun e w' => CloneKPost xs w e w' := by
  have eq0 := @Lib.run_eql_slice_nil Tryd.prog
  have HN := Lib.hid hn
  have HSR : Hid (Src w 1 (.slice A n c) n (flat encK xs)) := Lib.hid (by have := h; unfold Rd at this; rw [hn] at this; exact this)
  cases A with
  | none =>
    have HL : Hid (xs = []) := Lib.hid (by
      cases xs with
      | nil => rfl
      | cons x xs =>
        obtain ⟨ad, e, _⟩ := h.at_ (k := 0) (a := x) rfl
        cases e)
    clear h hn
    go_enter Tryd.func31, Tryd.ntmps31
    go_wp2_with fail
    go_ret
    unfold CloneKPost
    rw [HL.out]
    exact ⟨_, rfl, Ow.nil _ _ _ _, .refl _ _⟩
  | some a =>
    clear h hn
    go_enter Tryd.func31, Tryd.ntmps31
    go_wp2_with (at_builtin; refine stopped ?_)
    refine Lib.hid ?_
    refine wpList_app _ (by rfl) (.tmp 5) (.tmp 6) _ (by rfl) elem_int _ _ (by rfl) (by rfl) (own_made (B := w.heap.size) 1 (Blk.new w 3 #[]) (Nat.le_refl _)) (HSR.out.upd0 ((Upd.refl [] w).alloc _)) flat_cells (by unfold maxLen; omega) (by omega) (by simp) ?_
    intro v2 w2 o2 u2 b2
    have U2 : Hid (Upd [] w w2) := Lib.hid (((Upd.refl [] w).alloc _).trans' u2 (by intro x hx; simp [Value.ownBlock] at hx; subst hx; exact .inr (Nat.le_refl _)))
    have O2 : Hid (Ow encK 3 w2 w.heap.size v2 xs) := Lib.hid (by unfold Ow; rw [HN.out]; rw [Nat.zero_add, List.nil_append] at o2; exact o2)
    clear o2 u2 b2
    go_wp2_with fail
    go_ret
    exact ⟨_, rfl, O2.out, U2.out⟩
theorem clone_map (m : Nat) (f : Int → Option Value) (n : Nat) (w : World) (h : IMap w .i64 m f n) :
    Calls Tryd.prog 33 #[.map (some m)] w fun e w' => e = .returned (.map (some w.heap.size)) ∧ IMap w' .i64 w.heap.size f n ∧ Upd [] w w' ∧ w'.heap.size = w.heap.size + 1 := by
  obtain ⟨L, c, hr, hf, hn⟩ := h
  refine (show Calls Tryd.prog 33 #[.map (some m)] w _ from AnyW.maps_Clone cloneM_lay m _ c w hr.blk).mono ?_
  rintro e w' ⟨rfl, rfl⟩
  exact ⟨rfl, ⟨L, c, ⟨(Go.MapKept.heap_alloc w _).1, hr.keys, hr.stamps, hr.lt⟩, hf, hn⟩, (Upd.refl [] w).alloc _, by simp⟩
theorem m_kinds (B sb : Nat) (F : List Nat) (s : MS) (w : World) (h : Mdl B sb F w s) :
    Calls Tryd.prog 40 #[.pointer (some ⟨sb, 0, none⟩)] w fun e w' => CloneKPost s.K w e w' := by
  have H := Lib.hid h
  obtain ⟨g, vk, gc, cc, ms, hF, h⟩ := h
  have HS := Lib.hid h
  have K8 := Lib.hid g.k8
  obtain ⟨Ak, ck, rfl, hnk, _⟩ := own_slice HS.out.k
  have c0 : w.cell? ⟨sb, 0, none⟩ = some (.slice Ak s.K.length ck) := HS.out.box.cell 0
  clear g hF h
  go_enter Tryd.func40, Tryd.ntmps40
  go_wp2_with fail
  refine (clone_ints Ak s.K.length ck s.K w HS.out.k.rd rfl (by have := K8.out; omega)).mono ?_
  rintro e w1 ⟨v, rfl, o1, u1⟩
  have O1 := Lib.hid o1
  have U1 := Lib.hid u1
  clear o1 u1
  go_wp2_with fail
  go_ret
  exact ⟨_, rfl, O1.out, U1.out⟩
/-- One more map. -/
theorem MdlSt.push {B sb gc cc gc' cc' m : Nat} {vk : Value} {ms : List Nat} {w w' : World} {s : MS} {l : AL} (h : MdlSt B sb vk gc cc ms w s) (hu : Upd [sb, gc] w w') (hb : Blk w' sb 75 #[vk, .slice (some ⟨gc', 0, none⟩) (s.L.length + 1) cc'])
    (hc : w'.ownsRow B 59 1 (.slice (some ⟨gc', 0, none⟩) (s.L.length + 1) cc') (s.L.length + 1) (mapsV ms ++ [.map (some m)])) (hm : IMap w' .i64 m (mapI l) l.length) (hw : w.heap.size ≤ m) (hB : B ≤ m) : MdlSt B sb vk gc' cc' (ms ++ [m]) w' { s with L := s.L ++ [l] } := by
  have e : ({ s with L := s.L ++ [l] } : MS).L.length = s.L.length + 1 := by simp
  have hlt : ∀ k ∈ ms, k < w.heap.size := fun k hk => (h.lt k (by unfold fpM; simp [hk])).2
  refine ⟨by rw [e]; exact hb, h.k.upd hu fun b hb => ?_, by rw [e]; unfold mapsV at hc ⊢; rw [List.map_append]; exact hc, fun i m' l' hi hl => ?_, ?_, h.bs, fun k hk => ?_⟩
  · simp
    exact ⟨fun e => own_type h.k h.box (by decide) (e ▸ hb), fun e => by
      subst e
      rcases h.k.2 with ⟨e1, _⟩ | ⟨g, cap, cur, e1, _, hg, _⟩
      · rw [e1] at hb; simp [Value.ownBlock] at hb
      · rw [e1] at hb
        simp only [Value.ownBlock, Option.some.injEq] at hb
        subst hb
        exact own_type h.c hg (by decide) rfl⟩
  · have hl' : (s.L ++ [l])[i]? = some l' := hl
    rw [List.getElem?_append] at hi hl'
    rw [h.mlen] at hi
    split at hi
    · rename_i hlt'
      rw [if_pos hlt'] at hl'
      refine (h.each i m' l' hi hl').upd hu ?_
      have hmm := h.each i m' l' hi hl'
      simp
      exact ⟨fun e => blk_map h.box hmm e.symm, fun e => own_map h.c hmm (by rw [e]; rfl)⟩
    · rename_i hlt'
      rw [if_neg hlt'] at hl'
      cases hz : i - s.L.length with
      | zero =>
        rw [hz] at hi hl'
        simp at hi hl'
        subst hi hl'
        exact hm
      | succ z =>
        rw [hz] at hi
        simp at hi
  · rw [List.nodup_append]
    refine ⟨h.nd, by simp, fun a ha b hb => ?_⟩
    simp at hb
    subst hb
    have := hlt a ha
    omega
  · rcases List.mem_append.1 hk with hk | hk
    · exact h.bm k hk
    · simp at hk
      subst hk
      exact hB
end Go.Proofs.YtjlpogmoebmkdaaDoor

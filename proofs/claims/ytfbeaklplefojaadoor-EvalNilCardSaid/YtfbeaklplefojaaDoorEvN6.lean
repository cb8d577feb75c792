/-
  slices.Clone of ints, maps.Clone; model.State: Kinds; one more map.
  model.State: Copy.
  prog.partsOf: what a kind of statement has.
-/
import Derived.Test.YtfbeaklplefojaaDoorEvN4
import Derived.Test.YtfbeaklplefojaaDoorLayM
import Derived.Test.YtfbeaklplefojaaDoorEvN0
import Derived.Deep.DeepCutAuto
import Derived.Deep.CutBlock
set_option linter.unusedVariables false
namespace Go.Proofs.YtfbeaklplefojaaDoor
open Go.RowKit Assoc MP
attribute [local go_sem] litStep_value

theorem elem_int : Elem Tryd.prog 24 3 1 8 := .mk' (z := ((Tryd.prog.info? 3).bind (·.zero)).getD undef) Tryd.underlying24 (by kernel_rfl) (by kernel_rfl) (by omega)
theorem elem_map : Elem Tryd.prog 61 65 1 8 := .mk' (z := ((Tryd.prog.info? 65).bind (·.zero)).getD undef) Tryd.underlying61 (by kernel_rfl) (by kernel_rfl) (by omega)
def CloneKPost (xs : List Int) (w : World) (e : Ending) (w' : World) : Prop := ∃ v, e = .returned v ∧ Ow encK 3 w' w.heap.size v xs ∧ Upd [] w w'
set_option maxRecDepth 100000 in
set_option maxHeartbeats 1000000 in
theorem clone_ints (A : Option Addr) (n c : Nat) (xs : List Int) (w : World) (h : Rd encK w (.slice A n c) xs) (hn : xs.length = n) (hl : n ≤ 1000) :
    Calls Tryd.prog 18 #[.slice A n c] w fun e w' => CloneKPost xs w e w' := by
  have eq0 := @Lib.run_eql_slice_nil Tryd.prog
  have HN := Lib.hid hn
  have HSR : Hid (Src w 1 (.slice A n c) n (flat encK xs)) := Lib.hid (by have := h; unfold Rd at this; rw [hn] at this; exact this)
  cases A with
  | none =>
    have HL : Hid (xs = []) := Lib.hid (by
      cases xs with
      | nil => rfl
      | cons x xs =>
        obtain ⟨ad, e, _⟩ := h.at_ (k := 0) (a := x) rfl
        cases e)
    clear h hn
    go_enter Tryd.func18, Tryd.ntmps18
    go_wp2_with fail
    go_ret
    unfold CloneKPost
    rw [HL.out]
    exact ⟨_, rfl, Ow.nil _ _ _ _, .refl _ _⟩
  | some a =>
    clear h hn
    go_enter Tryd.func18, Tryd.ntmps18
    go_wp2_with (at_builtin; refine stopped ?_)
    refine Lib.hid ?_
    refine wpList_app _ (by rfl) (.tmp 5) (.tmp 6) _ (by rfl) elem_int _ _ (by rfl) (by rfl) (own_made (B := w.heap.size) 1 (Blk.new w 3 #[]) (Nat.le_refl _)) (HSR.out.upd0 ((Upd.refl [] w).alloc _)) flat_cells (by unfold maxLen; omega) (by omega) (by simp) ?_
    intro v2 w2 o2 u2 b2
    have U2 : Hid (Upd [] w w2) := Lib.hid (((Upd.refl [] w).alloc _).trans' u2 (by intro x hx; simp [Value.ownBlock] at hx; subst hx; exact .inr (Nat.le_refl _)))
    have O2 : Hid (Ow encK 3 w2 w.heap.size v2 xs) := Lib.hid (by unfold Ow; rw [HN.out]; rw [Nat.zero_add, List.nil_append] at o2; exact o2)
    clear o2 u2 b2
    go_wp2_with fail
    go_ret
    exact ⟨_, rfl, O2.out, U2.out⟩
theorem clone_map (m : Nat) (f : Int → Option Value) (n : Nat) (w : World) (h : IMap w .i64 m f n) :
    Calls Tryd.prog 19 #[.map (some m)] w fun e w' => e = .returned (.map (some w.heap.size)) ∧ IMap w' .i64 w.heap.size f n ∧ Upd [] w w' ∧ w'.heap.size = w.heap.size + 1 := by
  obtain ⟨L, c, hr, hf, hn⟩ := h
  refine (show Calls Tryd.prog 19 #[.map (some m)] w _ from AnyW.maps_Clone cloneM_lay m _ c w hr.blk).mono ?_
  rintro e w' ⟨rfl, rfl⟩
  exact ⟨rfl, ⟨L, c, ⟨(Go.MapKept.heap_alloc w _).1, hr.keys, hr.stamps, hr.lt⟩, hf, hn⟩, (Upd.refl [] w).alloc _, by simp⟩
theorem m_kinds (B sb : Nat) (F : List Nat) (s : MS) (w : World) (h : Mdl B sb F w s) :
    Calls Tryd.prog 11 #[.pointer (some ⟨sb, 0, none⟩)] w fun e w' => CloneKPost s.K w e w' := by
  have H := Lib.hid h
  obtain ⟨g, vk, gc, cc, ms, hF, h⟩ := h
  have HS := Lib.hid h
  have K8 := Lib.hid g.k8
  obtain ⟨Ak, ck, rfl, hnk, _⟩ := own_slice HS.out.k
  have c0 : w.cell? ⟨sb, 0, none⟩ = some (.slice Ak s.K.length ck) := HS.out.box.cell 0
  clear g hF h
  go_enter Tryd.func11, Tryd.ntmps11
  go_wp2_with fail
  refine (clone_ints Ak s.K.length ck s.K w HS.out.k.rd rfl (by have := K8.out; omega)).mono ?_
  rintro e w1 ⟨v, rfl, o1, u1⟩
  have O1 := Lib.hid o1
  have U1 := Lib.hid u1
  clear o1 u1
  go_wp2_with fail
  go_ret
  exact ⟨_, rfl, O1.out, U1.out⟩
/-- One more map. -/
theorem MdlSt.push {B sb gc cc gc' cc' m : Nat} {vk : Value} {ms : List Nat} {w w' : World} {s : MS} {l : AL} (h : MdlSt B sb vk gc cc ms w s) (hu : Upd [sb, gc] w w') (hb : Blk w' sb 63 #[vk, .slice (some ⟨gc', 0, none⟩) (s.L.length + 1) cc'])
    (hc : w'.ownsRow B 65 1 (.slice (some ⟨gc', 0, none⟩) (s.L.length + 1) cc') (s.L.length + 1) (mapsV ms ++ [.map (some m)])) (hm : IMap w' .i64 m (mapI l) l.length) (hw : w.heap.size ≤ m) (hB : B ≤ m) : MdlSt B sb vk gc' cc' (ms ++ [m]) w' { s with L := s.L ++ [l] } := by
  have e : ({ s with L := s.L ++ [l] } : MS).L.length = s.L.length + 1 := by simp
  have hlt : ∀ k ∈ ms, k < w.heap.size := fun k hk => (h.lt k (by unfold fpM; simp [hk])).2
  refine ⟨by rw [e]; exact hb, h.k.upd hu fun b hb => ?_, by rw [e]; unfold mapsV at hc ⊢; rw [List.map_append]; exact hc, fun i m' l' hi hl => ?_, ?_, h.bs, fun k hk => ?_⟩
  · simp
    exact ⟨fun e => own_type h.k h.box (by decide) (e ▸ hb), fun e => by
      subst e
      rcases h.k.2 with ⟨e1, _⟩ | ⟨g, cap, cur, e1, _, hg, _⟩
      · rw [e1] at hb; simp [Value.ownBlock] at hb
      · rw [e1] at hb
        simp only [Value.ownBlock, Option.some.injEq] at hb
        subst hb
        exact own_type h.c hg (by decide) rfl⟩
  · have hl' : (s.L ++ [l])[i]? = some l' := hl
    rw [List.getElem?_append] at hi hl'
    rw [h.mlen] at hi
    split at hi
    · rename_i hlt'
      rw [if_pos hlt'] at hl'
      refine (h.each i m' l' hi hl').upd hu ?_
      have hmm := h.each i m' l' hi hl'
      simp
      exact ⟨fun e => blk_map h.box hmm e.symm, fun e => own_map h.c hmm (by rw [e]; rfl)⟩
    · rename_i hlt'
      rw [if_neg hlt'] at hl'
      cases hz : i - s.L.length with
      | zero =>
        rw [hz] at hi hl'
        simp at hi hl'
        subst hi hl'
        exact hm
      | succ z =>
        rw [hz] at hi
        simp at hi
  · rw [List.nodup_append]
    refine ⟨h.nd, by simp, fun a ha b hb => ?_⟩
    simp at hb
    subst hb
    have := hlt a ha
    omega
  · rcases List.mem_append.1 hk with hk | hk
    · exact h.bm k hk
    · simp at hk
      subst hk
      exact hB
end Go.Proofs.YtfbeaklplefojaaDoor

namespace Go.Proofs.YtfbeaklplefojaaDoor
open Go.RowKit Assoc MP
attribute [local go_sem] litStep_value

theorem take_snoc5 {α : Type} {L : List α} {k : Nat} {x : α} (h : L[k]? = some x) : L.take (k + 1) = L.take k ++ [x] := by
  obtain ⟨hk, rfl⟩ := List.getElem?_eq_some_iff.1 h
  exact List.take_succ_eq_append_getElem hk
/-- A new map, a new block that holds one: facts that last where nothing turns. -/
def mapSpec (H : Nat) (f : Int → Option Value) (n : Nat) : Spec := ⟨fun _ => [], fun v w => ∃ m, v = .map (some m) ∧ H ≤ m ∧ IMap w .i64 m f n, fun v => ∃ m, v = .map (some m)⟩
def litMap (H : Nat) (f : Int → Option Value) (n : Nat) : Spec := ⟨fun _ => [], fun v w => ∃ g m, v = .slice (some ⟨g, 0, none⟩) 1 1 ∧ Blk w g 65 #[.map (some m)] ∧ H ≤ m ∧ IMap w .i64 m f n, fun v => ∃ g, v = .slice (some ⟨g, 0, none⟩) 1 1⟩
theorem lasts_mapSpec (w0 : World) (H : Nat) (f : Int → Option Value) (n : Nat) : Lasts0 w0 (mapSpec H f n) :=
  ⟨fun v w w' _ ⟨m, h1, h2, h3⟩ hu => ⟨m, h1, h2, h3.upd hu (by simp)⟩, ⟨_, 0, rfl⟩, fun _ _ ⟨m, h, _⟩ => ⟨m, h⟩⟩
theorem lasts_litMap (w0 : World) (H : Nat) (f : Int → Option Value) (n : Nat) : Lasts0 w0 (litMap H f n) :=
  ⟨fun v w w' _ ⟨g, m, h1, h2, h3, h4⟩ hu => ⟨g, m, h1, h2.upd hu (by simp), h3, h4.upd hu (by simp)⟩, ⟨_, 0, rfl⟩, fun _ _ ⟨g, _, h, _⟩ => ⟨g, h⟩⟩
/-- The copy so far. -/
structure CopySt (sb1 : Nat) (s : MS) (vk : Value) (gc cc : Nat) (ms : List Nat) (k : Nat) (w0 w : World) : Prop where
  st : MdlSt w0.heap.size sb1 vk gc cc ms w { s with L := s.L.take k }
  u : Upd [] w0 w
def MCopyPost (s : MS) (w : World) (e : Ending) (w' : World) : Prop := ∃ sb F, e = .returned (.pointer (some ⟨sb, 0, none⟩)) ∧ Mdl w.heap.size sb F w' s ∧ Upd [] w w'
set_option maxRecDepth 100000 in
set_option maxHeartbeats 4000000 in
theorem m_copy (B sb : Nat) (F : List Nat) (s : MS) (w : World) (h : Mdl B sb F w s) :
    Calls Tryd.prog 9 #[.pointer (some ⟨sb, 0, none⟩)] w fun e w' => MCopyPost s w e w' := by
  have eq0 := @Lib.run_eql_slice_nil Tryd.prog
  obtain ⟨g, vk, gc, cc, ms, hF, h⟩ := h
  have HG := Lib.hid g
  have HS := Lib.hid h
  obtain ⟨n, hn⟩ : ∃ n, s.L.length = n := ⟨_, rfl⟩
  have HN := Lib.hid hn
  have hn8 : n ≤ 8 := by rw [← hn, ← g.kl]; exact g.k8
  have K8 := Lib.hid g.k8
  obtain ⟨Ak, ck, rfl, hnk, _⟩ := own_slice HS.out.k
  have HB : Hid (Blk w sb 63 #[.slice Ak s.K.length ck, .slice (some ⟨gc, 0, none⟩) n cc]) := Lib.hid (by rw [← hn]; exact h.box)
  have OC : Hid (w.ownsRow B 65 1 (.slice (some ⟨gc, 0, none⟩) n cc) n (mapsV ms)) := Lib.hid (by rw [← hn]; exact h.c)
  have c0 : w.cell? ⟨sb, 0, none⟩ = some (.slice Ak s.K.length ck) := HB.out.cell 0
  have c1 : w.cell? ⟨sb, 1, none⟩ = some (.slice (some ⟨gc, 0, none⟩) n cc) := HB.out.cell 1
  clear g h hF hn
  go_enter Tryd.func9, Tryd.ntmps9
  go_wp2_with fail
  refine (clone_ints Ak s.K.length ck s.K w HS.out.k.rd rfl (by have := K8.out; omega)).mono ?_
  rintro e w1 ⟨v, rfl, o1, u1⟩
  obtain ⟨A1, k1, rfl, _, _⟩ := own_slice o1
  have O1 := Lib.hid o1
  have U1 := Lib.hid u1
  clear o1 u1 c0 c1
  have UX : Hid (Upd [] w1 ((w1.alloc (.cells #[] 65)).alloc (.cells #[.slice A1 s.K.length k1, .slice (some ⟨w1.heap.size, 0, none⟩) 0 0] 63))) := Lib.hid (((Upd.refl [] w1).alloc _).alloc _)
  have cx : ((w1.alloc (.cells #[] 65)).alloc (.cells #[.slice A1 s.K.length k1, .slice (some ⟨w1.heap.size, 0, none⟩) 0 0] 63)).cell? ⟨sb, 1, none⟩ = some (.slice (some ⟨gc, 0, none⟩) n cc) := (HB.out.upd (U1.out.trans UX.out) (by simp)).cell 1
  have h2 : (w1.alloc (.cells #[] 65)).heap.size = w1.heap.size + 1 := by simp
  have C0 : Hid (MdlSt w.heap.size (w1.heap.size + 1) (.slice A1 s.K.length k1) w1.heap.size 0 [] ((w1.alloc (.cells #[] 65)).alloc (.cells #[.slice A1 s.K.length k1, .slice (some ⟨w1.heap.size, 0, none⟩) 0 0] 63)) { s with L := s.L.take 0 }) := Lib.hid ⟨Blk.newAt 63 _ h2, O1.out.upd0 UX.out, own_made 1 ((Blk.new w1 65 #[]).upd ((Upd.refl [] _).alloc _) (by simp)) U1.out.size, by simp, .nil, by have := U1.out.size; omega, by simp⟩
  go_wp2_with fail
  generalize ((w1.alloc (.cells #[] 65)).alloc (.cells #[.slice A1 s.K.length k1, .slice (some ⟨w1.heap.size, 0, none⟩) 0 0] 63)) = w2 at *
  have U2 := Lib.hid (U1.out.trans UX.out)
  obtain ⟨ob, hob⟩ : ∃ ob, w1.heap.size + 1 = ob := ⟨_, rfl⟩
  have hob2 : (w1.alloc (.cells #[] 65)).heap.size = ob := by rw [h2, hob]
  rw [hob] at C0
  try rw [h2]
  try rw [hob]
  clear h2 hob2 hob cx UX
  go_loopw [28] (fun v wr => ∃ k : Nat, v = .int .i64 k ∧ k ≤ n ∧ Hid ((∃ gc1 cc1 ms1, MdlSt w.heap.size ob (.slice A1 s.K.length k1) gc1 cc1 ms1 wr { s with L := s.L.take k }) ∧ Upd [] w wr)) (fun v _ => n - (intOf v).toNat)
  case atStart => exact ⟨0, rfl, by omega, Lib.hid ⟨⟨_, _, _, C0.out⟩, U2.out⟩⟩
  case round =>
    obtain ⟨k, rfl, hk, HK⟩ := hrel
    obtain ⟨⟨gc1, cc1, ms1, hst⟩, hu⟩ := HK.out
    rename World => wi
    have ST := Lib.hid hst
    have UI := Lib.hid hu
    have LK : Hid ((s.L.take k).length = k) := Lib.hid (by rw [List.length_take, HN.out]; omega)
    clear HK hst hu C0
    by_cases hkn : k < n
    · obtain ⟨m, hm, him⟩ := (HS.out.upd UI.out (by simp)).at_ (i := k) (by rw [HN.out]; exact hkn)
      have HIM := Lib.hid him
      have LT := Lib.hid (take_snoc5 (coll_get (s := s) (i := k) (by rw [HN.out]; exact hkn)))
      have e0 : wi.cell? ⟨gc, k, none⟩ = some (.map (some m)) := own_cell (own_upd0 OC.out UI.out) k _ (by unfold mapsV; rw [List.getElem?_map, hm]; rfl)
      have q1 : (0 : Int) ≤ (k : Int) := by omega
      have q2 : (k : Int) < (n : Int) := by omega
      have OB : Hid (Blk wi ob 63 #[.slice A1 s.K.length k1, .slice (some ⟨gc1, 0, none⟩) k cc1]) := Lib.hid (by have := ST.out.box; rw [show ({ s with L := s.L.take k } : MS).L.length = k from LK.out] at this; exact this)
      have ON : Hid (wi.ownsRow w.heap.size 65 1 (.slice (some ⟨gc1, 0, none⟩) k cc1) k (mapsV ms1)) := Lib.hid (by have := ST.out.c; rw [show ({ s with L := s.L.take k } : MS).L.length = k from LK.out] at this; exact this)
      clear hm him
      go_wp2_with fail
      have CS : Hid (∀ W, Upd [] wi.drew W → W.cell? ⟨ob, 1, none⟩ = some (.slice (some ⟨gc1, 0, none⟩) k cc1)) := Lib.hid (fun W hW => (OB.out.upd ((Upd.refl [] wi).drew.trans hW) (by simp)).cell 1)
      refine wp_invNT0 8 [(6, mapSpec wi.heap.size (mapI (coll s k)) (coll s k).length), (7, litMap wi.heap.size (mapI (coll s k)) (coll s k).length)] (by kernel_rfl) (by simp) (by kernel_rfl) (by kernel_rfl) ⟨lasts_mapSpec _ _ _ _, lasts_litMap _ _ _ _, trivial⟩ ?_
      simp only [List.take_succ_cons, List.take_zero, List.drop_succ_cons, List.drop_zero]
      with_reducible apply wpV_light
      · simp only [lightOp]
      · intro W hU hF
        have f0 := CS.out W hU
        clear hU hF
        go_simp
        exact rfl
      simp only [Act.put, List.setIfInBounds_toArray, List.set_cons_zero, List.set_cons_succ]
      with_reducible apply wpV_light
      · simp only [lightOp]
      · intro W hU hF
        have f0 := CS.out W hU
        clear hU hF
        go_simp
        exact rfl
      simp only [Act.put, List.setIfInBounds_toArray, List.set_cons_zero, List.set_cons_succ]
      with_reducible apply wpV_light
      · simp only [lightOp]
      · intro W hU hF
        have f0 := CS.out W hU
        clear hU hF
        go_simp
        exact rfl
      simp only [Act.put, List.setIfInBounds_toArray, List.set_cons_zero, List.set_cons_succ]
      with_reducible apply wpV_light
      · simp only [lightOp]
      · intro W hU hF
        have f0 := CS.out W hU
        clear hU hF
        go_simp
        exact rfl
      simp only [Act.put, List.setIfInBounds_toArray, List.set_cons_zero, List.set_cons_succ]
      with_reducible apply wpV_light
      · simp only [lightOp]
      · intro W hU hF
        have f0 := CS.out W hU
        clear hU hF
        go_simp
        exact rfl
      simp only [Act.put, List.setIfInBounds_toArray, List.set_cons_zero, List.set_cons_succ]
      with_reducible apply wpV_light
      · simp only [lightOp]
      · intro W hU hF
        have f0 := CS.out W hU
        clear hU hF
        go_simp
        exact rfl
      simp only [Act.put, List.setIfInBounds_toArray, List.set_cons_zero, List.set_cons_succ]
      refine wpV_heavy (by simp only [lightOp]) (by rfl) (fun W hU hk hF K hK => ?_) ?_
      · go_wp2_with fail
        refine (clone_map m _ _ _ (HIM.out.upd ((Upd.refl [] wi).drew.trans hU) (by simp))).mono ?_
        rintro e w5 ⟨rfl, im5, u5, -⟩
        go_wp2_with fail
        exact hK.out _ _ (outV_new rfl ⟨_, rfl, ((Upd.refl [] wi).drew.trans hU).size, im5⟩ (by intro b hb; cases hb) u5)
      rintro _ ⟨m6, rfl⟩
      simp only [Act.put, List.setIfInBounds_toArray, List.set_cons_zero, List.set_cons_succ]
      refine wpV_heavy (by simp only [lightOp]) (by rfl) (fun W hU hk hF K hK => ?_) ?_
      · have h6 := hF.out.1 (by kernel_rfl)
        go_wp2_with fail
        obtain ⟨m', e6, h6a, h6b⟩ := h6
        injection e6 with e6
        injection e6 with e6
        subst e6
        exact hK.out _ _ (outV_new rfl ⟨_, m6, rfl, Blk.new _ _ _, h6a, h6b.upd ((Upd.refl [] _).alloc _) (by simp)⟩ (by intro b hb; cases hb) ((Upd.refl [] _).alloc _))
      rintro _ ⟨g5, rfl⟩
      simp only [Act.put, List.setIfInBounds_toArray, List.set_cons_zero, List.set_cons_succ]
      refine wpV_end (fun W hU _ hF => ?_)
      have U6 : Hid (Upd [] wi W) := Lib.hid ((Upd.refl [] wi).drew.trans hU)
      obtain ⟨g5', m5, e5, hb5, hm5, him5⟩ := hF.out.2.1 (by kernel_rfl)
      injection e5 with e5 _ _
      injection e5 with e5
      injection e5 with e5
      subst e5
      have HB5 := Lib.hid hb5
      have HM5 := Lib.hid hm5
      have IM5 := Lib.hid him5
      clear hU hF hb5 hm5 him5
      have S5 : Hid (w.heap.size ≤ W.heap.size) := Lib.hid (UI.out.trans U6.out).size
      refine wpT_op (by rfl) (fun K hK => ?_)
      refine wp_app W (.tmp 36) (.tmp 39) _ (by rfl) elem_map (.slice (some ⟨gc1, 0, none⟩) k cc1) _ (by rfl) (by rfl) (own_upd0 ON.out U6.out) (.of_blk HB5.out (m := 1) 1 rfl) (by intro u hu; simp at hu; subst hu; rfl) (by simp only [maxLen]; omega) (by omega) S5.out ?_
      intro v7 w7 o7 u7 b7
      have O7N : Hid (w7.ownsRow w.heap.size 65 1 v7 (k + 1) (mapsV ms1 ++ [.map (some m5)])) := Lib.hid o7
      have U7 := Lib.hid u7
      obtain ⟨g7, c7, cur7, rfl, _⟩ := own_form O7N.out (by omega)
      refine hK.out _ _ ?_
      clear hK K
      simp only [Act.put, List.setIfInBounds_toArray, List.set_cons_zero, List.set_cons_succ]
      have OB7 := Lib.hid ((OB.out.upd U6.out (by simp)).upd u7 (by intro hm; exact own_type ON.out OB.out (by decide) (by simpa using hm)))
      clear o7 u7 b7
      have z3 : w7.cell? ⟨ob, 1, none⟩ = some (.slice (some ⟨gc1, 0, none⟩) k cc1) := OB7.out.cell 1
      have z4 : w7.frozen? ⟨ob, 1, none⟩ = false := OB7.out.frozen 1
      have z5 : ob < w7.heap.size := OB7.out.lt
      refine wpT_op (by rfl) (fun K hK => ?_)
      go_wp2_with fail
      refine hK.out _ _ ?_
      clear hK K
      try simp only [Act.put, List.setIfInBounds_toArray, List.set_cons_zero, List.set_cons_succ]
      refine wpT_op (by rfl) (fun K hK => ?_)
      go_wp2_with fail
      refine hK.out _ _ ?_
      clear hK K
      try simp only [Act.put, List.setIfInBounds_toArray, List.set_cons_zero, List.set_cons_succ]
      refine wpT_op (by rfl) (fun K hK => ?_)
      go_wp2_with fail
      refine hK.out _ _ ?_
      clear hK K
      try simp only [Act.put, List.setIfInBounds_toArray, List.set_cons_zero, List.set_cons_succ]
      refine wpT_end ?_
      have U8 : Hid (Upd [ob] w7 (w7.setCell ⟨ob, 1, none⟩ (.slice (some ⟨g7, 0, none⟩) (k + 1) c7))) := Lib.hid ((Upd.refl [ob] w7).setCell (.inl (by simp)) _)
      have ST8 : Hid (∃ gc1 cc1 ms1, MdlSt w.heap.size ob (.slice A1 s.K.length k1) gc1 cc1 ms1 (w7.setCell ⟨ob, 1, none⟩ (.slice (some ⟨g7, 0, none⟩) (k + 1) c7)) { s with L := s.L.take (k + 1) }) := Lib.hid (by
        have UT : Upd [ob, gc1] wi (w7.setCell ⟨ob, 1, none⟩ (.slice (some ⟨g7, 0, none⟩) (k + 1) c7)) := ((U6.out.mono (by simp)).trans (U7.out.mono (by intro y hy; simp [Value.ownBlock] at hy; subst hy; exact .inl (by simp)))).trans (U8.out.mono (by simp))
        have IMX : IMap (w7.setCell ⟨ob, 1, none⟩ (.slice (some ⟨g7, 0, none⟩) (k + 1) c7)) .i64 m5 (mapI (coll s k)) (coll s k).length := by
          have im7 := IM5.out.upd U7.out (by simp [Value.ownBlock]; intro e; have := (own_lt ON.out (b := gc1) rfl).2; have := HM5.out; omega)
          exact im7.upd U8.out (by simp; intro e; have := OB.out.lt; have := HM5.out; omega)
        have hp := ST.out.push (m := m5) (l := coll s k) (gc' := g7) (cc' := c7) UT (by rw [show ({ s with L := s.L.take k } : MS).L.length = k from LK.out]; exact OB7.out.set_eq rfl) (by rw [show ({ s with L := s.L.take k } : MS).L.length = k from LK.out]; exact own_upd O7N.out U8.out (by intro b hb; simp; rintro rfl; exact own_type O7N.out OB7.out (by decide) hb)) IMX HM5.out (Nat.le_trans UI.out.size HM5.out)
        rw [LT.out]
        exact ⟨_, _, _, hp⟩)
      have UI8 : Hid (Upd [] w (w7.setCell ⟨ob, 1, none⟩ (.slice (some ⟨g7, 0, none⟩) (k + 1) c7))) := Lib.hid (by
        have h1 := (UI.out.trans U6.out).trans' U7.out (fun x hx => .inr (own_lt ON.out (by simpa using hx)).1)
        exact h1.trans' U8.out (fun x hx => by simp at hx; subst hx; exact .inr ST.out.bs))
      go_wp2_with fail
      go_roundw
      case rel => exact ⟨k + 1, by go_num, by omega, Lib.hid ⟨ST8.out, UI8.out⟩⟩
      case measure => simp [intOf]; omega
    · obtain rfl : k = n := by omega
      go_wp2_with fail
      go_ret
      unfold MCopyPost
      have hst := ST.out
      rw [show ({ s with L := s.L.take k } : MS) = s by rw [List.take_of_length_le (by rw [HN.out]; exact Nat.le_refl _)]] at hst
      exact ⟨ob, _, rfl, ⟨HG.out, _, _, _, _, rfl, hst⟩, UI.out⟩
end Go.Proofs.YtfbeaklplefojaaDoor

namespace Go.Proofs.YtfbeaklplefojaaDoor
open Go.RowKit
theorem blk_seq {P : Program} {id : Nat} {c d : Code} {Q : Exit → Act → World → Prop} {a : Act} {w : World} (h : ∀ Q' : Exit → Act → World → Prop, Hid (∀ e a w, Exit.inBlock id (Exit.then (d.wp P Q) Q) e a w → Q' e a w) → c.wp P Q' a w) : ((Code.block id c).seq d).wp P Q a w :=
  wp_seq (wp_block (h _ (Lib.hid fun _ _ _ h => h)))
theorem blk1 {P : Program} {id : Nat} {c : Code} {Q : Exit → Act → World → Prop} {a : Act} {w : World} (h : ∀ Q' : Exit → Act → World → Prop, Hid (∀ e a w, Exit.inBlock id Q e a w → Q' e a w) → c.wp P Q' a w) : (Code.block id c).wp P Q a w :=
  wp_block (h _ (Lib.hid fun _ _ _ h => h))
def pIs (k : Int) : Bool := decide (1 ≤ k) && decide (k ≤ 16)
def pColl (k : Int) : Bool := decide (1 ≤ k) && decide (k ≤ 8)
def pOrd (k : Int) : Bool := k == 6 || k == 7
def pReg (k : Int) : Bool := k == 1 || k == 4 || k == 5 || k == 6 || k == 7 || k == 9 || k == 10
def pA (k : Int) : Bool := k == 1 || k == 2 || k == 3 || k == 4 || k == 6 || k == 7 || k == 9 || k == 10 || k == 11 || k == 12
def pB (k : Int) : Bool := k == 2 || k == 7 || k == 10 || k == 11
def pBody (k : Int) : Bool := decide (11 ≤ k) && decide (k ≤ 14)
def pElse (k : Int) : Bool := k == 11 || k == 14
set_option maxHeartbeats 1000000 in
theorem parts_1 (w : World) : Calls Tryd.prog 31 #[.int .i64 1] w fun e w' => e = .returned (.tuple #[.agg #[.bool true, .bool false, .bool true, .bool true, .bool false, .bool false, .bool false], .bool true]) ∧ Upd [] w w' := by
  go_enter Tryd.func31, Tryd.ntmps31
  go_upto_block 0 with fail
  refine blk1 (fun Q0 h0 => ?_)
  refine blk_seq (fun Q15 h15 => ?_)
  refine blk_seq (fun Q14 h14 => ?_)
  refine blk_seq (fun Q13 h13 => ?_)
  refine blk_seq (fun Q12 h12 => ?_)
  refine blk_seq (fun Q11 h11 => ?_)
  refine blk_seq (fun Q10 h10 => ?_)
  refine blk_seq (fun Q9 h9 => ?_)
  refine blk_seq (fun Q8 h8 => ?_)
  refine blk_seq (fun Q7 h7 => ?_)
  refine blk_seq (fun Q6 h6 => ?_)
  refine blk_seq (fun Q5 h5 => ?_)
  refine blk_seq (fun Q4 h4 => ?_)
  refine blk_seq (fun Q3 h3 => ?_)
  refine blk_seq (fun Q2 h2 => ?_)
  refine blk_seq (fun Q1 h1 => ?_)
  go_wp2_with fail
  repeat ((first | (with_reducible refine h1.out _ _ _ ?_) | (with_reducible refine h2.out _ _ _ ?_) | (with_reducible refine h3.out _ _ _ ?_) | (with_reducible refine h4.out _ _ _ ?_) | (with_reducible refine h5.out _ _ _ ?_) | (with_reducible refine h6.out _ _ _ ?_) | (with_reducible refine h7.out _ _ _ ?_) | (with_reducible refine h8.out _ _ _ ?_) | (with_reducible refine h9.out _ _ _ ?_) | (with_reducible refine h10.out _ _ _ ?_) | (with_reducible refine h11.out _ _ _ ?_) | (with_reducible refine h12.out _ _ _ ?_) | (with_reducible refine h13.out _ _ _ ?_) | (with_reducible refine h14.out _ _ _ ?_) | (with_reducible refine h15.out _ _ _ ?_) | (with_reducible refine h0.out _ _ _ ?_)); (try simp only [Exit.inBlock, Exit.then, Nat.reduceEqDiff, if_true, if_false, ite_true, ite_false, reduceCtorEq]); (try go_wp2_with fail))
  exact bodyPost_ret (v := .tuple #[.agg #[.bool true, .bool false, .bool true, .bool true, .bool false, .bool false, .bool false], .bool true]) (by simp [results, Tryd.results31, go_sem]) rfl ⟨rfl, ((Upd.refl [] w).alloc _).alloc _⟩
set_option maxHeartbeats 1000000 in
theorem parts_2 (w : World) : Calls Tryd.prog 31 #[.int .i64 2] w fun e w' => e = .returned (.tuple #[.agg #[.bool true, .bool false, .bool false, .bool true, .bool true, .bool false, .bool false], .bool true]) ∧ Upd [] w w' := by
  go_enter Tryd.func31, Tryd.ntmps31
  go_upto_block 0 with fail
  refine blk1 (fun Q0 h0 => ?_)
  refine blk_seq (fun Q15 h15 => ?_)
  refine blk_seq (fun Q14 h14 => ?_)
  refine blk_seq (fun Q13 h13 => ?_)
  refine blk_seq (fun Q12 h12 => ?_)
  refine blk_seq (fun Q11 h11 => ?_)
  refine blk_seq (fun Q10 h10 => ?_)
  refine blk_seq (fun Q9 h9 => ?_)
  refine blk_seq (fun Q8 h8 => ?_)
  refine blk_seq (fun Q7 h7 => ?_)
  refine blk_seq (fun Q6 h6 => ?_)
  refine blk_seq (fun Q5 h5 => ?_)
  refine blk_seq (fun Q4 h4 => ?_)
  refine blk_seq (fun Q3 h3 => ?_)
  refine blk_seq (fun Q2 h2 => ?_)
  refine blk_seq (fun Q1 h1 => ?_)
  go_wp2_with fail
  repeat ((first | (with_reducible refine h1.out _ _ _ ?_) | (with_reducible refine h2.out _ _ _ ?_) | (with_reducible refine h3.out _ _ _ ?_) | (with_reducible refine h4.out _ _ _ ?_) | (with_reducible refine h5.out _ _ _ ?_) | (with_reducible refine h6.out _ _ _ ?_) | (with_reducible refine h7.out _ _ _ ?_) | (with_reducible refine h8.out _ _ _ ?_) | (with_reducible refine h9.out _ _ _ ?_) | (with_reducible refine h10.out _ _ _ ?_) | (with_reducible refine h11.out _ _ _ ?_) | (with_reducible refine h12.out _ _ _ ?_) | (with_reducible refine h13.out _ _ _ ?_) | (with_reducible refine h14.out _ _ _ ?_) | (with_reducible refine h15.out _ _ _ ?_) | (with_reducible refine h0.out _ _ _ ?_)); (try simp only [Exit.inBlock, Exit.then, Nat.reduceEqDiff, if_true, if_false, ite_true, ite_false, reduceCtorEq]); (try go_wp2_with fail))
  exact bodyPost_ret (v := .tuple #[.agg #[.bool true, .bool false, .bool false, .bool true, .bool true, .bool false, .bool false], .bool true]) (by simp [results, Tryd.results31, go_sem]) rfl ⟨rfl, ((Upd.refl [] w).alloc _).alloc _⟩
set_option maxHeartbeats 1000000 in
theorem parts_3 (w : World) : Calls Tryd.prog 31 #[.int .i64 3] w fun e w' => e = .returned (.tuple #[.agg #[.bool true, .bool false, .bool false, .bool true, .bool false, .bool false, .bool false], .bool true]) ∧ Upd [] w w' := by
  go_enter Tryd.func31, Tryd.ntmps31
  go_upto_block 0 with fail
  refine blk1 (fun Q0 h0 => ?_)
  refine blk_seq (fun Q15 h15 => ?_)
  refine blk_seq (fun Q14 h14 => ?_)
  refine blk_seq (fun Q13 h13 => ?_)
  refine blk_seq (fun Q12 h12 => ?_)
  refine blk_seq (fun Q11 h11 => ?_)
  refine blk_seq (fun Q10 h10 => ?_)
  refine blk_seq (fun Q9 h9 => ?_)
  refine blk_seq (fun Q8 h8 => ?_)
  refine blk_seq (fun Q7 h7 => ?_)
  refine blk_seq (fun Q6 h6 => ?_)
  refine blk_seq (fun Q5 h5 => ?_)
  refine blk_seq (fun Q4 h4 => ?_)
  refine blk_seq (fun Q3 h3 => ?_)
  refine blk_seq (fun Q2 h2 => ?_)
  refine blk_seq (fun Q1 h1 => ?_)
  go_wp2_with fail
  repeat ((first | (with_reducible refine h1.out _ _ _ ?_) | (with_reducible refine h2.out _ _ _ ?_) | (with_reducible refine h3.out _ _ _ ?_) | (with_reducible refine h4.out _ _ _ ?_) | (with_reducible refine h5.out _ _ _ ?_) | (with_reducible refine h6.out _ _ _ ?_) | (with_reducible refine h7.out _ _ _ ?_) | (with_reducible refine h8.out _ _ _ ?_) | (with_reducible refine h9.out _ _ _ ?_) | (with_reducible refine h10.out _ _ _ ?_) | (with_reducible refine h11.out _ _ _ ?_) | (with_reducible refine h12.out _ _ _ ?_) | (with_reducible refine h13.out _ _ _ ?_) | (with_reducible refine h14.out _ _ _ ?_) | (with_reducible refine h15.out _ _ _ ?_) | (with_reducible refine h0.out _ _ _ ?_)); (try simp only [Exit.inBlock, Exit.then, Nat.reduceEqDiff, if_true, if_false, ite_true, ite_false, reduceCtorEq]); (try go_wp2_with fail))
  exact bodyPost_ret (v := .tuple #[.agg #[.bool true, .bool false, .bool false, .bool true, .bool false, .bool false, .bool false], .bool true]) (by simp [results, Tryd.results31, go_sem]) rfl ⟨rfl, ((Upd.refl [] w).alloc _).alloc _⟩
set_option maxHeartbeats 1000000 in
theorem parts_4 (w : World) : Calls Tryd.prog 31 #[.int .i64 4] w fun e w' => e = .returned (.tuple #[.agg #[.bool true, .bool false, .bool true, .bool true, .bool false, .bool false, .bool false], .bool true]) ∧ Upd [] w w' := by
  go_enter Tryd.func31, Tryd.ntmps31
  go_upto_block 0 with fail
  refine blk1 (fun Q0 h0 => ?_)
  refine blk_seq (fun Q15 h15 => ?_)
  refine blk_seq (fun Q14 h14 => ?_)
  refine blk_seq (fun Q13 h13 => ?_)
  refine blk_seq (fun Q12 h12 => ?_)
  refine blk_seq (fun Q11 h11 => ?_)
  refine blk_seq (fun Q10 h10 => ?_)
  refine blk_seq (fun Q9 h9 => ?_)
  refine blk_seq (fun Q8 h8 => ?_)
  refine blk_seq (fun Q7 h7 => ?_)
  refine blk_seq (fun Q6 h6 => ?_)
  refine blk_seq (fun Q5 h5 => ?_)
  refine blk_seq (fun Q4 h4 => ?_)
  refine blk_seq (fun Q3 h3 => ?_)
  refine blk_seq (fun Q2 h2 => ?_)
  refine blk_seq (fun Q1 h1 => ?_)
  go_wp2_with fail
  repeat ((first | (with_reducible refine h1.out _ _ _ ?_) | (with_reducible refine h2.out _ _ _ ?_) | (with_reducible refine h3.out _ _ _ ?_) | (with_reducible refine h4.out _ _ _ ?_) | (with_reducible refine h5.out _ _ _ ?_) | (with_reducible refine h6.out _ _ _ ?_) | (with_reducible refine h7.out _ _ _ ?_) | (with_reducible refine h8.out _ _ _ ?_) | (with_reducible refine h9.out _ _ _ ?_) | (with_reducible refine h10.out _ _ _ ?_) | (with_reducible refine h11.out _ _ _ ?_) | (with_reducible refine h12.out _ _ _ ?_) | (with_reducible refine h13.out _ _ _ ?_) | (with_reducible refine h14.out _ _ _ ?_) | (with_reducible refine h15.out _ _ _ ?_) | (with_reducible refine h0.out _ _ _ ?_)); (try simp only [Exit.inBlock, Exit.then, Nat.reduceEqDiff, if_true, if_false, ite_true, ite_false, reduceCtorEq]); (try go_wp2_with fail))
  exact bodyPost_ret (v := .tuple #[.agg #[.bool true, .bool false, .bool true, .bool true, .bool false, .bool false, .bool false], .bool true]) (by simp [results, Tryd.results31, go_sem]) rfl ⟨rfl, ((Upd.refl [] w).alloc _).alloc _⟩
set_option maxHeartbeats 1000000 in
theorem parts_5 (w : World) : Calls Tryd.prog 31 #[.int .i64 5] w fun e w' => e = .returned (.tuple #[.agg #[.bool true, .bool false, .bool true, .bool false, .bool false, .bool false, .bool false], .bool true]) ∧ Upd [] w w' := by
  go_enter Tryd.func31, Tryd.ntmps31
  go_upto_block 0 with fail
  refine blk1 (fun Q0 h0 => ?_)
  refine blk_seq (fun Q15 h15 => ?_)
  refine blk_seq (fun Q14 h14 => ?_)
  refine blk_seq (fun Q13 h13 => ?_)
  refine blk_seq (fun Q12 h12 => ?_)
  refine blk_seq (fun Q11 h11 => ?_)
  refine blk_seq (fun Q10 h10 => ?_)
  refine blk_seq (fun Q9 h9 => ?_)
  refine blk_seq (fun Q8 h8 => ?_)
  refine blk_seq (fun Q7 h7 => ?_)
  refine blk_seq (fun Q6 h6 => ?_)
  refine blk_seq (fun Q5 h5 => ?_)
  refine blk_seq (fun Q4 h4 => ?_)
  refine blk_seq (fun Q3 h3 => ?_)
  refine blk_seq (fun Q2 h2 => ?_)
  refine blk_seq (fun Q1 h1 => ?_)
  go_wp2_with fail
  repeat ((first | (with_reducible refine h1.out _ _ _ ?_) | (with_reducible refine h2.out _ _ _ ?_) | (with_reducible refine h3.out _ _ _ ?_) | (with_reducible refine h4.out _ _ _ ?_) | (with_reducible refine h5.out _ _ _ ?_) | (with_reducible refine h6.out _ _ _ ?_) | (with_reducible refine h7.out _ _ _ ?_) | (with_reducible refine h8.out _ _ _ ?_) | (with_reducible refine h9.out _ _ _ ?_) | (with_reducible refine h10.out _ _ _ ?_) | (with_reducible refine h11.out _ _ _ ?_) | (with_reducible refine h12.out _ _ _ ?_) | (with_reducible refine h13.out _ _ _ ?_) | (with_reducible refine h14.out _ _ _ ?_) | (with_reducible refine h15.out _ _ _ ?_) | (with_reducible refine h0.out _ _ _ ?_)); (try simp only [Exit.inBlock, Exit.then, Nat.reduceEqDiff, if_true, if_false, ite_true, ite_false, reduceCtorEq]); (try go_wp2_with fail))
  exact bodyPost_ret (v := .tuple #[.agg #[.bool true, .bool false, .bool true, .bool false, .bool false, .bool false, .bool false], .bool true]) (by simp [results, Tryd.results31, go_sem]) rfl ⟨rfl, ((Upd.refl [] w).alloc _).alloc _⟩
set_option maxHeartbeats 1000000 in
theorem parts_6 (w : World) : Calls Tryd.prog 31 #[.int .i64 6] w fun e w' => e = .returned (.tuple #[.agg #[.bool true, .bool true, .bool true, .bool true, .bool false, .bool false, .bool false], .bool true]) ∧ Upd [] w w' := by
  go_enter Tryd.func31, Tryd.ntmps31
  go_upto_block 0 with fail
  refine blk1 (fun Q0 h0 => ?_)
  refine blk_seq (fun Q15 h15 => ?_)
  refine blk_seq (fun Q14 h14 => ?_)
  refine blk_seq (fun Q13 h13 => ?_)
  refine blk_seq (fun Q12 h12 => ?_)
  refine blk_seq (fun Q11 h11 => ?_)
  refine blk_seq (fun Q10 h10 => ?_)
  refine blk_seq (fun Q9 h9 => ?_)
  refine blk_seq (fun Q8 h8 => ?_)
  refine blk_seq (fun Q7 h7 => ?_)
  refine blk_seq (fun Q6 h6 => ?_)
  refine blk_seq (fun Q5 h5 => ?_)
  refine blk_seq (fun Q4 h4 => ?_)
  refine blk_seq (fun Q3 h3 => ?_)
  refine blk_seq (fun Q2 h2 => ?_)
  refine blk_seq (fun Q1 h1 => ?_)
  go_wp2_with fail
  repeat ((first | (with_reducible refine h1.out _ _ _ ?_) | (with_reducible refine h2.out _ _ _ ?_) | (with_reducible refine h3.out _ _ _ ?_) | (with_reducible refine h4.out _ _ _ ?_) | (with_reducible refine h5.out _ _ _ ?_) | (with_reducible refine h6.out _ _ _ ?_) | (with_reducible refine h7.out _ _ _ ?_) | (with_reducible refine h8.out _ _ _ ?_) | (with_reducible refine h9.out _ _ _ ?_) | (with_reducible refine h10.out _ _ _ ?_) | (with_reducible refine h11.out _ _ _ ?_) | (with_reducible refine h12.out _ _ _ ?_) | (with_reducible refine h13.out _ _ _ ?_) | (with_reducible refine h14.out _ _ _ ?_) | (with_reducible refine h15.out _ _ _ ?_) | (with_reducible refine h0.out _ _ _ ?_)); (try simp only [Exit.inBlock, Exit.then, Nat.reduceEqDiff, if_true, if_false, ite_true, ite_false, reduceCtorEq]); (try go_wp2_with fail))
  exact bodyPost_ret (v := .tuple #[.agg #[.bool true, .bool true, .bool true, .bool true, .bool false, .bool false, .bool false], .bool true]) (by simp [results, Tryd.results31, go_sem]) rfl ⟨rfl, ((Upd.refl [] w).alloc _).alloc _⟩
set_option maxHeartbeats 1000000 in
theorem parts_7 (w : World) : Calls Tryd.prog 31 #[.int .i64 7] w fun e w' => e = .returned (.tuple #[.agg #[.bool true, .bool true, .bool true, .bool true, .bool true, .bool false, .bool false], .bool true]) ∧ Upd [] w w' := by
  go_enter Tryd.func31, Tryd.ntmps31
  go_upto_block 0 with fail
  refine blk1 (fun Q0 h0 => ?_)
  refine blk_seq (fun Q15 h15 => ?_)
  refine blk_seq (fun Q14 h14 => ?_)
  refine blk_seq (fun Q13 h13 => ?_)
  refine blk_seq (fun Q12 h12 => ?_)
  refine blk_seq (fun Q11 h11 => ?_)
  refine blk_seq (fun Q10 h10 => ?_)
  refine blk_seq (fun Q9 h9 => ?_)
  refine blk_seq (fun Q8 h8 => ?_)
  refine blk_seq (fun Q7 h7 => ?_)
  refine blk_seq (fun Q6 h6 => ?_)
  refine blk_seq (fun Q5 h5 => ?_)
  refine blk_seq (fun Q4 h4 => ?_)
  refine blk_seq (fun Q3 h3 => ?_)
  refine blk_seq (fun Q2 h2 => ?_)
  refine blk_seq (fun Q1 h1 => ?_)
  go_wp2_with fail
  repeat ((first | (with_reducible refine h1.out _ _ _ ?_) | (with_reducible refine h2.out _ _ _ ?_) | (with_reducible refine h3.out _ _ _ ?_) | (with_reducible refine h4.out _ _ _ ?_) | (with_reducible refine h5.out _ _ _ ?_) | (with_reducible refine h6.out _ _ _ ?_) | (with_reducible refine h7.out _ _ _ ?_) | (with_reducible refine h8.out _ _ _ ?_) | (with_reducible refine h9.out _ _ _ ?_) | (with_reducible refine h10.out _ _ _ ?_) | (with_reducible refine h11.out _ _ _ ?_) | (with_reducible refine h12.out _ _ _ ?_) | (with_reducible refine h13.out _ _ _ ?_) | (with_reducible refine h14.out _ _ _ ?_) | (with_reducible refine h15.out _ _ _ ?_) | (with_reducible refine h0.out _ _ _ ?_)); (try simp only [Exit.inBlock, Exit.then, Nat.reduceEqDiff, if_true, if_false, ite_true, ite_false, reduceCtorEq]); (try go_wp2_with fail))
  exact bodyPost_ret (v := .tuple #[.agg #[.bool true, .bool true, .bool true, .bool true, .bool true, .bool false, .bool false], .bool true]) (by simp [results, Tryd.results31, go_sem]) rfl ⟨rfl, ((Upd.refl [] w).alloc _).alloc _⟩
set_option maxHeartbeats 1000000 in
theorem parts_8 (w : World) : Calls Tryd.prog 31 #[.int .i64 8] w fun e w' => e = .returned (.tuple #[.agg #[.bool true, .bool false, .bool false, .bool false, .bool false, .bool false, .bool false], .bool true]) ∧ Upd [] w w' := by
  go_enter Tryd.func31, Tryd.ntmps31
  go_upto_block 0 with fail
  refine blk1 (fun Q0 h0 => ?_)
  refine blk_seq (fun Q15 h15 => ?_)
  refine blk_seq (fun Q14 h14 => ?_)
  refine blk_seq (fun Q13 h13 => ?_)
  refine blk_seq (fun Q12 h12 => ?_)
  refine blk_seq (fun Q11 h11 => ?_)
  refine blk_seq (fun Q10 h10 => ?_)
  refine blk_seq (fun Q9 h9 => ?_)
  refine blk_seq (fun Q8 h8 => ?_)
  refine blk_seq (fun Q7 h7 => ?_)
  refine blk_seq (fun Q6 h6 => ?_)
  refine blk_seq (fun Q5 h5 => ?_)
  refine blk_seq (fun Q4 h4 => ?_)
  refine blk_seq (fun Q3 h3 => ?_)
  refine blk_seq (fun Q2 h2 => ?_)
  refine blk_seq (fun Q1 h1 => ?_)
  go_wp2_with fail
  repeat ((first | (with_reducible refine h1.out _ _ _ ?_) | (with_reducible refine h2.out _ _ _ ?_) | (with_reducible refine h3.out _ _ _ ?_) | (with_reducible refine h4.out _ _ _ ?_) | (with_reducible refine h5.out _ _ _ ?_) | (with_reducible refine h6.out _ _ _ ?_) | (with_reducible refine h7.out _ _ _ ?_) | (with_reducible refine h8.out _ _ _ ?_) | (with_reducible refine h9.out _ _ _ ?_) | (with_reducible refine h10.out _ _ _ ?_) | (with_reducible refine h11.out _ _ _ ?_) | (with_reducible refine h12.out _ _ _ ?_) | (with_reducible refine h13.out _ _ _ ?_) | (with_reducible refine h14.out _ _ _ ?_) | (with_reducible refine h15.out _ _ _ ?_) | (with_reducible refine h0.out _ _ _ ?_)); (try simp only [Exit.inBlock, Exit.then, Nat.reduceEqDiff, if_true, if_false, ite_true, ite_false, reduceCtorEq]); (try go_wp2_with fail))
  exact bodyPost_ret (v := .tuple #[.agg #[.bool true, .bool false, .bool false, .bool false, .bool false, .bool false, .bool false], .bool true]) (by simp [results, Tryd.results31, go_sem]) rfl ⟨rfl, ((Upd.refl [] w).alloc _).alloc _⟩
set_option maxHeartbeats 1000000 in
theorem parts_9 (w : World) : Calls Tryd.prog 31 #[.int .i64 9] w fun e w' => e = .returned (.tuple #[.agg #[.bool false, .bool false, .bool true, .bool true, .bool false, .bool false, .bool false], .bool true]) ∧ Upd [] w w' := by
  go_enter Tryd.func31, Tryd.ntmps31
  go_upto_block 0 with fail
  refine blk1 (fun Q0 h0 => ?_)
  refine blk_seq (fun Q15 h15 => ?_)
  refine blk_seq (fun Q14 h14 => ?_)
  refine blk_seq (fun Q13 h13 => ?_)
  refine blk_seq (fun Q12 h12 => ?_)
  refine blk_seq (fun Q11 h11 => ?_)
  refine blk_seq (fun Q10 h10 => ?_)
  refine blk_seq (fun Q9 h9 => ?_)
  refine blk_seq (fun Q8 h8 => ?_)
  refine blk_seq (fun Q7 h7 => ?_)
  refine blk_seq (fun Q6 h6 => ?_)
  refine blk_seq (fun Q5 h5 => ?_)
  refine blk_seq (fun Q4 h4 => ?_)
  refine blk_seq (fun Q3 h3 => ?_)
  refine blk_seq (fun Q2 h2 => ?_)
  refine blk_seq (fun Q1 h1 => ?_)
  go_wp2_with fail
  repeat ((first | (with_reducible refine h1.out _ _ _ ?_) | (with_reducible refine h2.out _ _ _ ?_) | (with_reducible refine h3.out _ _ _ ?_) | (with_reducible refine h4.out _ _ _ ?_) | (with_reducible refine h5.out _ _ _ ?_) | (with_reducible refine h6.out _ _ _ ?_) | (with_reducible refine h7.out _ _ _ ?_) | (with_reducible refine h8.out _ _ _ ?_) | (with_reducible refine h9.out _ _ _ ?_) | (with_reducible refine h10.out _ _ _ ?_) | (with_reducible refine h11.out _ _ _ ?_) | (with_reducible refine h12.out _ _ _ ?_) | (with_reducible refine h13.out _ _ _ ?_) | (with_reducible refine h14.out _ _ _ ?_) | (with_reducible refine h15.out _ _ _ ?_) | (with_reducible refine h0.out _ _ _ ?_)); (try simp only [Exit.inBlock, Exit.then, Nat.reduceEqDiff, if_true, if_false, ite_true, ite_false, reduceCtorEq]); (try go_wp2_with fail))
  exact bodyPost_ret (v := .tuple #[.agg #[.bool false, .bool false, .bool true, .bool true, .bool false, .bool false, .bool false], .bool true]) (by simp [results, Tryd.results31, go_sem]) rfl ⟨rfl, ((Upd.refl [] w).alloc _).alloc _⟩
set_option maxHeartbeats 1000000 in
theorem parts_10 (w : World) : Calls Tryd.prog 31 #[.int .i64 10] w fun e w' => e = .returned (.tuple #[.agg #[.bool false, .bool false, .bool true, .bool true, .bool true, .bool false, .bool false], .bool true]) ∧ Upd [] w w' := by
  go_enter Tryd.func31, Tryd.ntmps31
  go_upto_block 0 with fail
  refine blk1 (fun Q0 h0 => ?_)
  refine blk_seq (fun Q15 h15 => ?_)
  refine blk_seq (fun Q14 h14 => ?_)
  refine blk_seq (fun Q13 h13 => ?_)
  refine blk_seq (fun Q12 h12 => ?_)
  refine blk_seq (fun Q11 h11 => ?_)
  refine blk_seq (fun Q10 h10 => ?_)
  refine blk_seq (fun Q9 h9 => ?_)
  refine blk_seq (fun Q8 h8 => ?_)
  refine blk_seq (fun Q7 h7 => ?_)
  refine blk_seq (fun Q6 h6 => ?_)
  refine blk_seq (fun Q5 h5 => ?_)
  refine blk_seq (fun Q4 h4 => ?_)
  refine blk_seq (fun Q3 h3 => ?_)
  refine blk_seq (fun Q2 h2 => ?_)
  refine blk_seq (fun Q1 h1 => ?_)
  go_wp2_with fail
  repeat ((first | (with_reducible refine h1.out _ _ _ ?_) | (with_reducible refine h2.out _ _ _ ?_) | (with_reducible refine h3.out _ _ _ ?_) | (with_reducible refine h4.out _ _ _ ?_) | (with_reducible refine h5.out _ _ _ ?_) | (with_reducible refine h6.out _ _ _ ?_) | (with_reducible refine h7.out _ _ _ ?_) | (with_reducible refine h8.out _ _ _ ?_) | (with_reducible refine h9.out _ _ _ ?_) | (with_reducible refine h10.out _ _ _ ?_) | (with_reducible refine h11.out _ _ _ ?_) | (with_reducible refine h12.out _ _ _ ?_) | (with_reducible refine h13.out _ _ _ ?_) | (with_reducible refine h14.out _ _ _ ?_) | (with_reducible refine h15.out _ _ _ ?_) | (with_reducible refine h0.out _ _ _ ?_)); (try simp only [Exit.inBlock, Exit.then, Nat.reduceEqDiff, if_true, if_false, ite_true, ite_false, reduceCtorEq]); (try go_wp2_with fail))
  exact bodyPost_ret (v := .tuple #[.agg #[.bool false, .bool false, .bool true, .bool true, .bool true, .bool false, .bool false], .bool true]) (by simp [results, Tryd.results31, go_sem]) rfl ⟨rfl, ((Upd.refl [] w).alloc _).alloc _⟩
set_option maxHeartbeats 1000000 in
theorem parts_11 (w : World) : Calls Tryd.prog 31 #[.int .i64 11] w fun e w' => e = .returned (.tuple #[.agg #[.bool false, .bool false, .bool false, .bool true, .bool true, .bool true, .bool true], .bool true]) ∧ Upd [] w w' := by
  go_enter Tryd.func31, Tryd.ntmps31
  go_upto_block 0 with fail
  refine blk1 (fun Q0 h0 => ?_)
  refine blk_seq (fun Q15 h15 => ?_)
  refine blk_seq (fun Q14 h14 => ?_)
  refine blk_seq (fun Q13 h13 => ?_)
  refine blk_seq (fun Q12 h12 => ?_)
  refine blk_seq (fun Q11 h11 => ?_)
  refine blk_seq (fun Q10 h10 => ?_)
  refine blk_seq (fun Q9 h9 => ?_)
  refine blk_seq (fun Q8 h8 => ?_)
  refine blk_seq (fun Q7 h7 => ?_)
  refine blk_seq (fun Q6 h6 => ?_)
  refine blk_seq (fun Q5 h5 => ?_)
  refine blk_seq (fun Q4 h4 => ?_)
  refine blk_seq (fun Q3 h3 => ?_)
  refine blk_seq (fun Q2 h2 => ?_)
  refine blk_seq (fun Q1 h1 => ?_)
  go_wp2_with fail
  repeat ((first | (with_reducible refine h1.out _ _ _ ?_) | (with_reducible refine h2.out _ _ _ ?_) | (with_reducible refine h3.out _ _ _ ?_) | (with_reducible refine h4.out _ _ _ ?_) | (with_reducible refine h5.out _ _ _ ?_) | (with_reducible refine h6.out _ _ _ ?_) | (with_reducible refine h7.out _ _ _ ?_) | (with_reducible refine h8.out _ _ _ ?_) | (with_reducible refine h9.out _ _ _ ?_) | (with_reducible refine h10.out _ _ _ ?_) | (with_reducible refine h11.out _ _ _ ?_) | (with_reducible refine h12.out _ _ _ ?_) | (with_reducible refine h13.out _ _ _ ?_) | (with_reducible refine h14.out _ _ _ ?_) | (with_reducible refine h15.out _ _ _ ?_) | (with_reducible refine h0.out _ _ _ ?_)); (try simp only [Exit.inBlock, Exit.then, Nat.reduceEqDiff, if_true, if_false, ite_true, ite_false, reduceCtorEq]); (try go_wp2_with fail))
  exact bodyPost_ret (v := .tuple #[.agg #[.bool false, .bool false, .bool false, .bool true, .bool true, .bool true, .bool true], .bool true]) (by simp [results, Tryd.results31, go_sem]) rfl ⟨rfl, ((Upd.refl [] w).alloc _).alloc _⟩
set_option maxHeartbeats 1000000 in
theorem parts_12 (w : World) : Calls Tryd.prog 31 #[.int .i64 12] w fun e w' => e = .returned (.tuple #[.agg #[.bool false, .bool false, .bool false, .bool true, .bool false, .bool true, .bool false], .bool true]) ∧ Upd [] w w' := by
  go_enter Tryd.func31, Tryd.ntmps31
  go_upto_block 0 with fail
  refine blk1 (fun Q0 h0 => ?_)
  refine blk_seq (fun Q15 h15 => ?_)
  refine blk_seq (fun Q14 h14 => ?_)
  refine blk_seq (fun Q13 h13 => ?_)
  refine blk_seq (fun Q12 h12 => ?_)
  refine blk_seq (fun Q11 h11 => ?_)
  refine blk_seq (fun Q10 h10 => ?_)
  refine blk_seq (fun Q9 h9 => ?_)
  refine blk_seq (fun Q8 h8 => ?_)
  refine blk_seq (fun Q7 h7 => ?_)
  refine blk_seq (fun Q6 h6 => ?_)
  refine blk_seq (fun Q5 h5 => ?_)
  refine blk_seq (fun Q4 h4 => ?_)
  refine blk_seq (fun Q3 h3 => ?_)
  refine blk_seq (fun Q2 h2 => ?_)
  refine blk_seq (fun Q1 h1 => ?_)
  go_wp2_with fail
  repeat ((first | (with_reducible refine h1.out _ _ _ ?_) | (with_reducible refine h2.out _ _ _ ?_) | (with_reducible refine h3.out _ _ _ ?_) | (with_reducible refine h4.out _ _ _ ?_) | (with_reducible refine h5.out _ _ _ ?_) | (with_reducible refine h6.out _ _ _ ?_) | (with_reducible refine h7.out _ _ _ ?_) | (with_reducible refine h8.out _ _ _ ?_) | (with_reducible refine h9.out _ _ _ ?_) | (with_reducible refine h10.out _ _ _ ?_) | (with_reducible refine h11.out _ _ _ ?_) | (with_reducible refine h12.out _ _ _ ?_) | (with_reducible refine h13.out _ _ _ ?_) | (with_reducible refine h14.out _ _ _ ?_) | (with_reducible refine h15.out _ _ _ ?_) | (with_reducible refine h0.out _ _ _ ?_)); (try simp only [Exit.inBlock, Exit.then, Nat.reduceEqDiff, if_true, if_false, ite_true, ite_false, reduceCtorEq]); (try go_wp2_with fail))
  exact bodyPost_ret (v := .tuple #[.agg #[.bool false, .bool false, .bool false, .bool true, .bool false, .bool true, .bool false], .bool true]) (by simp [results, Tryd.results31, go_sem]) rfl ⟨rfl, ((Upd.refl [] w).alloc _).alloc _⟩
set_option maxHeartbeats 1000000 in
theorem parts_13 (w : World) : Calls Tryd.prog 31 #[.int .i64 13] w fun e w' => e = .returned (.tuple #[.agg #[.bool false, .bool false, .bool false, .bool false, .bool false, .bool true, .bool false], .bool true]) ∧ Upd [] w w' := by
  go_enter Tryd.func31, Tryd.ntmps31
  go_upto_block 0 with fail
  refine blk1 (fun Q0 h0 => ?_)
  refine blk_seq (fun Q15 h15 => ?_)
  refine blk_seq (fun Q14 h14 => ?_)
  refine blk_seq (fun Q13 h13 => ?_)
  refine blk_seq (fun Q12 h12 => ?_)
  refine blk_seq (fun Q11 h11 => ?_)
  refine blk_seq (fun Q10 h10 => ?_)
  refine blk_seq (fun Q9 h9 => ?_)
  refine blk_seq (fun Q8 h8 => ?_)
  refine blk_seq (fun Q7 h7 => ?_)
  refine blk_seq (fun Q6 h6 => ?_)
  refine blk_seq (fun Q5 h5 => ?_)
  refine blk_seq (fun Q4 h4 => ?_)
  refine blk_seq (fun Q3 h3 => ?_)
  refine blk_seq (fun Q2 h2 => ?_)
  refine blk_seq (fun Q1 h1 => ?_)
  go_wp2_with fail
  repeat ((first | (with_reducible refine h1.out _ _ _ ?_) | (with_reducible refine h2.out _ _ _ ?_) | (with_reducible refine h3.out _ _ _ ?_) | (with_reducible refine h4.out _ _ _ ?_) | (with_reducible refine h5.out _ _ _ ?_) | (with_reducible refine h6.out _ _ _ ?_) | (with_reducible refine h7.out _ _ _ ?_) | (with_reducible refine h8.out _ _ _ ?_) | (with_reducible refine h9.out _ _ _ ?_) | (with_reducible refine h10.out _ _ _ ?_) | (with_reducible refine h11.out _ _ _ ?_) | (with_reducible refine h12.out _ _ _ ?_) | (with_reducible refine h13.out _ _ _ ?_) | (with_reducible refine h14.out _ _ _ ?_) | (with_reducible refine h15.out _ _ _ ?_) | (with_reducible refine h0.out _ _ _ ?_)); (try simp only [Exit.inBlock, Exit.then, Nat.reduceEqDiff, if_true, if_false, ite_true, ite_false, reduceCtorEq]); (try go_wp2_with fail))
  exact bodyPost_ret (v := .tuple #[.agg #[.bool false, .bool false, .bool false, .bool false, .bool false, .bool true, .bool false], .bool true]) (by simp [results, Tryd.results31, go_sem]) rfl ⟨rfl, ((Upd.refl [] w).alloc _).alloc _⟩
set_option maxHeartbeats 1000000 in
theorem parts_14 (w : World) : Calls Tryd.prog 31 #[.int .i64 14] w fun e w' => e = .returned (.tuple #[.agg #[.bool false, .bool false, .bool false, .bool false, .bool false, .bool true, .bool true], .bool true]) ∧ Upd [] w w' := by
  go_enter Tryd.func31, Tryd.ntmps31
  go_upto_block 0 with fail
  refine blk1 (fun Q0 h0 => ?_)
  refine blk_seq (fun Q15 h15 => ?_)
  refine blk_seq (fun Q14 h14 => ?_)
  refine blk_seq (fun Q13 h13 => ?_)
  refine blk_seq (fun Q12 h12 => ?_)
  refine blk_seq (fun Q11 h11 => ?_)
  refine blk_seq (fun Q10 h10 => ?_)
  refine blk_seq (fun Q9 h9 => ?_)
  refine blk_seq (fun Q8 h8 => ?_)
  refine blk_seq (fun Q7 h7 => ?_)
  refine blk_seq (fun Q6 h6 => ?_)
  refine blk_seq (fun Q5 h5 => ?_)
  refine blk_seq (fun Q4 h4 => ?_)
  refine blk_seq (fun Q3 h3 => ?_)
  refine blk_seq (fun Q2 h2 => ?_)
  refine blk_seq (fun Q1 h1 => ?_)
  go_wp2_with fail
  repeat ((first | (with_reducible refine h1.out _ _ _ ?_) | (with_reducible refine h2.out _ _ _ ?_) | (with_reducible refine h3.out _ _ _ ?_) | (with_reducible refine h4.out _ _ _ ?_) | (with_reducible refine h5.out _ _ _ ?_) | (with_reducible refine h6.out _ _ _ ?_) | (with_reducible refine h7.out _ _ _ ?_) | (with_reducible refine h8.out _ _ _ ?_) | (with_reducible refine h9.out _ _ _ ?_) | (with_reducible refine h10.out _ _ _ ?_) | (with_reducible refine h11.out _ _ _ ?_) | (with_reducible refine h12.out _ _ _ ?_) | (with_reducible refine h13.out _ _ _ ?_) | (with_reducible refine h14.out _ _ _ ?_) | (with_reducible refine h15.out _ _ _ ?_) | (with_reducible refine h0.out _ _ _ ?_)); (try simp only [Exit.inBlock, Exit.then, Nat.reduceEqDiff, if_true, if_false, ite_true, ite_false, reduceCtorEq]); (try go_wp2_with fail))
  exact bodyPost_ret (v := .tuple #[.agg #[.bool false, .bool false, .bool false, .bool false, .bool false, .bool true, .bool true], .bool true]) (by simp [results, Tryd.results31, go_sem]) rfl ⟨rfl, ((Upd.refl [] w).alloc _).alloc _⟩
set_option maxHeartbeats 1000000 in
theorem parts_15 (w : World) : Calls Tryd.prog 31 #[.int .i64 15] w fun e w' => e = .returned (.tuple #[.agg #[.bool false, .bool false, .bool false, .bool false, .bool false, .bool false, .bool false], .bool true]) ∧ Upd [] w w' := by
  go_enter Tryd.func31, Tryd.ntmps31
  go_upto_block 0 with fail
  refine blk1 (fun Q0 h0 => ?_)
  refine blk_seq (fun Q15 h15 => ?_)
  refine blk_seq (fun Q14 h14 => ?_)
  refine blk_seq (fun Q13 h13 => ?_)
  refine blk_seq (fun Q12 h12 => ?_)
  refine blk_seq (fun Q11 h11 => ?_)
  refine blk_seq (fun Q10 h10 => ?_)
  refine blk_seq (fun Q9 h9 => ?_)
  refine blk_seq (fun Q8 h8 => ?_)
  refine blk_seq (fun Q7 h7 => ?_)
  refine blk_seq (fun Q6 h6 => ?_)
  refine blk_seq (fun Q5 h5 => ?_)
  refine blk_seq (fun Q4 h4 => ?_)
  refine blk_seq (fun Q3 h3 => ?_)
  refine blk_seq (fun Q2 h2 => ?_)
  refine blk_seq (fun Q1 h1 => ?_)
  go_wp2_with fail
  repeat ((first | (with_reducible refine h1.out _ _ _ ?_) | (with_reducible refine h2.out _ _ _ ?_) | (with_reducible refine h3.out _ _ _ ?_) | (with_reducible refine h4.out _ _ _ ?_) | (with_reducible refine h5.out _ _ _ ?_) | (with_reducible refine h6.out _ _ _ ?_) | (with_reducible refine h7.out _ _ _ ?_) | (with_reducible refine h8.out _ _ _ ?_) | (with_reducible refine h9.out _ _ _ ?_) | (with_reducible refine h10.out _ _ _ ?_) | (with_reducible refine h11.out _ _ _ ?_) | (with_reducible refine h12.out _ _ _ ?_) | (with_reducible refine h13.out _ _ _ ?_) | (with_reducible refine h14.out _ _ _ ?_) | (with_reducible refine h15.out _ _ _ ?_) | (with_reducible refine h0.out _ _ _ ?_)); (try simp only [Exit.inBlock, Exit.then, Nat.reduceEqDiff, if_true, if_false, ite_true, ite_false, reduceCtorEq]); (try go_wp2_with fail))
  exact bodyPost_ret (v := .tuple #[.agg #[.bool false, .bool false, .bool false, .bool false, .bool false, .bool false, .bool false], .bool true]) (by simp [results, Tryd.results31, go_sem]) rfl ⟨rfl, ((Upd.refl [] w).alloc _).alloc _⟩
set_option maxHeartbeats 1000000 in
theorem parts_16 (w : World) : Calls Tryd.prog 31 #[.int .i64 16] w fun e w' => e = .returned (.tuple #[.agg #[.bool false, .bool false, .bool false, .bool false, .bool false, .bool false, .bool false], .bool true]) ∧ Upd [] w w' := by
  go_enter Tryd.func31, Tryd.ntmps31
  go_upto_block 0 with fail
  refine blk1 (fun Q0 h0 => ?_)
  refine blk_seq (fun Q15 h15 => ?_)
  refine blk_seq (fun Q14 h14 => ?_)
  refine blk_seq (fun Q13 h13 => ?_)
  refine blk_seq (fun Q12 h12 => ?_)
  refine blk_seq (fun Q11 h11 => ?_)
  refine blk_seq (fun Q10 h10 => ?_)
  refine blk_seq (fun Q9 h9 => ?_)
  refine blk_seq (fun Q8 h8 => ?_)
  refine blk_seq (fun Q7 h7 => ?_)
  refine blk_seq (fun Q6 h6 => ?_)
  refine blk_seq (fun Q5 h5 => ?_)
  refine blk_seq (fun Q4 h4 => ?_)
  refine blk_seq (fun Q3 h3 => ?_)
  refine blk_seq (fun Q2 h2 => ?_)
  refine blk_seq (fun Q1 h1 => ?_)
  go_wp2_with fail
  repeat ((first | (with_reducible refine h1.out _ _ _ ?_) | (with_reducible refine h2.out _ _ _ ?_) | (with_reducible refine h3.out _ _ _ ?_) | (with_reducible refine h4.out _ _ _ ?_) | (with_reducible refine h5.out _ _ _ ?_) | (with_reducible refine h6.out _ _ _ ?_) | (with_reducible refine h7.out _ _ _ ?_) | (with_reducible refine h8.out _ _ _ ?_) | (with_reducible refine h9.out _ _ _ ?_) | (with_reducible refine h10.out _ _ _ ?_) | (with_reducible refine h11.out _ _ _ ?_) | (with_reducible refine h12.out _ _ _ ?_) | (with_reducible refine h13.out _ _ _ ?_) | (with_reducible refine h14.out _ _ _ ?_) | (with_reducible refine h15.out _ _ _ ?_) | (with_reducible refine h0.out _ _ _ ?_)); (try simp only [Exit.inBlock, Exit.then, Nat.reduceEqDiff, if_true, if_false, ite_true, ite_false, reduceCtorEq]); (try go_wp2_with fail))
  exact bodyPost_ret (v := .tuple #[.agg #[.bool false, .bool false, .bool false, .bool false, .bool false, .bool false, .bool false], .bool true]) (by simp [results, Tryd.results31, go_sem]) rfl ⟨rfl, ((Upd.refl [] w).alloc _).alloc _⟩
set_option maxHeartbeats 1000000 in
theorem parts_no (k : Int) (h1 : (k == 1) = false) (h2 : (k == 2) = false) (h3 : (k == 3) = false) (h4 : (k == 4) = false) (h5 : (k == 5) = false) (h6 : (k == 6) = false) (h7 : (k == 7) = false) (h8 : (k == 8) = false) (h9 : (k == 9) = false) (h10 : (k == 10) = false) (h11 : (k == 11) = false) (h12 : (k == 12) = false) (h13 : (k == 13) = false) (h14 : (k == 14) = false) (h15 : (k == 15) = false) (h16 : (k == 16) = false) (w : World) : Calls Tryd.prog 31 #[.int .i64 k] w fun e w' => e = .returned (.tuple #[.agg #[.bool false, .bool false, .bool false, .bool false, .bool false, .bool false, .bool false], .bool false]) ∧ Upd [] w w' := by
  go_enter Tryd.func31, Tryd.ntmps31
  go_upto_block 0 with fail
  refine blk1 (fun Q0 h0 => ?_)
  refine blk_seq (fun Q15 h15 => ?_)
  refine blk_seq (fun Q14 h14 => ?_)
  refine blk_seq (fun Q13 h13 => ?_)
  refine blk_seq (fun Q12 h12 => ?_)
  refine blk_seq (fun Q11 h11 => ?_)
  refine blk_seq (fun Q10 h10 => ?_)
  refine blk_seq (fun Q9 h9 => ?_)
  refine blk_seq (fun Q8 h8 => ?_)
  refine blk_seq (fun Q7 h7 => ?_)
  refine blk_seq (fun Q6 h6 => ?_)
  refine blk_seq (fun Q5 h5 => ?_)
  refine blk_seq (fun Q4 h4 => ?_)
  refine blk_seq (fun Q3 h3 => ?_)
  refine blk_seq (fun Q2 h2 => ?_)
  refine blk_seq (fun Q1 h1 => ?_)
  go_wp2_with fail
  repeat ((first | (with_reducible refine h1.out _ _ _ ?_) | (with_reducible refine h2.out _ _ _ ?_) | (with_reducible refine h3.out _ _ _ ?_) | (with_reducible refine h4.out _ _ _ ?_) | (with_reducible refine h5.out _ _ _ ?_) | (with_reducible refine h6.out _ _ _ ?_) | (with_reducible refine h7.out _ _ _ ?_) | (with_reducible refine h8.out _ _ _ ?_) | (with_reducible refine h9.out _ _ _ ?_) | (with_reducible refine h10.out _ _ _ ?_) | (with_reducible refine h11.out _ _ _ ?_) | (with_reducible refine h12.out _ _ _ ?_) | (with_reducible refine h13.out _ _ _ ?_) | (with_reducible refine h14.out _ _ _ ?_) | (with_reducible refine h15.out _ _ _ ?_) | (with_reducible refine h0.out _ _ _ ?_)); (try simp only [Exit.inBlock, Exit.then, Nat.reduceEqDiff, if_true, if_false, ite_true, ite_false, reduceCtorEq]); (try go_wp2_with fail))
  exact bodyPost_ret (v := .tuple #[.agg #[.bool false, .bool false, .bool false, .bool false, .bool false, .bool false, .bool false], .bool false]) (by simp [results, Tryd.results31, go_sem]) rfl ⟨rfl, ((Upd.refl [] w).alloc _).alloc _⟩
theorem parts_ok (k : Int) (w : World) : Calls Tryd.prog 31 #[.int .i64 k] w fun e w' => e = .returned (.tuple #[.agg #[.bool (pColl k), .bool (pOrd k), .bool (pReg k), .bool (pA k), .bool (pB k), .bool (pBody k), .bool (pElse k)], .bool (pIs k)]) ∧ Upd [] w w' := by
  by_cases h1 : k = 1
  · subst h1; exact parts_1 w
  by_cases h2 : k = 2
  · subst h2; exact parts_2 w
  by_cases h3 : k = 3
  · subst h3; exact parts_3 w
  by_cases h4 : k = 4
  · subst h4; exact parts_4 w
  by_cases h5 : k = 5
  · subst h5; exact parts_5 w
  by_cases h6 : k = 6
  · subst h6; exact parts_6 w
  by_cases h7 : k = 7
  · subst h7; exact parts_7 w
  by_cases h8 : k = 8
  · subst h8; exact parts_8 w
  by_cases h9 : k = 9
  · subst h9; exact parts_9 w
  by_cases h10 : k = 10
  · subst h10; exact parts_10 w
  by_cases h11 : k = 11
  · subst h11; exact parts_11 w
  by_cases h12 : k = 12
  · subst h12; exact parts_12 w
  by_cases h13 : k = 13
  · subst h13; exact parts_13 w
  by_cases h14 : k = 14
  · subst h14; exact parts_14 w
  by_cases h15 : k = 15
  · subst h15; exact parts_15 w
  by_cases h16 : k = 16
  · subst h16; exact parts_16 w
  have e : ∀ i : Int, ¬ k = i → (k == i) = false := fun i h => by simpa using h
  have hc : pColl k = false := by unfold pColl; simp; omega
  have ho : pOrd k = false := by unfold pOrd; simp; omega
  have hr : pReg k = false := by unfold pReg; simp; omega
  have ha : pA k = false := by unfold pA; simp; omega
  have hb : pB k = false := by unfold pB; simp; omega
  have hd : pBody k = false := by unfold pBody; simp; omega
  have he : pElse k = false := by unfold pElse; simp; omega
  have hi : pIs k = false := by unfold pIs; simp; omega
  rw [hc, ho, hr, ha, hb, hd, he, hi]
  exact parts_no k (e 1 h1) (e 2 h2) (e 3 h3) (e 4 h4) (e 5 h5) (e 6 h6) (e 7 h7) (e 8 h8) (e 9 h9) (e 10 h10) (e 11 h11) (e 12 h12) (e 13 h13) (e 14 h14) (e 15 h15) (e 16 h16) w
end Go.Proofs.YtfbeaklplefojaaDoor

/-
  slices.Clone of ints, maps.Clone; model.State: Kinds; one more map.
  model.New.
  concordref08.New.
  concordlaw08.Play: a state behind some calls.
  Plain laws of a state behind some calls, and of the least key, and of a range. No program in sight.
  What Both's puts lead to, plainly. No program in sight.
  concordref08.Pairs, Ints.
-/
import Derived.Test.YtfbeaklplefojaaGreatDoorEvB4
import Derived.Test.YtfbeaklplefojaaGreatDoorLayM
import Derived.Test.YtfbeaklplefojaaGreatDoorEvB7
import Derived.Laws.MakeOwn
import Derived.Test.YtfbeaklplefojaaGreatDoorEvBsMDo
import Derived.Test.YtfbeaklplefojaaGreatDoorEvB1
import Derived.Test.YtfbeaklplefojaaGreatDoorEvB9
import Derived.Test.YtfbeaklplefojaaGreatDoorEvB6
set_option linter.unusedVariables false
namespace Go.Proofs.YtfbeaklplefojaaGreatDoor
open Go.RowKit Assoc MP
attribute [local go_sem] litStep_value

theorem elem_int : Elem Tryz.prog 22 3 1 8 := .mk' (z := ((Tryz.prog.info? 3).bind (·.zero)).getD undef) Tryz.underlying22 (by kernel_rfl) (by kernel_rfl) (by omega)
theorem elem_map : Elem Tryz.prog 73 77 1 8 := .mk' (z := ((Tryz.prog.info? 77).bind (·.zero)).getD undef) Tryz.underlying73 (by kernel_rfl) (by kernel_rfl) (by omega)
def CloneKPost (xs : List Int) (w : World) (e : Ending) (w' : World) : Prop := ∃ v, e = .returned v ∧ Ow encK 3 w' w.heap.size v xs ∧ Upd [] w w'
set_option maxRecDepth 100000 in
set_option maxHeartbeats 1000000 in
theorem clone_ints (A : Option Addr) (n c : Nat) (xs : List Int) (w : World) (h : Rd encK w (.slice A n c) xs) (hn : xs.length = n) (hl : n ≤ 1000) :
    Calls Tryz.prog 40 #[.slice A n c] w fun e w' => CloneKPost xs w e w' := by
  have eq0 := @Lib.run_eql_slice_nil Tryz.prog
  have HN := Lib.hid hn
  have HSR : Hid (Src w 1 (.slice A n c) n (flat encK xs)) := Lib.hid (by have := h; unfold Rd at this; rw [hn] at this; exact this)
  cases A with
  | none =>
    have HL : Hid (xs = []) := Lib.hid (by
      cases xs with
      | nil => rfl
      | cons x xs =>
        obtain ⟨ad, e, _⟩ := h.at_ (k := 0) (a := x) rfl
        cases e)
    clear h hn
    go_enter Tryz.func40, Tryz.ntmps40
    go_wp2_with fail
    go_ret
    unfold CloneKPost
    rw [HL.out]
    exact ⟨_, rfl, Ow.nil _ _ _ _, .refl _ _⟩
  | some a =>
    clear h hn
    go_enter Tryz.func40, Tryz.ntmps40
    go_wp2_with (at_builtin; refine stopped ?_)
    refine Lib.hid ?_
    refine wpList_app _ (by rfl) (.tmp 5) (.tmp 6) _ (by rfl) elem_int _ _ (by rfl) (by rfl) (own_made (B := w.heap.size) 1 (Blk.new w 3 #[]) (Nat.le_refl _)) (HSR.out.upd0 ((Upd.refl [] w).alloc _)) flat_cells (by unfold maxLen; omega) (by omega) (by simp) ?_
    intro v2 w2 o2 u2 b2
    have U2 : Hid (Upd [] w w2) := Lib.hid (((Upd.refl [] w).alloc _).trans' u2 (by intro x hx; simp [Value.ownBlock] at hx; subst hx; exact .inr (Nat.le_refl _)))
    have O2 : Hid (Ow encK 3 w2 w.heap.size v2 xs) := Lib.hid (by unfold Ow; rw [HN.out]; rw [Nat.zero_add, List.nil_append] at o2; exact o2)
    clear o2 u2 b2
    go_wp2_with fail
    go_ret
    exact ⟨_, rfl, O2.out, U2.out⟩
theorem clone_map (m : Nat) (f : Int → Option Value) (n : Nat) (w : World) (h : IMap w .i64 m f n) :
    Calls Tryz.prog 41 #[.map (some m)] w fun e w' => e = .returned (.map (some w.heap.size)) ∧ IMap w' .i64 w.heap.size f n ∧ Upd [] w w' ∧ w'.heap.size = w.heap.size + 1 := by
  obtain ⟨L, c, hr, hf, hn⟩ := h
  refine (show Calls Tryz.prog 41 #[.map (some m)] w _ from AnyW.maps_Clone cloneM_lay m _ c w hr.blk).mono ?_
  rintro e w' ⟨rfl, rfl⟩
  exact ⟨rfl, ⟨L, c, ⟨(Go.MapKept.heap_alloc w _).1, hr.keys, hr.stamps, hr.lt⟩, hf, hn⟩, (Upd.refl [] w).alloc _, by simp⟩
theorem m_kinds (B sb : Nat) (F : List Nat) (s : MS) (w : World) (h : Mdl B sb F w s) :
    Calls Tryz.prog 24 #[.pointer (some ⟨sb, 0, none⟩)] w fun e w' => CloneKPost s.K w e w' := by
  have H := Lib.hid h
  obtain ⟨g, vk, gc, cc, ms, hF, h⟩ := h
  have HS := Lib.hid h
  have K8 := Lib.hid g.k8
  obtain ⟨Ak, ck, rfl, hnk, _⟩ := own_slice HS.out.k
  have c0 : w.cell? ⟨sb, 0, none⟩ = some (.slice Ak s.K.length ck) := HS.out.box.cell 0
  clear g hF h
  go_enter Tryz.func24, Tryz.ntmps24
  go_wp2_with fail
  refine (clone_ints Ak s.K.length ck s.K w HS.out.k.rd rfl (by have := K8.out; omega)).mono ?_
  rintro e w1 ⟨v, rfl, o1, u1⟩
  have O1 := Lib.hid o1
  have U1 := Lib.hid u1
  clear o1 u1
  go_wp2_with fail
  go_ret
  exact ⟨_, rfl, O1.out, U1.out⟩
/-- One more map. -/
theorem MdlSt.push {B sb gc cc gc' cc' m : Nat} {vk : Value} {ms : List Nat} {w w' : World} {s : MS} {l : AL} (h : MdlSt B sb vk gc cc ms w s) (hu : Upd [sb, gc] w w') (hb : Blk w' sb 75 #[vk, .slice (some ⟨gc', 0, none⟩) (s.L.length + 1) cc'])
    (hc : w'.ownsRow B 77 1 (.slice (some ⟨gc', 0, none⟩) (s.L.length + 1) cc') (s.L.length + 1) (mapsV ms ++ [.map (some m)])) (hm : IMap w' .i64 m (mapI l) l.length) (hw : w.heap.size ≤ m) (hB : B ≤ m) : MdlSt B sb vk gc' cc' (ms ++ [m]) w' { s with L := s.L ++ [l] } := by
  have e : ({ s with L := s.L ++ [l] } : MS).L.length = s.L.length + 1 := by simp
  have hlt : ∀ k ∈ ms, k < w.heap.size := fun k hk => (h.lt k (by unfold fpM; simp [hk])).2
  refine ⟨by rw [e]; exact hb, h.k.upd hu fun b hb => ?_, by rw [e]; unfold mapsV at hc ⊢; rw [List.map_append]; exact hc, fun i m' l' hi hl => ?_, ?_, h.bs, fun k hk => ?_⟩
  · simp
    exact ⟨fun e => own_type h.k h.box (by decide) (e ▸ hb), fun e => by
      subst e
      rcases h.k.2 with ⟨e1, _⟩ | ⟨g, cap, cur, e1, _, hg, _⟩
      · rw [e1] at hb; simp [Value.ownBlock] at hb
      · rw [e1] at hb
        simp only [Value.ownBlock, Option.some.injEq] at hb
        subst hb
        exact own_type h.c hg (by decide) rfl⟩
  · have hl' : (s.L ++ [l])[i]? = some l' := hl
    rw [List.getElem?_append] at hi hl'
    rw [h.mlen] at hi
    split at hi
    · rename_i hlt'
      rw [if_pos hlt'] at hl'
      refine (h.each i m' l' hi hl').upd hu ?_
      have hmm := h.each i m' l' hi hl'
      simp
      exact ⟨fun e => blk_map h.box hmm e.symm, fun e => own_map h.c hmm (by rw [e]; rfl)⟩
    · rename_i hlt'
      rw [if_neg hlt'] at hl'
      cases hz : i - s.L.length with
      | zero =>
        rw [hz] at hi hl'
        simp at hi hl'
        subst hi hl'
        exact hm
      | succ z =>
        rw [hz] at hi
        simp at hi
  · rw [List.nodup_append]
    refine ⟨h.nd, by simp, fun a ha b hb => ?_⟩
    simp at hb
    subst hb
    have := hlt a ha
    omega
  · rcases List.mem_append.1 hk with hk | hk
    · exact h.bm k hk
    · simp at hk
      subst hk
      exact hB
end Go.Proofs.YtfbeaklplefojaaGreatDoor

namespace Go.Proofs.YtfbeaklplefojaaGreatDoor
open Go.RowKit Assoc MP
attribute [local go_sem] litStep_value

def kOk (k : Int) : Bool := decide (1 ≤ k ∧ k ≤ 3)
/-- The first kind that may not be. -/
def badK (xs : List Int) : Option Nat := xs.findIdx? (fun k => !kOk k)
def newS (xs : List Int) : MS := ⟨xs, List.replicate xs.length []⟩
theorem good_newS {xs : List Int} (h : xs.length ≤ 8) : MP.Good (newS xs) := by
  refine ⟨by simp [newS], fun l hl => ?_, fun l hl => ?_, h, fun l hl => ?_⟩ <;> (have := List.eq_of_mem_replicate hl; subst this)
  · exact .nil
  · simp
  · simp
theorem badK_at {xs : List Int} {k : Nat} (h : ∀ j, j < k → kOk (xs.getD j 0) = true) {y : Int} (hy : xs[k]? = some y) (hb : kOk y = false) : badK xs = some k := by
  unfold badK
  obtain ⟨hk, rfl⟩ := List.getElem?_eq_some_iff.1 hy
  rw [List.findIdx?_eq_some_iff_getElem]
  refine ⟨hk, by simp [hb], fun j hj => ?_⟩
  have := h j hj
  rw [List.getD_eq_getElem?_getD, List.getElem?_eq_getElem (by omega)] at this
  simpa using this
theorem badK_no {xs : List Int} (h : ∀ j, j < xs.length → kOk (xs.getD j 0) = true) : badK xs = none := by
  unfold badK
  rw [List.findIdx?_eq_none_iff]
  intro x hx
  obtain ⟨j, hj, rfl⟩ := List.getElem_of_mem hx
  have := h j hj
  rw [List.getD_eq_getElem?_getD, List.getElem?_eq_getElem hj] at this
  simpa using this
def MNewPost (xs : List Int) (w : World) (e : Ending) (w' : World) : Prop := Upd [] w w' ∧
  ((∃ i g, badK xs = some i ∧ e = .returned (.tuple #[.pointer none, .iface 96 (.pointer (some ⟨g, 0, none⟩))]) ∧ Blk w' g 98 #[.int .i64 ((i : Int) + 1), .int .i64 17]) ∨
   (badK xs = none ∧ 8 < xs.length ∧ e = .returned (.tuple #[.pointer none, .iface 63 (.int .i64 8)])) ∨
   (badK xs = none ∧ xs.length ≤ 8 ∧ ∃ sb F, e = .returned (.tuple #[.pointer (some ⟨sb, 0, none⟩), .nilIface]) ∧ Mdl w.heap.size sb F w' (newS xs)))
set_option maxRecDepth 100000 in
set_option maxHeartbeats 4000000 in
theorem m_new (A : Option Addr) (n c : Nat) (xs : List Int) (w : World) (h : Rd encK w (.slice A n c) xs) (hn : xs.length = n) (hl : n ≤ 1000) :
    Calls Tryz.prog 21 #[.slice A n c] w fun e w' => MNewPost xs w e w' := by
  have hm1 : ∀ w, (Instr.makeMap 77 none).run Tryz.prog w = .ok (.map (some w.heap.size)) (w.alloc (.map #[] 0)) := fun _ => by kernel_rfl
  have HR := Lib.hid h
  have HN := Lib.hid hn
  clear h hn
  go_enter Tryz.func21, Tryz.ntmps21
  go_wp2_with fail
  refine (clone_ints A n c xs w HR.out HN.out hl).mono ?_
  rintro e w1 ⟨v, rfl, o1, u1⟩
  obtain ⟨A1, k1, rfl, _, _⟩ := own_slice o1
  have O1 := Lib.hid o1
  have U1 := Lib.hid u1
  clear o1 u1
  obtain ⟨nk, hnk⟩ : ∃ nk, xs.length = nk := ⟨_, rfl⟩
  rw [hnk] at O1 ⊢
  have HNK := Lib.hid hnk
  clear hnk
  have UX : Hid (Upd [] w1 ((w1.alloc (.cells #[] 77)).alloc (.cells #[.slice A1 nk k1, .slice (some ⟨w1.heap.size, 0, none⟩) 0 0] 75))) := Lib.hid (((Upd.refl [] w1).alloc _).alloc _)
  have h2 : (w1.alloc (.cells #[] 77)).heap.size = w1.heap.size + 1 := by simp
  have C0 : Hid (MdlSt w.heap.size (w1.heap.size + 1) (.slice A1 nk k1) w1.heap.size 0 [] ((w1.alloc (.cells #[] 77)).alloc (.cells #[.slice A1 nk k1, .slice (some ⟨w1.heap.size, 0, none⟩) 0 0] 75)) ⟨xs, List.replicate 0 []⟩) := Lib.hid ⟨Blk.newAt 75 _ h2, O1.out.upd0 UX.out, own_made 1 ((Blk.new w1 77 #[]).upd ((Upd.refl [] _).alloc _) (by simp)) U1.out.size, by simp, .nil, by have := U1.out.size; omega, by simp⟩
  go_wp2_with fail
  generalize ((w1.alloc (.cells #[] 77)).alloc (.cells #[.slice A1 nk k1, .slice (some ⟨w1.heap.size, 0, none⟩) 0 0] 75)) = w2 at *
  have U2 := Lib.hid (U1.out.trans UX.out)
  obtain ⟨ob, hob⟩ : ∃ ob, w1.heap.size + 1 = ob := ⟨_, rfl⟩
  rw [hob] at C0
  try rw [h2]
  try rw [hob]
  clear h2 hob UX
  go_loopw [14] (fun v wr => ∃ k : Nat, v = .int .i64 k ∧ k ≤ n ∧ Hid (∀ j, j < k → kOk (xs.getD j 0) = true) ∧ Hid ((∃ gc1 cc1 ms1, MdlSt w.heap.size ob (.slice A1 nk k1) gc1 cc1 ms1 wr ⟨xs, List.replicate k []⟩) ∧ Upd [] w wr)) (fun v _ => n - (intOf v).toNat)
  case atStart => exact ⟨0, rfl, by omega, Lib.hid (fun j hj => by omega), Lib.hid ⟨⟨_, _, _, C0.out⟩, U2.out⟩⟩
  case round =>
    obtain ⟨k, rfl, hk, HOK, HK⟩ := hrel
    obtain ⟨⟨gc1, cc1, ms1, hst⟩, hu⟩ := HK.out
    rename World => wi
    have ST := Lib.hid hst
    have UI := Lib.hid hu
    have OB : Hid (Blk wi ob 75 #[.slice A1 nk k1, .slice (some ⟨gc1, 0, none⟩) k cc1]) := Lib.hid (by have := hst.box; rwa [show (⟨xs, List.replicate k []⟩ : MS).L.length = k by simp] at this)
    have ON : Hid (wi.ownsRow w.heap.size 77 1 (.slice (some ⟨gc1, 0, none⟩) k cc1) k (mapsV ms1)) := Lib.hid (by have := hst.c; rwa [show (⟨xs, List.replicate k []⟩ : MS).L.length = k by simp] at this)
    clear HK hst hu C0
    by_cases hkn : k < n
    · obtain ⟨y, hy⟩ : ∃ y, xs[k]? = some y := ⟨_, List.getElem?_eq_getElem (by rw [HN.out]; exact hkn)⟩
      obtain ⟨ad, rfl, hlt, hcells⟩ := (HR.out.upd0 UI.out).at_ hy
      have e0 : wi.cell? (ad.add k) = some (.int .i64 y) := by have := hcells 0 _ rfl; rwa [show k * encK.s + 0 = k by simp [encI]] at this
      have HY := Lib.hid hy
      have q1 : (0 : Int) ≤ (k : Int) := by omega
      have q2 : (k : Int) < (n : Int) := by omega
      clear hy hcells
      by_cases h1 : y = 1
      · have d1 : (y == 1) = true := by simpa using h1
        have HOKY : Hid (kOk y = true) := Lib.hid (by rw [h1]; rfl)
        clear h1
        have HO2 : Hid (∀ j, j < k + 1 → kOk (xs.getD j 0) = true) := Lib.hid (fun j hj => by
          rcases Nat.lt_or_ge j k with h1 | h1
          · exact HOK.out j h1
          · obtain rfl : j = k := by omega
            rw [List.getD_eq_getElem?_getD, HY.out]
            exact HOKY.out)
        have y1 : wi.cell? ⟨ob, 1, none⟩ = some (.slice (some ⟨gc1, 0, none⟩) k cc1) := OB.out.cell 1
        go_wp2_with (at_builtin; refine stopped ?_)
        refine Lib.hid ?_
        refine wpList_app _ (by rfl) (.tmp 29) (.tmp 31) _ (by rfl) elem_map (.slice (some ⟨gc1, 0, none⟩) k cc1) _ (by rfl) (by rfl) (own_upd0 ON.out (((Upd.refl [] wi).alloc (.map #[] 0)).alloc (.cells #[.map (some wi.heap.size)] 77))) (.of_blk (Blk.newAt 77 #[.map (some wi.heap.size)] (H := wi.heap.size + 1) (by simp)) (m := 1) 1 rfl) (by intro u hu; simp at hu; subst hu; rfl) (by simp only [maxLen]; omega) (by omega) (Nat.le_trans UI.out.size (by simp; omega)) ?_
        intro v7 w7 o7 u7 b7
        have U6 : Hid (Upd [] wi ((wi.alloc (.map #[] 0)).alloc (.cells #[.map (some wi.heap.size)] 77))) := Lib.hid (((Upd.refl [] wi).alloc _).alloc _)
        have IM6 : Hid (IMap ((wi.alloc (.map #[] 0)).alloc (.cells #[.map (some wi.heap.size)] 77)) .i64 wi.heap.size (mapI []) 0) := Lib.hid (((IMap.new wi .i64).upd ((Upd.refl [] _).alloc _) (by simp)).congr (fun _ => rfl))
        have O7 : Hid (w7.ownsRow w.heap.size 77 1 v7 (k + 1) (mapsV ms1 ++ [.map (some wi.heap.size)])) := Lib.hid o7
        have U7 := Lib.hid u7
        obtain ⟨g7, cg7, cur7, rfl, _⟩ := own_form O7.out (by omega)
        have OB7 := Lib.hid ((OB.out.upd U6.out (by simp)).upd u7 (by intro hm; exact own_type ON.out OB.out (by decide) (by simpa using hm)))
        clear o7 u7 b7 y1 e0
        have z3 : w7.cell? ⟨ob, 1, none⟩ = some (.slice (some ⟨gc1, 0, none⟩) k cc1) := OB7.out.cell 1
        have z4 : w7.frozen? ⟨ob, 1, none⟩ = false := OB7.out.frozen 1
        have z5 : ob < w7.heap.size := OB7.out.lt
        have U8 : Hid (Upd [ob] w7 (w7.setCell ⟨ob, 1, none⟩ (.slice (some ⟨g7, 0, none⟩) (k + 1) cg7))) := Lib.hid ((Upd.refl [ob] w7).setCell (.inl (by simp)) _)
        have ST8 : Hid (∃ gc1 cc1 ms1, MdlSt w.heap.size ob (.slice A1 nk k1) gc1 cc1 ms1 (w7.setCell ⟨ob, 1, none⟩ (.slice (some ⟨g7, 0, none⟩) (k + 1) cg7)) ⟨xs, List.replicate (k + 1) []⟩) := Lib.hid (by
          have UT : Upd [ob, gc1] wi (w7.setCell ⟨ob, 1, none⟩ (.slice (some ⟨g7, 0, none⟩) (k + 1) cg7)) := ((U6.out.mono (by simp)).trans (U7.out.mono (by intro y hy; simp [Value.ownBlock] at hy; subst hy; exact .inl (by simp)))).trans (U8.out.mono (by simp))
          have IMX : IMap (w7.setCell ⟨ob, 1, none⟩ (.slice (some ⟨g7, 0, none⟩) (k + 1) cg7)) .i64 wi.heap.size (mapI []) ([] : AL).length := by
            have im7 := IM6.out.upd U7.out (by simp [Value.ownBlock]; intro e; have := (own_lt ON.out (b := gc1) rfl).2; omega)
            exact im7.upd U8.out (by simp; intro e; have := OB.out.lt; omega)
          have hp := ST.out.push (m := wi.heap.size) (l := []) (gc' := g7) (cc' := cg7) UT (by rw [show (⟨xs, List.replicate k []⟩ : MS).L.length = k by simp]; exact OB7.out.set_eq rfl) (by rw [show (⟨xs, List.replicate k []⟩ : MS).L.length = k by simp]; exact own_upd O7.out U8.out (by intro b hb; simp; rintro rfl; exact own_type O7.out OB7.out (by decide) hb)) IMX (Nat.le_refl _) UI.out.size
          rw [List.replicate_succ']
          exact ⟨_, _, _, hp⟩)
        have UI8 : Hid (Upd [] w (w7.setCell ⟨ob, 1, none⟩ (.slice (some ⟨g7, 0, none⟩) (k + 1) cg7))) := Lib.hid (by
          have h1 := (UI.out.trans U6.out).trans' U7.out (fun x hx => .inr (own_lt ON.out (by simpa using hx)).1)
          exact h1.trans' U8.out (fun x hx => by simp at hx; subst hx; exact .inr ST.out.bs))
        go_wp2_with fail
        go_roundw
        case rel => exact ⟨k + 1, by go_num, by omega, HO2, Lib.hid ⟨ST8.out, UI8.out⟩⟩
        case measure => simp [intOf]; omega
      have d1 : (y == 1) = false := by simpa using h1
      by_cases h2 : y = 2
      · have d2 : (y == 2) = true := by simpa using h2
        have HOKY : Hid (kOk y = true) := Lib.hid (by rw [h2]; rfl)
        clear h1 h2
        have HO2 : Hid (∀ j, j < k + 1 → kOk (xs.getD j 0) = true) := Lib.hid (fun j hj => by
          rcases Nat.lt_or_ge j k with h1 | h1
          · exact HOK.out j h1
          · obtain rfl : j = k := by omega
            rw [List.getD_eq_getElem?_getD, HY.out]
            exact HOKY.out)
        have y1 : wi.cell? ⟨ob, 1, none⟩ = some (.slice (some ⟨gc1, 0, none⟩) k cc1) := OB.out.cell 1
        go_wp2_with (at_builtin; refine stopped ?_)
        refine Lib.hid ?_
        refine wpList_app _ (by rfl) (.tmp 29) (.tmp 31) _ (by rfl) elem_map (.slice (some ⟨gc1, 0, none⟩) k cc1) _ (by rfl) (by rfl) (own_upd0 ON.out (((Upd.refl [] wi).alloc (.map #[] 0)).alloc (.cells #[.map (some wi.heap.size)] 77))) (.of_blk (Blk.newAt 77 #[.map (some wi.heap.size)] (H := wi.heap.size + 1) (by simp)) (m := 1) 1 rfl) (by intro u hu; simp at hu; subst hu; rfl) (by simp only [maxLen]; omega) (by omega) (Nat.le_trans UI.out.size (by simp; omega)) ?_
        intro v7 w7 o7 u7 b7
        have U6 : Hid (Upd [] wi ((wi.alloc (.map #[] 0)).alloc (.cells #[.map (some wi.heap.size)] 77))) := Lib.hid (((Upd.refl [] wi).alloc _).alloc _)
        have IM6 : Hid (IMap ((wi.alloc (.map #[] 0)).alloc (.cells #[.map (some wi.heap.size)] 77)) .i64 wi.heap.size (mapI []) 0) := Lib.hid (((IMap.new wi .i64).upd ((Upd.refl [] _).alloc _) (by simp)).congr (fun _ => rfl))
        have O7 : Hid (w7.ownsRow w.heap.size 77 1 v7 (k + 1) (mapsV ms1 ++ [.map (some wi.heap.size)])) := Lib.hid o7
        have U7 := Lib.hid u7
        obtain ⟨g7, cg7, cur7, rfl, _⟩ := own_form O7.out (by omega)
        have OB7 := Lib.hid ((OB.out.upd U6.out (by simp)).upd u7 (by intro hm; exact own_type ON.out OB.out (by decide) (by simpa using hm)))
        clear o7 u7 b7 y1 e0
        have z3 : w7.cell? ⟨ob, 1, none⟩ = some (.slice (some ⟨gc1, 0, none⟩) k cc1) := OB7.out.cell 1
        have z4 : w7.frozen? ⟨ob, 1, none⟩ = false := OB7.out.frozen 1
        have z5 : ob < w7.heap.size := OB7.out.lt
        have U8 : Hid (Upd [ob] w7 (w7.setCell ⟨ob, 1, none⟩ (.slice (some ⟨g7, 0, none⟩) (k + 1) cg7))) := Lib.hid ((Upd.refl [ob] w7).setCell (.inl (by simp)) _)
        have ST8 : Hid (∃ gc1 cc1 ms1, MdlSt w.heap.size ob (.slice A1 nk k1) gc1 cc1 ms1 (w7.setCell ⟨ob, 1, none⟩ (.slice (some ⟨g7, 0, none⟩) (k + 1) cg7)) ⟨xs, List.replicate (k + 1) []⟩) := Lib.hid (by
          have UT : Upd [ob, gc1] wi (w7.setCell ⟨ob, 1, none⟩ (.slice (some ⟨g7, 0, none⟩) (k + 1) cg7)) := ((U6.out.mono (by simp)).trans (U7.out.mono (by intro y hy; simp [Value.ownBlock] at hy; subst hy; exact .inl (by simp)))).trans (U8.out.mono (by simp))
          have IMX : IMap (w7.setCell ⟨ob, 1, none⟩ (.slice (some ⟨g7, 0, none⟩) (k + 1) cg7)) .i64 wi.heap.size (mapI []) ([] : AL).length := by
            have im7 := IM6.out.upd U7.out (by simp [Value.ownBlock]; intro e; have := (own_lt ON.out (b := gc1) rfl).2; omega)
            exact im7.upd U8.out (by simp; intro e; have := OB.out.lt; omega)
          have hp := ST.out.push (m := wi.heap.size) (l := []) (gc' := g7) (cc' := cg7) UT (by rw [show (⟨xs, List.replicate k []⟩ : MS).L.length = k by simp]; exact OB7.out.set_eq rfl) (by rw [show (⟨xs, List.replicate k []⟩ : MS).L.length = k by simp]; exact own_upd O7.out U8.out (by intro b hb; simp; rintro rfl; exact own_type O7.out OB7.out (by decide) hb)) IMX (Nat.le_refl _) UI.out.size
          rw [List.replicate_succ']
          exact ⟨_, _, _, hp⟩)
        have UI8 : Hid (Upd [] w (w7.setCell ⟨ob, 1, none⟩ (.slice (some ⟨g7, 0, none⟩) (k + 1) cg7))) := Lib.hid (by
          have h1 := (UI.out.trans U6.out).trans' U7.out (fun x hx => .inr (own_lt ON.out (by simpa using hx)).1)
          exact h1.trans' U8.out (fun x hx => by simp at hx; subst hx; exact .inr ST.out.bs))
        go_wp2_with fail
        go_roundw
        case rel => exact ⟨k + 1, by go_num, by omega, HO2, Lib.hid ⟨ST8.out, UI8.out⟩⟩
        case measure => simp [intOf]; omega
      have d2 : (y == 2) = false := by simpa using h2
      by_cases h3 : y = 3
      · have d3 : (y == 3) = true := by simpa using h3
        have HOKY : Hid (kOk y = true) := Lib.hid (by rw [h3]; rfl)
        clear h1 h2 h3
        have HO2 : Hid (∀ j, j < k + 1 → kOk (xs.getD j 0) = true) := Lib.hid (fun j hj => by
          rcases Nat.lt_or_ge j k with h1 | h1
          · exact HOK.out j h1
          · obtain rfl : j = k := by omega
            rw [List.getD_eq_getElem?_getD, HY.out]
            exact HOKY.out)
        have y1 : wi.cell? ⟨ob, 1, none⟩ = some (.slice (some ⟨gc1, 0, none⟩) k cc1) := OB.out.cell 1
        go_wp2_with (at_builtin; refine stopped ?_)
        refine Lib.hid ?_
        refine wpList_app _ (by rfl) (.tmp 29) (.tmp 31) _ (by rfl) elem_map (.slice (some ⟨gc1, 0, none⟩) k cc1) _ (by rfl) (by rfl) (own_upd0 ON.out (((Upd.refl [] wi).alloc (.map #[] 0)).alloc (.cells #[.map (some wi.heap.size)] 77))) (.of_blk (Blk.newAt 77 #[.map (some wi.heap.size)] (H := wi.heap.size + 1) (by simp)) (m := 1) 1 rfl) (by intro u hu; simp at hu; subst hu; rfl) (by simp only [maxLen]; omega) (by omega) (Nat.le_trans UI.out.size (by simp; omega)) ?_
        intro v7 w7 o7 u7 b7
        have U6 : Hid (Upd [] wi ((wi.alloc (.map #[] 0)).alloc (.cells #[.map (some wi.heap.size)] 77))) := Lib.hid (((Upd.refl [] wi).alloc _).alloc _)
        have IM6 : Hid (IMap ((wi.alloc (.map #[] 0)).alloc (.cells #[.map (some wi.heap.size)] 77)) .i64 wi.heap.size (mapI []) 0) := Lib.hid (((IMap.new wi .i64).upd ((Upd.refl [] _).alloc _) (by simp)).congr (fun _ => rfl))
        have O7 : Hid (w7.ownsRow w.heap.size 77 1 v7 (k + 1) (mapsV ms1 ++ [.map (some wi.heap.size)])) := Lib.hid o7
        have U7 := Lib.hid u7
        obtain ⟨g7, cg7, cur7, rfl, _⟩ := own_form O7.out (by omega)
        have OB7 := Lib.hid ((OB.out.upd U6.out (by simp)).upd u7 (by intro hm; exact own_type ON.out OB.out (by decide) (by simpa using hm)))
        clear o7 u7 b7 y1 e0
        have z3 : w7.cell? ⟨ob, 1, none⟩ = some (.slice (some ⟨gc1, 0, none⟩) k cc1) := OB7.out.cell 1
        have z4 : w7.frozen? ⟨ob, 1, none⟩ = false := OB7.out.frozen 1
        have z5 : ob < w7.heap.size := OB7.out.lt
        have U8 : Hid (Upd [ob] w7 (w7.setCell ⟨ob, 1, none⟩ (.slice (some ⟨g7, 0, none⟩) (k + 1) cg7))) := Lib.hid ((Upd.refl [ob] w7).setCell (.inl (by simp)) _)
        have ST8 : Hid (∃ gc1 cc1 ms1, MdlSt w.heap.size ob (.slice A1 nk k1) gc1 cc1 ms1 (w7.setCell ⟨ob, 1, none⟩ (.slice (some ⟨g7, 0, none⟩) (k + 1) cg7)) ⟨xs, List.replicate (k + 1) []⟩) := Lib.hid (by
          have UT : Upd [ob, gc1] wi (w7.setCell ⟨ob, 1, none⟩ (.slice (some ⟨g7, 0, none⟩) (k + 1) cg7)) := ((U6.out.mono (by simp)).trans (U7.out.mono (by intro y hy; simp [Value.ownBlock] at hy; subst hy; exact .inl (by simp)))).trans (U8.out.mono (by simp))
          have IMX : IMap (w7.setCell ⟨ob, 1, none⟩ (.slice (some ⟨g7, 0, none⟩) (k + 1) cg7)) .i64 wi.heap.size (mapI []) ([] : AL).length := by
            have im7 := IM6.out.upd U7.out (by simp [Value.ownBlock]; intro e; have := (own_lt ON.out (b := gc1) rfl).2; omega)
            exact im7.upd U8.out (by simp; intro e; have := OB.out.lt; omega)
          have hp := ST.out.push (m := wi.heap.size) (l := []) (gc' := g7) (cc' := cg7) UT (by rw [show (⟨xs, List.replicate k []⟩ : MS).L.length = k by simp]; exact OB7.out.set_eq rfl) (by rw [show (⟨xs, List.replicate k []⟩ : MS).L.length = k by simp]; exact own_upd O7.out U8.out (by intro b hb; simp; rintro rfl; exact own_type O7.out OB7.out (by decide) hb)) IMX (Nat.le_refl _) UI.out.size
          rw [List.replicate_succ']
          exact ⟨_, _, _, hp⟩)
        have UI8 : Hid (Upd [] w (w7.setCell ⟨ob, 1, none⟩ (.slice (some ⟨g7, 0, none⟩) (k + 1) cg7))) := Lib.hid (by
          have h1 := (UI.out.trans U6.out).trans' U7.out (fun x hx => .inr (own_lt ON.out (by simpa using hx)).1)
          exact h1.trans' U8.out (fun x hx => by simp at hx; subst hx; exact .inr ST.out.bs))
        go_wp2_with fail
        go_roundw
        case rel => exact ⟨k + 1, by go_num, by omega, HO2, Lib.hid ⟨ST8.out, UI8.out⟩⟩
        case measure => simp [intOf]; omega
      have d3 : (y == 3) = false := by simpa using h3
      have HBK : Hid (badK xs = some k) := Lib.hid (badK_at HOK.out HY.out (by unfold kOk; rw [decide_eq_false_iff_not]; omega))
      clear h1 h2 h3
      go_wp2_with fail
      go_ret2
      unfold MNewPost
      exact ⟨UI.out.trans ((Upd.refl [] wi).alloc _), .inl ⟨k, _, HBK.out, rfl, Blk.new wi _ _⟩⟩
    · obtain rfl : k = n := by omega
      have HBN : Hid (badK xs = none) := Lib.hid (badK_no (by rw [HN.out]; exact HOK.out))
      by_cases h8 : 8 < k
      · have d : decide ((8 : Int) < (k : Int)) = true := by simp; omega
        go_wp2_with fail
        go_ret2
        unfold MNewPost
        exact ⟨UI.out, .inr (.inl ⟨HBN.out, by rw [HN.out]; exact h8, rfl⟩)⟩
      · have d : decide ((8 : Int) < (k : Int)) = false := by simp; omega
        go_wp2_with fail
        go_ret2
        unfold MNewPost
        have e1 : (⟨xs, List.replicate k []⟩ : MS) = newS xs := by unfold newS; rw [HN.out]
        have hst := ST.out
        rw [e1] at hst
        exact ⟨UI.out, .inr (.inr ⟨HBN.out, by rw [HN.out]; omega, ob, _, rfl, good_newS (by rw [HN.out]; omega), _, _, _, _, rfl, hst⟩)⟩
end Go.Proofs.YtfbeaklplefojaaGreatDoor

namespace Go.Proofs.YtfbeaklplefojaaGreatDoor
open Go.RowKit Assoc MP
attribute [local go_sem] litStep_value

theorem prs_info : (Tryz.prog.info? 52).map (fun i => (i.zero, i.size, i.bytes)) = some (some (.slice none 0 0), 1, 24) := by kernel_rfl
theorem run_makePrs (w : World) (n : Nat) (hn : n ≤ 1000) : (Instr.makeSlice 81 (.int .i64 n) (.int .i64 n)).run Tryz.prog w = .ok (.slice (some ⟨w.heap.size, 0, none⟩) n n) (w.alloc (.cells (madeCells #[Value.slice none 0 0] n) 52)) := by
  obtain ⟨i0, hi0, hz0, hz1, hz2⟩ := info_parts prs_info
  have h := run_make (P := Tryz.prog) w 81 52 i0 _ Tryz.underlying81 hi0 hz0 .i64 .i64 n n (by omega) (by omega) (by rw [hz2]; omega) (by omega)
  rw [hz1] at h
  simpa [Value.cells] using h
theorem madePrs (n : Nat) : (madeCells #[Value.slice none 0 0] n).toList = List.replicate n (.slice none 0 0) := by
  apply List.ext_getElem
  · simp [madeCells]
  · intro i h1 h2
    simp [madeCells, Nat.mod_one]
theorem own_madePrs (w : World) (B n : Nat) (hB : B ≤ w.heap.size) (hn : n ≤ 1000) : (w.alloc (.cells (madeCells #[Value.slice none 0 0] n) 52)).ownsRow B 52 1 (.slice (some ⟨w.heap.size, 0, none⟩) n n) n (List.replicate n (.slice none 0 0)) := by
  refine ⟨by simp, .inr ⟨w.heap.size, n, _, rfl, hB, Blk.new w _ _, Nat.le_refl _, by simp only [maxLen]; omega, by simp [size_madeCells], ?_⟩⟩
  rw [madePrs, List.take_of_length_le (by simp)]
theorem rmst_new {B rb n c d : Nat} {A A' : Option Addr} {xs : List Int} {w : World} (hn : xs.length = n) (hb : Blk w rb 83 #[.slice A n c, .slice A' n d]) (hk : Ow encK 3 w B (.slice A n c) xs) (hl : w.ownsRow B 52 1 (.slice A' n d) n (List.replicate n (.slice none 0 0))) (hB : B ≤ rb) :
    RMSt B rb (.slice A n c) (.slice A' n d) (List.replicate n (.slice none 0 0)) w (newS xs) := by
  refine ⟨hb, hk, by show w.ownsRow B _ 1 _ (List.replicate xs.length ([] : AL)).length _; rw [List.length_replicate, hn]; exact hl, fun i v l hv hx => ?_, hB⟩
  have h1 : v = .slice none 0 0 := List.eq_of_mem_replicate (List.mem_of_getElem? hv)
  have h2 : l = [] := List.eq_of_mem_replicate (List.mem_of_getElem? (show (List.replicate xs.length ([] : AL))[i]? = some l from hx))
  subst h1 h2
  exact Ow.nil _ _ _ _
def RNewPost (xs : List Int) (w : World) (e : Ending) (w' : World) : Prop := Upd [] w w' ∧
  ((∃ i, badK xs = some i ∧ e = .returned (.tuple #[.pointer none, .int .i64 17, .int .i64 ((i : Int) + 1)])) ∨
   (badK xs = none ∧ 8 < xs.length ∧ e = .returned (.tuple #[.pointer none, .int .i64 8, .int .i64 0])) ∨
   (badK xs = none ∧ xs.length ≤ 8 ∧ ∃ rb F, e = .returned (.tuple #[.pointer (some ⟨rb, 0, none⟩), .int .i64 0, .int .i64 0]) ∧ RMdl w.heap.size rb F w' (newS xs)))
set_option maxRecDepth 100000 in
set_option maxHeartbeats 4000000 in
theorem rm_new (A : Option Addr) (n c : Nat) (xs : List Int) (w : World) (h : Rd encK w (.slice A n c) xs) (hn : xs.length = n) (hl : n ≤ 9223372036854775807) :
    Calls Tryz.prog 16 #[.slice A n c] w fun e w' => RNewPost xs w e w' := by
  have HR := Lib.hid h
  have HN := Lib.hid hn
  clear h hn
  go_enter Tryz.func16, Tryz.ntmps16
  go_wp2_with fail
  go_loop [5] (fun v => ∃ k : Nat, v = .int .i64 k ∧ k ≤ n ∧ Hid (∀ j, j < k → kOk (xs.getD j 0) = true)) (fun v => n - (intOf v).toNat)
  case atStart => exact ⟨0, rfl, by omega, Lib.hid (fun j hj => by omega)⟩
  case round =>
    obtain ⟨k, rfl, hk, HOK⟩ := hrel
    by_cases hkn : k < n
    · obtain ⟨y, hy⟩ : ∃ y, xs[k]? = some y := ⟨_, List.getElem?_eq_getElem (by rw [HN.out]; exact hkn)⟩
      obtain ⟨ad, rfl, hlt, hcells⟩ := HR.out.at_ hy
      have e0 : w.cell? (ad.add k) = some (.int .i64 y) := by have := hcells 0 _ rfl; rwa [show k * encK.s + 0 = k by simp [encI]] at this
      have HY := Lib.hid hy
      have q1 : (0 : Int) ≤ (k : Int) := by omega
      have q2 : (k : Int) < (n : Int) := by omega
      clear hy hcells
      by_cases h1 : y < 1
      · have d1 : decide (y < 1) = true := by simpa using h1
        have HOKY : Hid (kOk y = false) := Lib.hid (by unfold kOk; rw [decide_eq_false_iff_not]; omega)
        clear h1
        have HZ : Hid (badK xs = some k) := Lib.hid (badK_at HOK.out HY.out HOKY.out)
        go_wp2_with fail
        go_ret3
        exact ⟨.refl _ _, .inl ⟨k, HZ.out, by rfl⟩⟩
      · have d1 : decide (y < 1) = false := by simpa using h1
        by_cases h3 : 3 < y
        · have d3 : decide (3 < y) = true := by simpa using h3
          have HOKY : Hid (kOk y = false) := Lib.hid (by unfold kOk; rw [decide_eq_false_iff_not]; omega)
          clear h1 h3
          have HZ : Hid (badK xs = some k) := Lib.hid (badK_at HOK.out HY.out HOKY.out)
          go_wp2_with fail
          go_ret3
          exact ⟨.refl _ _, .inl ⟨k, HZ.out, by rfl⟩⟩
        · have d3 : decide (3 < y) = false := by simpa using h3
          have HOKY : Hid (kOk y = true) := Lib.hid (by unfold kOk; rw [decide_eq_true_iff]; omega)
          clear h1 h3
          have HO2 : Hid (∀ j, j < k + 1 → kOk (xs.getD j 0) = true) := Lib.hid (fun j hj => by
            rcases Nat.lt_or_ge j k with h1 | h1
            · exact HOK.out j h1
            · obtain rfl : j = k := by omega
              rw [List.getD_eq_getElem?_getD, HY.out]
              exact HOKY.out)
          go_wp2_with fail
          go_round
          case rel => exact ⟨k + 1, by go_num, by omega, HO2⟩
          case measure => simp [intOf]; omega
    · obtain rfl : k = n := by omega
      have HZ : Hid (badK xs = none) := Lib.hid (badK_no (by rw [HN.out]; exact HOK.out))
      by_cases h8 : 8 < k
      · have d8 : decide ((8 : Int) < (k : Int)) = true := by simp; omega
        go_wp2_with fail
        go_ret3
        exact ⟨.refl _ _, .inr (.inl ⟨HZ.out, by rw [HN.out]; exact h8, rfl⟩)⟩
      · have d8 : decide ((8 : Int) < (k : Int)) = false := by simp; omega
        have hl : k ≤ 1000 := by omega
        have HMK : Hid (∀ W, (Instr.makeSlice 81 (.int .i64 k) (.int .i64 k)).run Tryz.prog W = .ok (.slice (some ⟨W.heap.size, 0, none⟩) k k) (W.alloc (.cells (madeCells #[Value.slice none 0 0] k) 52))) := Lib.hid (fun W => run_makePrs W k hl)
        have F1 : Hid (∀ W, Upd [] w.drew W → Src W 1 (.slice A k c) k (flat encK xs)) := Lib.hid (fun W hW => by
          have := HR.out.upd0 ((Upd.refl [] w).drew.trans hW)
          unfold Rd at this
          rw [HN.out] at this
          exact this)
        go_wp2_with fail
        refine wp_invNT 6 [(0, .own w.heap.size 3 1 0 []), (2, .own w.heap.size 3 1 k (flat encK xs)), (5, .own w.heap.size 52 1 k (List.replicate k (.slice none 0 0)))] [(2, [0])] (by kernel_rfl) (by simp) (by kernel_rfl) (by kernel_rfl) ⟨lasts_own _ _ _ _ _ (by simp [maxLen]), lasts_own _ _ _ _ _ (by unfold maxLen; omega), lasts_own _ _ _ _ _ (by unfold maxLen; omega), trivial⟩ ?_
        simp only [List.take_succ_cons, List.take_zero, List.drop_succ_cons, List.drop_zero]
        refine wpV_heavy (by simp only [lightOp]) (by rfl) (fun W hU hk hF K hK => ?_) ?_
        · go_wp2_with fail
          exact wpV_made hK rfl rfl rfl rfl hU.size
        rintro _ ⟨A1, c1, rfl, _, _⟩
        simp only [Act.put, List.setIfInBounds_toArray, List.set_cons_zero, List.set_cons_succ]
        with_reducible apply wpV_light
        · simp only [lightOp]
        · intro W hU hF
          clear hU hF
          go_simp
          exact rfl
        simp only [Act.put, List.setIfInBounds_toArray, List.set_cons_zero, List.set_cons_succ]
        refine wpV_heavy (by simp only [lightOp]) (by rfl) (fun W hU hk hF K hK => ?_) ?_
        · exact wpV_app hK (.tmp 29) (.tmp 30) _ (by rfl) elem_int _ _ (by rfl) (by rfl) rfl rfl (by simp [usedV, mkI, conOf, specOf, Spec.own]) (hF.out.1 (by kernel_rfl)) (F1.out W hU) (by omega) (by simp) flat_cells (by unfold maxLen; omega) (by omega) hU.size
        rintro _ ⟨A2, c2, rfl, _, _⟩
        simp only [Act.put, List.setIfInBounds_toArray, List.set_cons_zero, List.set_cons_succ]
        with_reducible apply wpV_light
        · simp only [lightOp]
        · intro W hU hF
          clear hU hF
          go_simp
          exact rfl
        simp only [Act.put, List.setIfInBounds_toArray, List.set_cons_zero, List.set_cons_succ]
        with_reducible apply wpV_light
        · simp only [lightOp]
        · intro W hU hF
          clear hU hF
          go_simp
          exact rfl
        simp only [Act.put, List.setIfInBounds_toArray, List.set_cons_zero, List.set_cons_succ]
        refine wpV_heavy (by simp only [lightOp]) (by rfl) (fun W hU hk hF K hK => ?_) ?_
        · have hm := HMK.out W
          go_wp2_with fail
          exact hK.out _ _ (outV_own (v := undef) rfl rfl (by rfl) (own_madePrs W w.heap.size k hU.size hl) ((Upd.refl [] W).alloc _) (.inr rfl))
        rintro _ ⟨A5, c5, rfl, _, _⟩
        simp only [Act.put, List.setIfInBounds_toArray, List.set_cons_zero, List.set_cons_succ]
        refine wpV_end (fun W hU _ hF => ?_)
        have U3 : Hid (Upd [] w W) := Lib.hid ((Upd.refl [] w).drew.trans hU)
        have O2 : Hid (W.ownsRow w.heap.size 3 1 (.slice A2 k c2) k (flat encK xs)) := Lib.hid (hF.out.2.1 (by kernel_rfl))
        have O5 : Hid (W.ownsRow w.heap.size 52 1 (.slice A5 k c5) k (List.replicate k (.slice none 0 0))) := Lib.hid (hF.out.2.2.1 (by kernel_rfl))
        clear hU hF
        refine wpT_op (by rfl) (fun K hK => ?_)
        go_wp2_with fail
        refine hK.out _ _ ?_
        clear hK K
        try simp only [Act.put, List.setIfInBounds_toArray, List.set_cons_zero, List.set_cons_succ]
        refine wpT_op (by rfl) (fun K hK => ?_)
        go_wp2_with fail
        refine hK.out _ _ ?_
        clear hK K
        try simp only [Act.put, List.setIfInBounds_toArray, List.set_cons_zero, List.set_cons_succ]
        refine wpT_op (by rfl) (fun K hK => ?_)
        go_wp2_with fail
        refine hK.out _ _ ?_
        clear hK K
        try simp only [Act.put, List.setIfInBounds_toArray, List.set_cons_zero, List.set_cons_succ]
        refine wpT_op (by rfl) (fun K hK => ?_)
        go_wp2_with fail
        refine hK.out _ _ ?_
        clear hK K
        try simp only [Act.put, List.setIfInBounds_toArray, List.set_cons_zero, List.set_cons_succ]
        refine wpT_op (by rfl) (fun K hK => ?_)
        go_wp2_with fail
        refine hK.out _ _ ?_
        clear hK K
        try simp only [Act.put, List.setIfInBounds_toArray, List.set_cons_zero, List.set_cons_succ]
        refine wpT_end ?_
        have HB : Hid (Blk (W.alloc (.cells #[.slice A2 k c2, .slice A5 k c5] 83)) W.heap.size 83 #[.slice A2 k c2, .slice A5 k c5]) := Lib.hid (Blk.new W _ _)
        go_wp2_with fail
        go_ret3
        refine ⟨U3.out.alloc _, .inr (.inr ⟨HZ.out, by rw [HN.out]; omega, W.heap.size, _, rfl, good_newS (by rw [HN.out]; omega), _, _, _, rfl, rmst_new HN.out HB.out (by unfold Ow; rw [HN.out]; exact own_upd0 O2.out ((Upd.refl [] W).alloc _)) (own_upd0 O5.out ((Upd.refl [] W).alloc _)) U3.out.size⟩)⟩
end Go.Proofs.YtfbeaklplefojaaGreatDoor

namespace Go.Proofs.YtfbeaklplefojaaGreatDoor
open Go.RowKit Assoc MP
attribute [local go_sem] litStep_value

def encA : Enc MAct := encI4 .i64 .i64 .i64 .i64
def runM (ks : List Int) (l : List MAct) : MS := l.foldl stepM (newS ks)
theorem runM_snoc (ks : List Int) (l : List MAct) (a : MAct) : runM ks (l ++ [a]) = stepM (runM ks l) a := by unfold runM; rw [List.foldl_append]; rfl
theorem RMdl.base {B B' rb : Nat} {F : List Nat} {w : World} {s : MS} (h : RMdl B rb F w s) (hB : B' ≤ B) : RMdl B' rb F w s := by
  obtain ⟨g, vk, vl, ms, rfl, h⟩ := h
  exact ⟨g, vk, vl, ms, rfl, h.box, own_base h.k hB, own_base h.l hB, fun i v l hv hl => own_base (h.each i v l hv hl) hB, Nat.le_trans hB h.b⟩
theorem take_snoc {α : Type} {L : List α} {k : Nat} {x : α} (h : L[k]? = some x) : L.take (k + 1) = L.take k ++ [x] := by
  obtain ⟨hk, rfl⟩ := List.getElem?_eq_some_iff.1 h
  exact List.take_succ_eq_append_getElem hk
/-- The cells of an act in a slice. -/
theorem act_cells {w : World} {A : Option Addr} {n c k : Nat} {L : List MAct} {a : MAct} (h : Rd encA w (.slice A n c) L) (hk : L[k]? = some a) : ∃ ad : Addr, A = some ad ∧ ad.block < w.heap.size ∧
    w.cell? (ad.add (k * 4)) = some (.int .i64 a.1) ∧ w.cell? ⟨(ad.add (k * 4)).block, (ad.add (k * 4)).off + 1, none⟩ = some (.int .i64 a.2.1) ∧ w.cell? ⟨(ad.add (k * 4)).block, (ad.add (k * 4)).off + 2, none⟩ = some (.int .i64 a.2.2.1) ∧ w.cell? ⟨(ad.add (k * 4)).block, (ad.add (k * 4)).off + 3, none⟩ = some (.int .i64 a.2.2.2) := by
  obtain ⟨ad, h1, h2, hc⟩ := h.at_ hk
  refine ⟨ad, h1, h2, hc 0 _ rfl, ?_, ?_, ?_⟩
  · have := hc 1 _ rfl; rwa [show k * encA.s + 1 = k * 4 + (0 + 1) from rfl, add_more] at this
  · have := hc 2 _ rfl; rwa [show k * encA.s + 2 = k * 4 + (1 + 1) from rfl, add_more] at this
  · have := hc 3 _ rfl; rwa [show k * encA.s + 3 = k * 4 + (2 + 1) from rfl, add_more] at this
def MPlayPost (ks : List Int) (L : List MAct) (w0 : World) (B : Nat) (e : Ending) (w' : World) : Prop := (e = .returned (.pointer none) ∧ Upd [] w0 w') ∨ (badK ks = none ∧ ks.length ≤ 8 ∧ ∃ sb F, e = .returned (.pointer (some ⟨sb, 0, none⟩)) ∧ Mdl B sb F w' (runM ks L) ∧ Upd [] w0 w')
set_option maxRecDepth 100000 in
set_option maxHeartbeats 8000000 in
theorem mplay_ok (A A' : Option Addr) (m d n c : Nat) (ks : List Int) (L : List MAct) (w0 w : World) (hK : Rd encK w0 (.slice A' m d) ks) (hm : ks.length = m) (hA : Rd encA w0 (.slice A n c) L) (hn : L.length = n) (hkb : ∀ a ∈ L, kB a.2.2.1) (hg : Typed w0) (hu : Upd [] w0 w) :
    Calls Tryz.prog 15 #[.slice A' m d, .slice A n c] w fun e w' => MPlayPost ks L w0 w.heap.size e w' := by
  have HG := Lib.hid hg
  have HA := Lib.hid hA
  have HK := Lib.hid hK
  have HN := Lib.hid hn
  have HM := Lib.hid hm
  have HU := Lib.hid hu
  have HKB := Lib.hid hkb
  clear hg hA hn hu hK hm hkb
  go_enter Tryz.func15, Tryz.ntmps15
  by_cases h2 : 20 < m
  · have d2 : decide ((20 : Int) < (m : Int)) = true := by simp; omega
    go_wp2_with fail
    go_ret
    exact .inl ⟨rfl, HU.out⟩
  have d2 : decide ((20 : Int) < (m : Int)) = false := by simp; omega
  by_cases h6 : 60 < n
  · have d6 : decide ((60 : Int) < (n : Int)) = true := by simp; omega
    go_wp2_with fail
    go_ret
    exact .inl ⟨rfl, HU.out⟩
  have d6 : decide ((60 : Int) < (n : Int)) = false := by simp; omega
  go_wp2_with fail
  refine (m_new A' m d ks w (HK.out.upd0 HU.out) HM.out (by omega)).mono ?_
  rintro e w1 ⟨u1, hcase⟩
  have U1 := Lib.hid u1
  have HC := Lib.hid hcase
  clear u1 hcase
  have RN := Lib.hid (rm_new A' m d ks w1 (HK.out.upd0 (HU.out.trans U1.out)) HM.out (by omega))
  rcases HC.out with ⟨i, g, hb, rfl, hblk⟩ | ⟨hb, h8, rfl⟩ | ⟨hb, h8, sb, F, rfl, hs⟩
  · have EV : Hid (ErrV w1 (.iface 96 (.pointer (some ⟨g, 0, none⟩))) 17 ((i : Int) + 1)) := Lib.hid (.inr (.inr ⟨g, rfl, hblk, by decide, by decide⟩))
    have HBK := Lib.hid hb
    clear hb hblk HC
    go_wp2_with fail
    refine RN.out.mono ?_
    rintro e w2 ⟨u2, hcase⟩
    have EV2 := Lib.hid (EV.out.upd u2)
    have U2 := Lib.hid (HU.out.trans (U1.out.trans u2))
    clear u2
    rcases hcase with ⟨i', hb', rfl⟩ | ⟨hb', _, rfl⟩ | ⟨hb', _⟩
    · clear hb'
      go_wp2_with fail
      refine (no_err EV2.out).mono ?_; rintro e w3 ⟨rfl, rfl⟩
      go_wp2_with fail
      go_ret
      exact .inl ⟨rfl, U2.out⟩
    · exact absurd (hb'.symm.trans HBK.out) (by simp)
    · exact absurd (hb'.symm.trans HBK.out) (by simp)
  · have EV : Hid (ErrV w1 (.iface 63 (.int .i64 8)) 8 0) := Lib.hid (.inr (.inl ⟨rfl, ⟨by decide, by decide⟩, rfl⟩))
    have HBK := Lib.hid hb
    clear hb HC
    go_wp2_with fail
    refine RN.out.mono ?_
    rintro e w2 ⟨u2, hcase⟩
    have EV2 := Lib.hid (EV.out.upd u2)
    have U2 := Lib.hid (HU.out.trans (U1.out.trans u2))
    clear u2
    rcases hcase with ⟨i', hb', rfl⟩ | ⟨hb', _, rfl⟩ | ⟨hb', h8', _⟩
    · exact absurd (hb'.symm.trans HBK.out) (by simp)
    · clear hb'
      go_wp2_with fail
      refine (no_err EV2.out).mono ?_; rintro e w3 ⟨rfl, rfl⟩
      go_wp2_with fail
      go_ret
      exact .inl ⟨rfl, U2.out⟩
    · omega
  · have HBK := Lib.hid hb
    have H8 := Lib.hid h8
    have S1 := Lib.hid hs
    clear hb hs HC
    go_wp2_with fail
    refine RN.out.mono ?_
    rintro e w2 ⟨u2, hcase⟩
    have U2 := Lib.hid u2
    clear u2
    rcases hcase with ⟨i', hb', rfl⟩ | ⟨hb', h8', rfl⟩ | ⟨hb', h8', rb, F', rfl, hr⟩
    · exact absurd (hb'.symm.trans HBK.out) (by simp)
    · omega
    have B2 : Hid (MBoth w.heap.size sb rb w2 (runM ks (L.take 0))) := Lib.hid ⟨F, F', S1.out.upd0 U2.out, hr.base U1.out.size, fun k hk hk' => by have h1 := (S1.out.lt k hk).2; have h2 := (hr.lt k hk').1; omega⟩
    clear hb' hr
    have U3 := Lib.hid (HU.out.trans (U1.out.trans U2.out))
    have HB : Hid (w0.heap.size ≤ w.heap.size) := Lib.hid HU.out.size
    have HBW : Hid (w.heap.size ≤ w2.heap.size) := Lib.hid (U1.out.trans U2.out).size
    clear S1 U1 U2 h8 h8'
    go_wp2_with fail
    refine (no_nil w2).mono ?_; rintro e w3 ⟨rfl, rfl⟩
    go_wp2_with fail
    go_loopw [40, 11] (fun v vx wr => ∃ k : Nat, v = .int .i64 k ∧ k ≤ n ∧ Hid (MBoth w.heap.size sb rb wr (runM ks (L.take k))) ∧ Hid (Upd [] w0 wr) ∧ Hid (w.heap.size ≤ wr.heap.size)) (fun v _ _ => n - (intOf v).toNat)
    case atStart => exact ⟨0, rfl, by omega, B2, U3, HBW⟩
    case round =>
      obtain ⟨k, rfl, hk, BK, UK, ZK⟩ := hrel
      by_cases hkn : k < n
      · obtain ⟨⟨ak, ac, ax, an⟩, hx⟩ : ∃ x, L[k]? = some x := ⟨_, List.getElem?_eq_getElem (by rw [HN.out]; exact hkn)⟩
        have KX : Hid (kB ax) := Lib.hid (HKB.out _ (List.mem_of_getElem? hx))
        obtain ⟨ad, rfl, hlt, e0, e1, e2, e3⟩ := act_cells (HA.out.upd0 UK.out) hx
        have TK := Lib.hid (take_snoc hx)
        have q1 : (0 : Int) ≤ (k : Int) := by omega
        have q2 : (k : Int) < (n : Int) := by omega
        clear hx
        go_wp2_with fail
        have UA : Hid (Upd [] wr (wr.alloc (.cells #[.int .i64 ak, .int .i64 ac, .int .i64 ax, .int .i64 an] 79))) := Lib.hid ((Upd.refl [] wr).alloc _)
        generalize (wr.alloc (.cells #[.int .i64 ak, .int .i64 ac, .int .i64 ax, .int .i64 an] 79)) = w5 at *
        refine (mdo_ok w.heap.size sb rb (runM ks (L.take k)) ak ac ax an w0 w5 (BK.out.upd0 UA.out) KX.out HG.out HB.out (UK.out.trans UA.out) (Nat.le_trans ZK.out UA.out.size)).mono ?_
        rintro e w6 ⟨rfl, b6, u6, -⟩
        have B6 : Hid (MBoth w.heap.size sb rb w6 (runM ks (L.take (k + 1)))) := Lib.hid (by rw [TK.out, runM_snoc]; exact b6)
        have U6 := Lib.hid u6
        have Z6 : Hid (w.heap.size ≤ w6.heap.size) := Lib.hid (by
          obtain ⟨F', G', h1, _⟩ := b6
          obtain ⟨_, vk, gc, cc, ms, rfl, h1⟩ := h1
          have := h1.lt sb (by simp [fpM])
          omega)
        clear b6 u6 e0 e1 e2 e3
        go_wp2_with fail
        go_roundw
        case rel => exact ⟨k + 1, by go_num, by omega, B6, U6, Z6⟩
        case measure => simp [intOf]; omega
      · obtain rfl : k = n := by omega
        go_wp2_with fail
        go_ret
        obtain ⟨F', G', h1, _⟩ := BK.out
        rw [List.take_of_length_le (by rw [HN.out]; exact Nat.le_refl _)] at h1
        exact .inr ⟨HBK.out, H8.out, _, _, rfl, h1, UK.out⟩
end Go.Proofs.YtfbeaklplefojaaGreatDoor

namespace Go.Proofs.YtfbeaklplefojaaGreatDoor
open Assoc MP

theorem stepM_K (s : MS) (a : MAct) : (stepM s a).K = s.K := by
  unfold stepM
  split
  · split
    · unfold mPut; split <;> rfl
    · rfl
  · split
    · split <;> rfl
    · rfl
theorem stepM_len (s : MS) (a : MAct) : (stepM s a).L.length = s.L.length := by
  unfold stepM
  split
  · split
    · unfold mPut; split
      · simp [setC]
      · rfl
    · rfl
  · split
    · split
      · simp [mDel, setC]
      · rfl
    · rfl
theorem steps_K (l : List MAct) (s : MS) : (l.foldl stepM s).K = s.K := by
  induction l generalizing s with
  | nil => rfl
  | cons a l ih => rw [List.foldl_cons, ih, stepM_K]
theorem steps_len (l : List MAct) (s : MS) : (l.foldl stepM s).L.length = s.L.length := by
  induction l generalizing s with
  | nil => rfl
  | cons a l ih => rw [List.foldl_cons, ih, stepM_len]
theorem runM_K (ks : List Int) (l : List MAct) : (runM ks l).K = ks := by unfold runM; rw [steps_K]; rfl
theorem runM_len (ks : List Int) (l : List MAct) : (runM ks l).L.length = ks.length := by unfold runM; rw [steps_len]; simp [newS]
/-- A number brought into a range. -/
theorem turn_ix (c : Int) (n : Nat) (h : 0 < n) : ∃ i : Nat, i < n ∧ Int.tmod (Int.tmod c n + n) n = i := by
  have hn : (0 : Int) < n := by omega
  have h1 : -(n : Int) < Int.tmod c n := by
    have := Int.lt_tmod_of_pos c hn
    omega
  have h2 : Int.tmod c n < n := Int.tmod_lt_of_pos c hn
  have h3 : (0 : Int) ≤ Int.tmod c n + n := by omega
  have h4 : 0 ≤ Int.tmod (Int.tmod c n + n) n := Int.tmod_nonneg _ h3
  have h5 : Int.tmod (Int.tmod c n + n) n < n := Int.tmod_lt_of_pos _ hn
  exact ⟨(Int.tmod (Int.tmod c n + n) n).toNat, by omega, by omega⟩
theorem turn_ix8 (c : Int) (n : Nat) (h : 0 < n) (h8 : n ≤ 8) : ∃ i : Nat, i < n ∧ Int.tmod (Go.RowKit.wrap64 (Int.tmod c n + n)) n = i := by
  have hn : (0 : Int) < n := by omega
  have h1 : -(n : Int) < Int.tmod c n := by
    have := Int.lt_tmod_of_pos c hn
    omega
  have h2 : Int.tmod c n < n := Int.tmod_lt_of_pos c hn
  obtain ⟨i, hi, e⟩ := turn_ix c n h
  refine ⟨i, hi, ?_⟩
  rw [show Go.RowKit.wrap64 (Int.tmod c n + n) = Int.tmod c n + n by unfold Go.RowKit.wrap64; omega]
  exact e
theorem srt_lt {l : AL} (h : Srt l) {i j : Nat} {p q : Int × Int} (hi : l[i]? = some p) (hj : l[j]? = some q) (hij : i < j) : p.1 < q.1 := by
  obtain ⟨h1, rfl⟩ := List.getElem?_eq_some_iff.1 hi
  obtain ⟨h2, rfl⟩ := List.getElem?_eq_some_iff.1 hj
  exact (List.pairwise_iff_getElem.1 h) i j h1 h2 hij
theorem lceil_at {l : AL} {a : Int} {i : Nat} {q : Int × Int} (hq : l[i]? = some q) (h1 : a ≤ q.1) (h2 : ∀ j p, j < i → l[j]? = some p → p.1 < a) : ceilL l a = some q.1 := by
  induction l generalizing i with
  | nil => cases hq
  | cons p l ih =>
    unfold ceilL at ih ⊢
    cases i with
    | zero =>
      injection hq with hq
      subst hq
      rw [List.find?_cons_of_pos (by simpa using h1)]
      rfl
    | succ i =>
      have := h2 0 p (by omega) rfl
      rw [List.find?_cons_of_neg (by simp; omega)]
      exact ih hq (fun j x hj hx => h2 (j + 1) x (by omega) hx)
theorem lceil_nil (a : Int) : ceilL [] a = none := rfl
theorem lceil_first {l : AL} {p : Int × Int} (h : l[0]? = some p) : ceilL l p.1 = some p.1 := lceil_at h (by omega) (fun _ _ hj => by omega)
theorem lceil_next {l : AL} (hs : Srt l) {i : Nat} {p q : Int × Int} (hp : l[i]? = some p) (hq : l[i + 1]? = some q) : ceilL l (p.1 + 1) = some q.1 :=
  lceil_at hq (by have := srt_lt hs hp hq (by omega); omega) (fun j x hj hx => by
    by_cases e : j = i
    · subst e
      rw [hp] at hx
      injection hx with hx
      subst hx
      omega
    · have := srt_lt hs hx hp (by omega)
      omega)
theorem lrange_all {l : AL} (hs : Srt l) {p q : Int × Int} (hp : l[0]? = some p) (hq : l[l.length - 1]? = some q) : rangeL l p.1 q.1 = l.length := by
  unfold rangeL
  rw [List.filter_eq_self.2]
  intro x hx
  obtain ⟨i, hi, rfl⟩ := List.getElem_of_mem hx
  have e := List.getElem?_eq_getElem hi
  have h1 : p.1 ≤ l[i].1 := by
    by_cases c : i = 0
    · subst c
      rw [hp] at e
      injection e with e
      rw [← e]
      omega
    · have := srt_lt hs hp e (by omega)
      omega
  have h2 : l[i].1 ≤ q.1 := by
    by_cases c : i = l.length - 1
    · rw [← c, e] at hq
      injection hq with hq
      rw [hq]
      omega
    · have := srt_lt hs e hq (by omega)
      omega
  simp only [Bool.and_eq_true, decide_eq_true_eq]
  exact ⟨h1, h2⟩
theorem mput_err {s : MS} {i : Nat} {k v : Int} (h : putE (coll s i) k ≠ 0) : putE (coll s i) k = 8 ∧ mPut s i k v = s := by
  refine ⟨?_, by unfold mPut; rw [if_neg h]⟩
  unfold putE at h ⊢
  split
  · rfl
  · rename_i c
    rw [if_neg c] at h
    exact absurd rfl h
theorem mput_ok {s : MS} {i : Nat} {k v : Int} (h : putE (coll s i) k = 0) (hi : i < s.L.length) (j : Nat) : coll (mPut s i k v) j = if j = i then put (coll s i) k (putV s i v) else coll s j := by
  unfold mPut
  rw [if_pos h, coll_set hi]
theorem mput_len (s : MS) (i : Nat) (k v : Int) : (mPut s i k v).L.length = s.L.length := by
  unfold mPut
  split
  · simp [setC]
  · rfl
theorem mput_K (s : MS) (i : Nat) (k v : Int) : (mPut s i k v).K = s.K := by
  unfold mPut
  split <;> rfl
theorem mdel_coll {s : MS} {i : Nat} (hi : i < s.L.length) (k : Int) (j : Nat) : coll (mDel s i k) j = if j = i then del (coll s i) k else coll s j := by
  unfold mDel
  rw [coll_set hi]
end Go.Proofs.YtfbeaklplefojaaGreatDoor

namespace Go.Proofs.YtfbeaklplefojaaGreatDoor
open Assoc MP

/-- A set's values are 1. -/
def Set1 (s : MS) : Prop := ∀ i, s.K.getD i 0 = 2 → ∀ p ∈ coll s i, p.2 = 1
theorem coll_new (ks : List Int) (i : Nat) : coll (newS ks) i = [] := by
  unfold coll newS
  rw [List.getD_eq_getElem?_getD, List.getElem?_replicate]
  split <;> rfl
theorem coll_out {s : MS} {i : Nat} (h : ¬ i < s.L.length) : coll s i = [] := by
  unfold coll
  rw [List.getD_eq_getElem?_getD, List.getElem?_eq_none (by omega)]
  rfl
theorem set1_new (ks : List Int) : Set1 (newS ks) := fun i _ p hp => by rw [coll_new] at hp; cases hp
theorem set1_put {s : MS} (h : Set1 s) {i : Nat} (hi : i < s.L.length) (k v : Int) : Set1 (mPut s i k v) := by
  by_cases he : putE (coll s i) k = 0
  · intro j hj p hp
    rw [mput_K] at hj
    rw [mput_ok he hi] at hp
    split at hp
    · rename_i e
      subst e
      rcases mem_put hp with rfl | hp
      · unfold putV; rw [if_pos hj]
      · exact h j hj p hp
    · exact h j hj p hp
  · rw [(mput_err he).2]; exact h
theorem set1_del {s : MS} (h : Set1 s) {i : Nat} (hi : i < s.L.length) (k : Int) : Set1 (mDel s i k) := by
  intro j hj p hp
  rw [mdel_coll hi] at hp
  split at hp
  · rename_i e
    subst e
    exact h j hj p (List.mem_filter.1 hp).1
  · exact h j hj p hp
theorem set1_step {s : MS} (h : Set1 s) (a : MAct) : Set1 (stepM s a) := by
  unfold stepM
  split
  · split
    · rename_i hc
      obtain ⟨i, e, hi⟩ := isC_form hc
      rw [e]
      exact set1_put h hi _ _
    · exact h
  · split
    · split
      · rename_i hc
        obtain ⟨i, e, hi⟩ := isC_form hc
        rw [e]
        exact set1_del h hi _
      · exact h
    · exact h
theorem set1_steps (l : List MAct) : ∀ {s : MS}, Set1 s → Set1 (l.foldl stepM s) := by
  induction l with
  | nil => intro s h; exact h
  | cons a l ih => intro s h; rw [List.foldl_cons]; exact ih (set1_step h a)
theorem set1_run (ks : List Int) (l : List MAct) : Set1 (runM ks l) := set1_steps l (set1_new ks)
theorem put_app {l : AL} {k v : Int} (h : ∀ x ∈ l, x.1 < k) : put l k v = l ++ [(k, v)] := by
  induction l with
  | nil => rfl
  | cons p l ih =>
    have h1 := h p (List.mem_cons_self ..)
    unfold put
    rw [if_neg (by omega), if_neg (by omega), ih (fun x hx => h x (List.mem_cons_of_mem _ hx)), List.cons_append]
/-- The first collections are s's, one has its first pairs, the others are empty. -/
structure PartS (r s : MS) (c k : Nat) : Prop where
  K : r.K = s.K
  len : r.L.length = s.L.length
  lo : ∀ j, j < c → coll r j = coll s j
  mid : coll r c = (coll s c).take k
  hi : ∀ j, c < j → coll r j = []
theorem part_new {s : MS} (h : s.K.length = s.L.length) : PartS (newS s.K) s 0 0 :=
  ⟨rfl, by simp [newS, h], fun j hj => by omega, by rw [coll_new]; simp, fun j _ => coll_new _ _⟩
theorem part_step {r s : MS} {c k : Nat} (h : PartS r s c k) (hg : MP.Good s) (h1 : Set1 s) (hc : c < s.L.length) {p : Int × Int} (hp : (coll s c)[k]? = some p) : PartS (mPut r c p.1 p.2) s c (k + 1) := by
  have hk : k < (coll s c).length := (List.getElem?_eq_some_iff.1 hp).1
  have h100 := hg.len _ (coll_mem hc)
  have he : putE (coll r c) p.1 = 0 := by
    unfold putE
    rw [if_neg]
    rintro ⟨_, h2⟩
    rw [h.mid, List.length_take] at h2
    omega
  have hcr : c < r.L.length := by rw [h.len]; exact hc
  have hv : putV r c p.2 = p.2 := by
    unfold putV
    split
    · rename_i e
      rw [h.K] at e
      exact (h1 c e p (List.mem_of_getElem? hp)).symm
    · rfl
  have hlow : ∀ x ∈ (coll s c).take k, x.1 < p.1 := by
    intro x hx
    obtain ⟨i, hi⟩ := List.getElem?_of_mem hx
    rw [List.getElem?_take] at hi
    split at hi
    · rename_i hik
      exact srt_lt (hg.srt _ (coll_mem hc)) hi hp hik
    · cases hi
  have e1 : (coll s c).take (k + 1) = (coll s c).take k ++ [p] := take_snoc hp
  refine ⟨by rw [mput_K]; exact h.K, by rw [mput_len]; exact h.len, fun j hj => ?_, ?_, fun j hj => ?_⟩
  · rw [mput_ok he hcr, if_neg (by omega)]; exact h.lo j hj
  · rw [mput_ok he hcr, if_pos rfl, hv, h.mid, put_app hlow, e1]
  · rw [mput_ok he hcr, if_neg (by omega)]; exact h.hi j hj
theorem part_next {r s : MS} {c k : Nat} (h : PartS r s c k) (hk : (coll s c).length ≤ k) : PartS r s (c + 1) 0 :=
  ⟨h.K, h.len, fun j hj => by
    by_cases e : j = c
    · subst e; rw [h.mid, List.take_of_length_le hk]
    · exact h.lo j (by omega), by rw [h.hi _ (by omega)]; simp, fun j hj => h.hi j (by omega)⟩
theorem part_done {r s : MS} {c : Nat} (h : PartS r s c 0) (hc : s.L.length ≤ c) : r = s :=
  ms_eq h.K h.len rfl (fun j hj => h.lo j (by omega))
end Go.Proofs.YtfbeaklplefojaaGreatDoor

namespace Go.Proofs.YtfbeaklplefojaaGreatDoor
open Go.RowKit Assoc MP
attribute [local go_sem] litStep_value

/-- The same so far. -/
def sameTo (L M : List (Int × Int)) (k : Nat) : Prop := ∀ j, j < k → L.getD j default = M.getD j default
theorem same_all {L M : List (Int × Int)} {n : Nat} (hl : L.length = n) (hm : M.length = n) (h : sameTo L M n) : L = M := by
  apply List.ext_getElem (by rw [hl, hm])
  intro i h1 h2
  have := h i (by omega)
  rwa [List.getD_eq_getElem?_getD, List.getD_eq_getElem?_getD, List.getElem?_eq_getElem h1, List.getElem?_eq_getElem h2] at this

set_option maxRecDepth 100000 in
set_option maxHeartbeats 1000000 in
theorem pairs_ok (B B' : Nat) (L M : List (Int × Int)) (v u : Value) (w : World) (hv : Ow encPr 56 w B v L) (hu : Ow encPr 56 w B' u M) (hL : L.length ≤ 1000) (hM : M.length ≤ 1000) :
    Calls Tryz.prog 39 #[v, u] w fun e w' => e = .returned (.bool (decide (L = M))) ∧ Upd [] w w' := by
  obtain ⟨A, c, rfl, hnc, hcm⟩ := own_slice hv
  obtain ⟨A', c', rfl, hnc', hcm'⟩ := own_slice hu
  obtain ⟨n, hn⟩ : ∃ n, L.length = n := ⟨_, rfl⟩
  obtain ⟨m, hm⟩ : ∃ m, M.length = m := ⟨_, rfl⟩
  have HV := Lib.hid hv
  have HU := Lib.hid hu
  have HN := Lib.hid hn
  have HM := Lib.hid hm
  rw [hn] at hL hnc ⊢
  rw [hm] at hM hnc' ⊢
  clear hv hu hn hm
  go_enter Tryz.func39, Tryz.ntmps39
  by_cases hnm : n = m
  · subst hnm
    obtain ⟨r, hr⟩ : ∃ r, decide (L = M) = r := ⟨_, rfl⟩
    rw [hr]
    have HR := Lib.hid hr
    clear hr
    go_wp2_with fail
    go_loopw [5] (fun v wr => ∃ k : Nat, v = .int .i64 k ∧ k ≤ n ∧ Hid (sameTo L M k) ∧ Hid (Upd [] w wr)) (fun v _ => n - (intOf v).toNat)
    case atStart => exact ⟨0, rfl, by omega, Lib.hid (fun j hj => by omega), Lib.hid (.refl _ _)⟩
    case round =>
      obtain ⟨k, rfl, hk, HS, U1⟩ := hrel
      by_cases hkn : k < n
      · obtain ⟨x, hx⟩ : ∃ x, L[k]? = some x := ⟨_, List.getElem?_eq_getElem (by rw [HN.out]; omega)⟩
        obtain ⟨y, hy⟩ : ∃ y, M[k]? = some y := ⟨_, List.getElem?_eq_getElem (by rw [HM.out]; omega)⟩
        have HX := Lib.hid hx
        have HY := Lib.hid hy
        obtain ⟨g, cg, cur, e1, _⟩ := own_form HV.out (by rw [HN.out]; omega)
        obtain ⟨g', cg', cur', e2, _⟩ := own_form HU.out (by rw [HM.out]; omega)
        injection e1 with e1 _ e1'
        injection e2 with e2 _ e2'
        subst e1 e2 e1' e2'
        have CS : Hid (∀ W, Upd [] wr.drew W → W.cell? ⟨g, k * 2, none⟩ = some (.int .i64 x.1) ∧ W.cell? ⟨g, k * 2 + 1, none⟩ = some (.int .i64 x.2) ∧ W.cell? ⟨g', k * 2, none⟩ = some (.int .i64 y.1) ∧ W.cell? ⟨g', k * 2 + 1, none⟩ = some (.int .i64 y.2)) := Lib.hid (fun W hW => by
          have hu : Upd [] w W := U1.out.drew.trans hW
          have ho := HV.out.upd0 hu
          have ho' := HU.out.upd0 hu
          exact ⟨ho.at_ hx 0 _ rfl, ho.at_ hx 1 _ rfl, ho'.at_ hy 0 _ rfl, ho'.at_ hy 1 _ rfl⟩)
        have q1 : (0 : Int) ≤ (k : Int) := by omega
        have q2 : (k : Int) < (n : Int) := by omega
        clear hx hy
        by_cases hxy : x = y
        · subst hxy
          have SN : Hid (sameTo L M (k + 1)) := Lib.hid (fun j hj => by
            by_cases e : j = k
            · rw [e, List.getD_eq_getElem?_getD, List.getD_eq_getElem?_getD, HX.out, HY.out]
            · exact HS.out j (by omega))
          go_wp2_with fail
          refine wp_invN [] [] (by kernel_rfl) (by kernel_rfl) (by kernel_rfl) trivial ?_
          with_reducible apply wpV_light
          · simp only [lightOp]
          · intro W hU hF
            have f0 := CS.out W hU
            clear hU hF
            go_simp
            exact rfl
          simp only [Act.put, List.setIfInBounds_toArray, List.set_cons_zero, List.set_cons_succ]
          with_reducible apply wpV_light
          · simp only [lightOp]
          · intro W hU hF
            have f0 := CS.out W hU
            clear hU hF
            go_simp
            exact rfl
          simp only [Act.put, List.setIfInBounds_toArray, List.set_cons_zero, List.set_cons_succ]
          with_reducible apply wpV_light
          · simp only [lightOp]
          · intro W hU hF
            have f0 := CS.out W hU
            clear hU hF
            go_simp
            exact rfl
          simp only [Act.put, List.setIfInBounds_toArray, List.set_cons_zero, List.set_cons_succ]
          with_reducible apply wpV_light
          · simp only [lightOp]
          · intro W hU hF
            have f0 := CS.out W hU
            clear hU hF
            go_simp
            exact rfl
          simp only [Act.put, List.setIfInBounds_toArray, List.set_cons_zero, List.set_cons_succ]
          with_reducible apply wpV_light
          · simp only [lightOp]
          · intro W hU hF
            have f0 := CS.out W hU
            clear hU hF
            go_simp
            exact rfl
          simp only [Act.put, List.setIfInBounds_toArray, List.set_cons_zero, List.set_cons_succ]
          with_reducible apply wpV_light
          · simp only [lightOp]
          · intro W hU hF
            have f0 := CS.out W hU
            clear hU hF
            go_simp
            exact rfl
          simp only [Act.put, List.setIfInBounds_toArray, List.set_cons_zero, List.set_cons_succ]
          with_reducible apply wpV_light
          · simp only [lightOp]
          · intro W hU hF
            have f0 := CS.out W hU
            clear hU hF
            go_simp
            exact rfl
          simp only [Act.put, List.setIfInBounds_toArray, List.set_cons_zero, List.set_cons_succ]
          with_reducible apply wpV_light
          · simp only [lightOp]
          · intro W hU hF
            have f0 := CS.out W hU
            clear hU hF
            go_simp
            exact rfl
          simp only [Act.put, List.setIfInBounds_toArray, List.set_cons_zero, List.set_cons_succ]
          with_reducible apply wpV_light
          · simp only [lightOp]
          · intro W hU hF
            have f0 := CS.out W hU
            clear hU hF
            go_simp
            exact rfl
          simp only [Act.put, List.setIfInBounds_toArray, List.set_cons_zero, List.set_cons_succ]
          refine wpV_end (fun W hU _ _ => ?_)
          have U2 : Hid (Upd [] w W) := Lib.hid (U1.out.drew.trans hU)
          clear hU
          refine wpT_end ?_
          go_wp2_with fail
          go_roundw
          case rel => exact ⟨k + 1, rfl, by omega, Lib.hid SN.out, U2⟩
          case measure => simp [intOf]; omega
        · have NE : Hid (¬ L = M) := Lib.hid (fun e => by
            have h1 := HX.out
            rw [e, HY.out] at h1
            exact hxy (Option.some.inj h1).symm)
          by_cases hw : x.1 = y.1
          · have hi : ¬ x.2 = y.2 := fun e => hxy (Prod.ext hw e)
            clear hxy
            go_wp2_with fail
            refine wp_invN [] [] (by kernel_rfl) (by kernel_rfl) (by kernel_rfl) trivial ?_
            with_reducible apply wpV_light
            · simp only [lightOp]
            · intro W hU hF
              have f0 := CS.out W hU
              clear hU hF
              go_simp
              exact rfl
            simp only [Act.put, List.setIfInBounds_toArray, List.set_cons_zero, List.set_cons_succ]
            with_reducible apply wpV_light
            · simp only [lightOp]
            · intro W hU hF
              have f0 := CS.out W hU
              clear hU hF
              go_simp
              exact rfl
            simp only [Act.put, List.setIfInBounds_toArray, List.set_cons_zero, List.set_cons_succ]
            with_reducible apply wpV_light
            · simp only [lightOp]
            · intro W hU hF
              have f0 := CS.out W hU
              clear hU hF
              go_simp
              exact rfl
            simp only [Act.put, List.setIfInBounds_toArray, List.set_cons_zero, List.set_cons_succ]
            with_reducible apply wpV_light
            · simp only [lightOp]
            · intro W hU hF
              have f0 := CS.out W hU
              clear hU hF
              go_simp
              exact rfl
            simp only [Act.put, List.setIfInBounds_toArray, List.set_cons_zero, List.set_cons_succ]
            with_reducible apply wpV_light
            · simp only [lightOp]
            · intro W hU hF
              have f0 := CS.out W hU
              clear hU hF
              go_simp
              exact rfl
            simp only [Act.put, List.setIfInBounds_toArray, List.set_cons_zero, List.set_cons_succ]
            with_reducible apply wpV_light
            · simp only [lightOp]
            · intro W hU hF
              have f0 := CS.out W hU
              clear hU hF
              go_simp
              exact rfl
            simp only [Act.put, List.setIfInBounds_toArray, List.set_cons_zero, List.set_cons_succ]
            with_reducible apply wpV_light
            · simp only [lightOp]
            · intro W hU hF
              have f0 := CS.out W hU
              clear hU hF
              go_simp
              exact rfl
            simp only [Act.put, List.setIfInBounds_toArray, List.set_cons_zero, List.set_cons_succ]
            with_reducible apply wpV_light
            · simp only [lightOp]
            · intro W hU hF
              have f0 := CS.out W hU
              clear hU hF
              go_simp
              exact rfl
            simp only [Act.put, List.setIfInBounds_toArray, List.set_cons_zero, List.set_cons_succ]
            with_reducible apply wpV_light
            · simp only [lightOp]
            · intro W hU hF
              have f0 := CS.out W hU
              clear hU hF
              go_simp
              exact rfl
            simp only [Act.put, List.setIfInBounds_toArray, List.set_cons_zero, List.set_cons_succ]
            refine wpV_end (fun W hU _ _ => ?_)
            have U2 : Hid (Upd [] w W) := Lib.hid (U1.out.drew.trans hU)
            clear hU
            refine wpT_end ?_
            go_wp2_with fail
            go_ret
            refine ⟨?_, U2.out⟩
            rw [← HR.out, decide_eq_false (NE.out)]
            rfl
          · clear hxy
            go_wp2_with fail
            refine wp_invN [] [] (by kernel_rfl) (by kernel_rfl) (by kernel_rfl) trivial ?_
            with_reducible apply wpV_light
            · simp only [lightOp]
            · intro W hU hF
              have f0 := CS.out W hU
              clear hU hF
              go_simp
              exact rfl
            simp only [Act.put, List.setIfInBounds_toArray, List.set_cons_zero, List.set_cons_succ]
            with_reducible apply wpV_light
            · simp only [lightOp]
            · intro W hU hF
              have f0 := CS.out W hU
              clear hU hF
              go_simp
              exact rfl
            simp only [Act.put, List.setIfInBounds_toArray, List.set_cons_zero, List.set_cons_succ]
            with_reducible apply wpV_light
            · simp only [lightOp]
            · intro W hU hF
              have f0 := CS.out W hU
              clear hU hF
              go_simp
              exact rfl
            simp only [Act.put, List.setIfInBounds_toArray, List.set_cons_zero, List.set_cons_succ]
            with_reducible apply wpV_light
            · simp only [lightOp]
            · intro W hU hF
              have f0 := CS.out W hU
              clear hU hF
              go_simp
              exact rfl
            simp only [Act.put, List.setIfInBounds_toArray, List.set_cons_zero, List.set_cons_succ]
            with_reducible apply wpV_light
            · simp only [lightOp]
            · intro W hU hF
              have f0 := CS.out W hU
              clear hU hF
              go_simp
              exact rfl
            simp only [Act.put, List.setIfInBounds_toArray, List.set_cons_zero, List.set_cons_succ]
            with_reducible apply wpV_light
            · simp only [lightOp]
            · intro W hU hF
              have f0 := CS.out W hU
              clear hU hF
              go_simp
              exact rfl
            simp only [Act.put, List.setIfInBounds_toArray, List.set_cons_zero, List.set_cons_succ]
            with_reducible apply wpV_light
            · simp only [lightOp]
            · intro W hU hF
              have f0 := CS.out W hU
              clear hU hF
              go_simp
              exact rfl
            simp only [Act.put, List.setIfInBounds_toArray, List.set_cons_zero, List.set_cons_succ]
            with_reducible apply wpV_light
            · simp only [lightOp]
            · intro W hU hF
              have f0 := CS.out W hU
              clear hU hF
              go_simp
              exact rfl
            simp only [Act.put, List.setIfInBounds_toArray, List.set_cons_zero, List.set_cons_succ]
            with_reducible apply wpV_light
            · simp only [lightOp]
            · intro W hU hF
              have f0 := CS.out W hU
              clear hU hF
              go_simp
              exact rfl
            simp only [Act.put, List.setIfInBounds_toArray, List.set_cons_zero, List.set_cons_succ]
            refine wpV_end (fun W hU _ _ => ?_)
            have U2 : Hid (Upd [] w W) := Lib.hid (U1.out.drew.trans hU)
            clear hU
            refine wpT_end ?_
            go_wp2_with fail
            go_ret
            refine ⟨?_, U2.out⟩
            rw [← HR.out, decide_eq_false (NE.out)]
            rfl
      · go_wp2_with fail
        go_ret
        have : k = n := by omega
        subst this
        refine ⟨?_, U1.out⟩
        rw [← HR.out, decide_eq_true (same_all HN.out HM.out HS.out)]
        rfl
  · have hnm' : ¬ (n : Int) = m := by omega
    obtain ⟨r, hr⟩ : ∃ r, decide (L = M) = r := ⟨_, rfl⟩
    have hr' : r = false := by
      rw [← hr, decide_eq_false_iff_not]
      intro e
      have := HN.out
      rw [e, HM.out] at this
      omega
    rw [hr, hr']
    clear hr hr'
    go_wp2_with fail
    go_ret
    exact ⟨rfl, .refl _ _⟩
set_option maxRecDepth 100000 in
set_option maxHeartbeats 2000000 in
theorem ints_ok (B B' : Nat) (L M : List Int) (v u : Value) (w : World) (hv : Ow encK 3 w B v L) (hu : Ow encK 3 w B' u M) (hL : L.length ≤ 1000000) (hM : M.length ≤ 1000000) :
    Calls Tryz.prog 28 #[v, u] w fun e w' => e = .returned (.bool (decide (L = M))) ∧ Upd [] w w' := by
  obtain ⟨A, c, rfl, hnc, hcm⟩ := own_slice hv
  obtain ⟨A', c', rfl, hnc', hcm'⟩ := own_slice hu
  obtain ⟨n, hn⟩ : ∃ n, L.length = n := ⟨_, rfl⟩
  obtain ⟨m, hm⟩ : ∃ m, M.length = m := ⟨_, rfl⟩
  have HV : Hid (w.ownsRow B 3 1 (.slice A n c) n (flat encK L)) := Lib.hid (by have := hv; unfold Ow at this; rw [hn] at this; exact this)
  have HU : Hid (w.ownsRow B' 3 1 (.slice A' m c') m (flat encK M)) := Lib.hid (by have := hu; unfold Ow at this; rw [hm] at this; exact this)
  have HN := Lib.hid hn
  have HM := Lib.hid hm
  rw [hn] at hL hnc ⊢
  rw [hm] at hM hnc' ⊢
  clear hv hu hn hm
  obtain ⟨r, hr⟩ : ∃ r, decide (L = M) = r := ⟨_, rfl⟩
  have HR := Lib.hid hr
  rw [hr]
  clear hr
  go_enter Tryz.func28, Tryz.ntmps28
  by_cases hnm : n = m
  · subst hnm
    have d : ((n : Int) != (n : Int)) = false := by simp
    go_wp2_with fail
    go_loopw [5] (fun v wr => ∃ k : Nat, v = .int .i64 k ∧ k ≤ n ∧ Hid (sameToK L M k) ∧ Hid (Upd [] w wr)) (fun v _ => n - (intOf v).toNat)
    case atStart => exact ⟨0, rfl, by omega, Lib.hid (fun j hj => by omega), Lib.hid (.refl _ _)⟩
    case round =>
      obtain ⟨k, rfl, hk, HS, U1⟩ := hrel
      by_cases hkn : k < n
      · obtain ⟨x, hx⟩ : ∃ x, L[k]? = some x := ⟨_, List.getElem?_eq_getElem (by rw [HN.out]; omega)⟩
        obtain ⟨y, hy⟩ : ∃ y, M[k]? = some y := ⟨_, List.getElem?_eq_getElem (by rw [HM.out]; omega)⟩
        have HX := Lib.hid hx
        have HY := Lib.hid hy
        obtain ⟨g, cg, cur, e1, _⟩ := own_form HV.out (by omega)
        obtain ⟨g', cg', cur', e2, _⟩ := own_form HU.out (by omega)
        injection e1 with e1 _ e1'
        injection e2 with e2 _ e2'
        subst e1 e2 e1' e2'
        have CS : Hid (∀ W, Upd [] wr.drew W → W.cell? ⟨g, k, none⟩ = some (.int .i64 x) ∧ W.cell? ⟨g', k, none⟩ = some (.int .i64 y)) := Lib.hid (fun W hW => by
          have hu : Upd [] w W := U1.out.drew.trans hW
          have h1 := own_cell (own_upd0 HV.out hu) _ _ ((flat_get (E := encK) hx (j := 0) (by decide)).trans rfl)
          have h2 := own_cell (own_upd0 HU.out hu) _ _ ((flat_get (E := encK) hy (j := 0) (by decide)).trans rfl)
          rw [show k * encK.s + 0 = k by simp [encI]] at h1 h2
          exact ⟨h1, h2⟩)
        have q1 : (0 : Int) ≤ (k : Int) := by omega
        have q2 : (k : Int) < (n : Int) := by omega
        clear hx hy
        go_wp2_with fail
        refine wp_invN [] [] (by kernel_rfl) (by kernel_rfl) (by kernel_rfl) trivial ?_
        with_reducible apply wpV_light
        · simp only [lightOp]
        · intro W hU hF
          have f0 := CS.out W hU
          clear hU hF
          go_simp
          exact rfl
        simp only [Act.put, List.setIfInBounds_toArray, List.set_cons_zero, List.set_cons_succ]
        with_reducible apply wpV_light
        · simp only [lightOp]
        · intro W hU hF
          have f0 := CS.out W hU
          clear hU hF
          go_simp
          exact rfl
        simp only [Act.put, List.setIfInBounds_toArray, List.set_cons_zero, List.set_cons_succ]
        with_reducible apply wpV_light
        · simp only [lightOp]
        · intro W hU hF
          have f0 := CS.out W hU
          clear hU hF
          go_simp
          exact rfl
        simp only [Act.put, List.setIfInBounds_toArray, List.set_cons_zero, List.set_cons_succ]
        with_reducible apply wpV_light
        · simp only [lightOp]
        · intro W hU hF
          have f0 := CS.out W hU
          clear hU hF
          go_simp
          exact rfl
        simp only [Act.put, List.setIfInBounds_toArray, List.set_cons_zero, List.set_cons_succ]
        with_reducible apply wpV_light
        · simp only [lightOp]
        · intro W hU hF
          have f0 := CS.out W hU
          clear hU hF
          go_simp
          exact rfl
        simp only [Act.put, List.setIfInBounds_toArray, List.set_cons_zero, List.set_cons_succ]
        with_reducible apply wpV_light
        · simp only [lightOp]
        · intro W hU hF
          have f0 := CS.out W hU
          clear hU hF
          go_simp
          exact rfl
        simp only [Act.put, List.setIfInBounds_toArray, List.set_cons_zero, List.set_cons_succ]
        with_reducible apply wpV_light
        · simp only [lightOp]
        · intro W hU hF
          have f0 := CS.out W hU
          clear hU hF
          go_simp
          exact rfl
        simp only [Act.put, List.setIfInBounds_toArray, List.set_cons_zero, List.set_cons_succ]
        with_reducible apply wpV_light
        · simp only [lightOp]
        · intro W hU hF
          have f0 := CS.out W hU
          clear hU hF
          go_simp
          exact rfl
        simp only [Act.put, List.setIfInBounds_toArray, List.set_cons_zero, List.set_cons_succ]
        with_reducible apply wpV_light
        · simp only [lightOp]
        · intro W hU hF
          have f0 := CS.out W hU
          clear hU hF
          go_simp
          exact rfl
        simp only [Act.put, List.setIfInBounds_toArray, List.set_cons_zero, List.set_cons_succ]
        refine wpV_end (fun W hU _ _ => ?_)
        have U2 : Hid (Upd [] w W) := Lib.hid (U1.out.drew.trans hU)
        clear hU
        refine wpT_end ?_
        by_cases hxy : x = y
        · have dd : (x != y) = false := by simpa using hxy
          have HS2 : Hid (sameToK L M (k + 1)) := Lib.hid (fun j hj => by
            rcases Nat.lt_or_ge j k with h1 | h1
            · exact HS.out j h1
            · obtain rfl : j = k := by omega
              rw [List.getD_eq_getElem?_getD, List.getD_eq_getElem?_getD, HX.out, HY.out, hxy])
          clear hxy
          go_wp2_with fail
          go_roundw
          case rel => exact ⟨k + 1, by go_num, by omega, HS2, U2⟩
          case measure => simp [intOf]; omega
        · have dd : (x != y) = true := by simpa using hxy
          have HZ : Hid (r = false) := Lib.hid (by
            rw [← HR.out, decide_eq_false_iff_not]
            intro e
            have h1 := HX.out
            rw [e, HY.out] at h1
            injection h1 with h1
            exact hxy h1.symm)
          clear hxy
          go_wp2_with fail
          go_ret
          exact ⟨by rw [HZ.out]; rfl, U2.out⟩
      · obtain rfl : k = n := by omega
        have HZ : Hid (r = true) := Lib.hid (by rw [← HR.out, decide_eq_true_iff]; exact sameK_all HN.out HM.out HS.out)
        go_wp2_with fail
        go_ret
        exact ⟨by rw [HZ.out]; rfl, U1.out⟩
  · have d : ((n : Int) != (m : Int)) = true := by simp; omega
    have HZ : Hid (r = false) := Lib.hid (by rw [← HR.out, decide_eq_false_iff_not]; intro e; exact hnm (by rw [← HN.out, ← HM.out, e]))
    go_wp2_with fail
    go_ret
    exact ⟨by rw [HZ.out]; rfl, .refl _ _⟩

end Go.Proofs.YtfbeaklplefojaaGreatDoor

/-
  model.New.
-/
import Derived.Test.YtjlpogmoebmkdaaDoorMdl5
set_option linter.unusedVariables false
namespace Go.Proofs.YtjlpogmoebmkdaaDoor
open Go.RowKit Assoc MP
attribute [local go_sem] litStep_value

def kOk (k : Int) : Bool := decide (1 ≤ k ∧ k ≤ 3)
/-- The first kind that may not be. -/
def badK (xs : List Int) : Option Nat := xs.findIdx? (fun k => !kOk k)
def newS (xs : List Int) : MS := ⟨xs, List.replicate xs.length []⟩
theorem good_newS {xs : List Int} (h : xs.length ≤ 8) : MP.Good (newS xs) := by
  refine ⟨by simp [newS], fun l hl => ?_, fun l hl => ?_, h, fun l hl => ?_⟩ <;> (have := List.eq_of_mem_replicate hl; subst this)
  · exact .nil
  · simp
  · simp
theorem badK_at {xs : List Int} {k : Nat} (h : ∀ j, j < k → kOk (xs.getD j 0) = true) {y : Int} (hy : xs[k]? = some y) (hb : kOk y = false) : badK xs = some k := by
  unfold badK
  obtain ⟨hk, rfl⟩ := List.getElem?_eq_some_iff.1 hy
  rw [List.findIdx?_eq_some_iff_getElem]
  refine ⟨hk, by simp [hb], fun j hj => ?_⟩
  have := h j hj
  rw [List.getD_eq_getElem?_getD, List.getElem?_eq_getElem (by omega)] at this
  simpa using this
theorem badK_no {xs : List Int} (h : ∀ j, j < xs.length → kOk (xs.getD j 0) = true) : badK xs = none := by
  unfold badK
  rw [List.findIdx?_eq_none_iff]
  intro x hx
  obtain ⟨j, hj, rfl⟩ := List.getElem_of_mem hx
  have := h j hj
  rw [List.getD_eq_getElem?_getD, List.getElem?_eq_getElem hj] at this
  simpa using this
def MNewPost (xs : List Int) (w : World) (e : Ending) (w' : World) : Prop := Upd [] w w' ∧
  ((∃ i g, badK xs = some i ∧ e = .returned (.tuple #[.pointer none, .iface 76 (.pointer (some ⟨g, 0, none⟩))]) ∧ Blk w' g 78 #[.int .i64 ((i : Int) + 1), .int .i64 17]) ∨
   (badK xs = none ∧ 8 < xs.length ∧ e = .returned (.tuple #[.pointer none, .iface 67 (.int .i64 8)])) ∨
   (badK xs = none ∧ xs.length ≤ 8 ∧ ∃ sb F, e = .returned (.tuple #[.pointer (some ⟨sb, 0, none⟩), .nilIface]) ∧ Mdl w.heap.size sb F w' (newS xs)))
set_option maxRecDepth 100000 in
set_option maxHeartbeats 4000000 in
theorem m_new (A : Option Addr) (n c : Nat) (xs : List Int) (w : World) (h : Rd encK w (.slice A n c) xs) (hn : xs.length = n) (hl : n ≤ 1000) :
    Calls Tryd.prog 14 #[.slice A n c] w fun e w' => MNewPost xs w e w' := by
  have hm1 : ∀ w, (Instr.makeMap 59 none).run Tryd.prog w = .ok (.map (some w.heap.size)) (w.alloc (.map #[] 0)) := fun _ => by kernel_rfl
  have HR := Lib.hid h
  have HN := Lib.hid hn
  clear h hn
  go_enter Tryd.func14, Tryd.ntmps14
  go_wp2_with fail
  refine (clone_ints A n c xs w HR.out HN.out hl).mono ?_
  rintro e w1 ⟨v, rfl, o1, u1⟩
  obtain ⟨A1, k1, rfl, _, _⟩ := own_slice o1
  have O1 := Lib.hid o1
  have U1 := Lib.hid u1
  clear o1 u1
  obtain ⟨nk, hnk⟩ : ∃ nk, xs.length = nk := ⟨_, rfl⟩
  rw [hnk] at O1 ⊢
  have HNK := Lib.hid hnk
  clear hnk
  have UX : Hid (Upd [] w1 ((w1.alloc (.cells #[] 59)).alloc (.cells #[.slice A1 nk k1, .slice (some ⟨w1.heap.size, 0, none⟩) 0 0] 75))) := Lib.hid (((Upd.refl [] w1).alloc _).alloc _)
  have h2 : (w1.alloc (.cells #[] 59)).heap.size = w1.heap.size + 1 := by simp
  have C0 : Hid (MdlSt w.heap.size (w1.heap.size + 1) (.slice A1 nk k1) w1.heap.size 0 [] ((w1.alloc (.cells #[] 59)).alloc (.cells #[.slice A1 nk k1, .slice (some ⟨w1.heap.size, 0, none⟩) 0 0] 75)) ⟨xs, List.replicate 0 []⟩) := Lib.hid ⟨Blk.newAt 75 _ h2, O1.out.upd0 UX.out, own_made 1 ((Blk.new w1 59 #[]).upd ((Upd.refl [] _).alloc _) (by simp)) U1.out.size, by simp, .nil, by have := U1.out.size; omega, by simp⟩
  go_wp2_with fail
  generalize ((w1.alloc (.cells #[] 59)).alloc (.cells #[.slice A1 nk k1, .slice (some ⟨w1.heap.size, 0, none⟩) 0 0] 75)) = w2 at *
  have U2 := Lib.hid (U1.out.trans UX.out)
  obtain ⟨ob, hob⟩ : ∃ ob, w1.heap.size + 1 = ob := ⟨_, rfl⟩
  rw [hob] at C0
  try rw [h2]
  try rw [hob]
  clear h2 hob UX
  go_loopw [14] (fun v wr => ∃ k : Nat, v = .int .i64 k ∧ k ≤ n ∧ Hid (∀ j, j < k → kOk (xs.getD j 0) = true) ∧ Hid ((∃ gc1 cc1 ms1, MdlSt w.heap.size ob (.slice A1 nk k1) gc1 cc1 ms1 wr ⟨xs, List.replicate k []⟩) ∧ Upd [] w wr)) (fun v _ => n - (intOf v).toNat)
  case atStart => exact ⟨0, rfl, by omega, Lib.hid (fun j hj => by omega), Lib.hid ⟨⟨_, _, _, C0.out⟩, U2.out⟩⟩
  case round =>
    obtain ⟨k, rfl, hk, HOK, HK⟩ := hrel
    obtain ⟨⟨gc1, cc1, ms1, hst⟩, hu⟩ := HK.out
    rename World => wi
    have ST := Lib.hid hst
    have UI := Lib.hid hu
    have OB : Hid (Blk wi ob 75 #[.slice A1 nk k1, .slice (some ⟨gc1, 0, none⟩) k cc1]) := Lib.hid (by have := hst.box; rwa [show (⟨xs, List.replicate k []⟩ : MS).L.length = k by simp] at this)
    have ON : Hid (wi.ownsRow w.heap.size 59 1 (.slice (some ⟨gc1, 0, none⟩) k cc1) k (mapsV ms1)) := Lib.hid (by have := hst.c; rwa [show (⟨xs, List.replicate k []⟩ : MS).L.length = k by simp] at this)
    clear HK hst hu C0
    by_cases hkn : k < n
    · obtain ⟨y, hy⟩ : ∃ y, xs[k]? = some y := ⟨_, List.getElem?_eq_getElem (by rw [HN.out]; exact hkn)⟩
      obtain ⟨ad, rfl, hlt, hcells⟩ := (HR.out.upd0 UI.out).at_ hy
      have e0 : wi.cell? (ad.add k) = some (.int .i64 y) := by have := hcells 0 _ rfl; rwa [show k * encK.s + 0 = k by simp [encI]] at this
      have HY := Lib.hid hy
      have q1 : (0 : Int) ≤ (k : Int) := by omega
      have q2 : (k : Int) < (n : Int) := by omega
      clear hy hcells
      by_cases h1 : y = 1
      · have d1 : (y == 1) = true := by simpa using h1
        have HOKY : Hid (kOk y = true) := Lib.hid (by rw [h1]; rfl)
        clear h1
        have HO2 : Hid (∀ j, j < k + 1 → kOk (xs.getD j 0) = true) := Lib.hid (fun j hj => by
          rcases Nat.lt_or_ge j k with h1 | h1
          · exact HOK.out j h1
          · obtain rfl : j = k := by omega
            rw [List.getD_eq_getElem?_getD, HY.out]
            exact HOKY.out)
        have y1 : wi.cell? ⟨ob, 1, none⟩ = some (.slice (some ⟨gc1, 0, none⟩) k cc1) := OB.out.cell 1
        go_wp2_with (at_builtin; refine stopped ?_)
        refine Lib.hid ?_
        refine wpList_app _ (by rfl) (.tmp 29) (.tmp 31) _ (by rfl) elem_map (.slice (some ⟨gc1, 0, none⟩) k cc1) _ (by rfl) (by rfl) (own_upd0 ON.out (((Upd.refl [] wi).alloc (.map #[] 0)).alloc (.cells #[.map (some wi.heap.size)] 59))) (.of_blk (Blk.newAt 59 #[.map (some wi.heap.size)] (H := wi.heap.size + 1) (by simp)) (m := 1) 1 rfl) (by intro u hu; simp at hu; subst hu; rfl) (by simp only [maxLen]; omega) (by omega) (Nat.le_trans UI.out.size (by simp; omega)) ?_
        intro v7 w7 o7 u7 b7
        have U6 : Hid (Upd [] wi ((wi.alloc (.map #[] 0)).alloc (.cells #[.map (some wi.heap.size)] 59))) := Lib.hid (((Upd.refl [] wi).alloc _).alloc _)
        have IM6 : Hid (IMap ((wi.alloc (.map #[] 0)).alloc (.cells #[.map (some wi.heap.size)] 59)) .i64 wi.heap.size (mapI []) 0) := Lib.hid (((IMap.new wi .i64).upd ((Upd.refl [] _).alloc _) (by simp)).congr (fun _ => rfl))
        have O7 : Hid (w7.ownsRow w.heap.size 59 1 v7 (k + 1) (mapsV ms1 ++ [.map (some wi.heap.size)])) := Lib.hid o7
        have U7 := Lib.hid u7
        obtain ⟨g7, cg7, cur7, rfl, _⟩ := own_form O7.out (by omega)
        have OB7 := Lib.hid ((OB.out.upd U6.out (by simp)).upd u7 (by intro hm; exact own_type ON.out OB.out (by decide) (by simpa using hm)))
        clear o7 u7 b7 y1 e0
        have z3 : w7.cell? ⟨ob, 1, none⟩ = some (.slice (some ⟨gc1, 0, none⟩) k cc1) := OB7.out.cell 1
        have z4 : w7.frozen? ⟨ob, 1, none⟩ = false := OB7.out.frozen 1
        have z5 : ob < w7.heap.size := OB7.out.lt
        have U8 : Hid (Upd [ob] w7 (w7.setCell ⟨ob, 1, none⟩ (.slice (some ⟨g7, 0, none⟩) (k + 1) cg7))) := Lib.hid ((Upd.refl [ob] w7).setCell (.inl (by simp)) _)
        have ST8 : Hid (∃ gc1 cc1 ms1, MdlSt w.heap.size ob (.slice A1 nk k1) gc1 cc1 ms1 (w7.setCell ⟨ob, 1, none⟩ (.slice (some ⟨g7, 0, none⟩) (k + 1) cg7)) ⟨xs, List.replicate (k + 1) []⟩) := Lib.hid (by
          have UT : Upd [ob, gc1] wi (w7.setCell ⟨ob, 1, none⟩ (.slice (some ⟨g7, 0, none⟩) (k + 1) cg7)) := ((U6.out.mono (by simp)).trans (U7.out.mono (by intro y hy; simp [Value.ownBlock] at hy; subst hy; exact .inl (by simp)))).trans (U8.out.mono (by simp))
          have IMX : IMap (w7.setCell ⟨ob, 1, none⟩ (.slice (some ⟨g7, 0, none⟩) (k + 1) cg7)) .i64 wi.heap.size (mapI []) ([] : AL).length := by
            have im7 := IM6.out.upd U7.out (by simp [Value.ownBlock]; intro e; have := (own_lt ON.out (b := gc1) rfl).2; omega)
            exact im7.upd U8.out (by simp; intro e; have := OB.out.lt; omega)
          have hp := ST.out.push (m := wi.heap.size) (l := []) (gc' := g7) (cc' := cg7) UT (by rw [show (⟨xs, List.replicate k []⟩ : MS).L.length = k by simp]; exact OB7.out.set_eq rfl) (by rw [show (⟨xs, List.replicate k []⟩ : MS).L.length = k by simp]; exact own_upd O7.out U8.out (by intro b hb; simp; rintro rfl; exact own_type O7.out OB7.out (by decide) hb)) IMX (Nat.le_refl _) UI.out.size
          rw [List.replicate_succ']
          exact ⟨_, _, _, hp⟩)
        have UI8 : Hid (Upd [] w (w7.setCell ⟨ob, 1, none⟩ (.slice (some ⟨g7, 0, none⟩) (k + 1) cg7))) := Lib.hid (by
          have h1 := (UI.out.trans U6.out).trans' U7.out (fun x hx => .inr (own_lt ON.out (by simpa using hx)).1)
          exact h1.trans' U8.out (fun x hx => by simp at hx; subst hx; exact .inr ST.out.bs))
        go_wp2_with fail
        go_roundw
        case rel => exact ⟨k + 1, by go_num, by omega, HO2, Lib.hid ⟨ST8.out, UI8.out⟩⟩
        case measure => simp [intOf]; omega
      have d1 : (y == 1) = false := by simpa using h1
      by_cases h2 : y = 2
      · have d2 : (y == 2) = true := by simpa using h2
        have HOKY : Hid (kOk y = true) := Lib.hid (by rw [h2]; rfl)
        clear h1 h2
        have HO2 : Hid (∀ j, j < k + 1 → kOk (xs.getD j 0) = true) := Lib.hid (fun j hj => by
          rcases Nat.lt_or_ge j k with h1 | h1
          · exact HOK.out j h1
          · obtain rfl : j = k := by omega
            rw [List.getD_eq_getElem?_getD, HY.out]
            exact HOKY.out)
        have y1 : wi.cell? ⟨ob, 1, none⟩ = some (.slice (some ⟨gc1, 0, none⟩) k cc1) := OB.out.cell 1
        go_wp2_with (at_builtin; refine stopped ?_)
        refine Lib.hid ?_
        refine wpList_app _ (by rfl) (.tmp 29) (.tmp 31) _ (by rfl) elem_map (.slice (some ⟨gc1, 0, none⟩) k cc1) _ (by rfl) (by rfl) (own_upd0 ON.out (((Upd.refl [] wi).alloc (.map #[] 0)).alloc (.cells #[.map (some wi.heap.size)] 59))) (.of_blk (Blk.newAt 59 #[.map (some wi.heap.size)] (H := wi.heap.size + 1) (by simp)) (m := 1) 1 rfl) (by intro u hu; simp at hu; subst hu; rfl) (by simp only [maxLen]; omega) (by omega) (Nat.le_trans UI.out.size (by simp; omega)) ?_
        intro v7 w7 o7 u7 b7
        have U6 : Hid (Upd [] wi ((wi.alloc (.map #[] 0)).alloc (.cells #[.map (some wi.heap.size)] 59))) := Lib.hid (((Upd.refl [] wi).alloc _).alloc _)
        have IM6 : Hid (IMap ((wi.alloc (.map #[] 0)).alloc (.cells #[.map (some wi.heap.size)] 59)) .i64 wi.heap.size (mapI []) 0) := Lib.hid (((IMap.new wi .i64).upd ((Upd.refl [] _).alloc _) (by simp)).congr (fun _ => rfl))
        have O7 : Hid (w7.ownsRow w.heap.size 59 1 v7 (k + 1) (mapsV ms1 ++ [.map (some wi.heap.size)])) := Lib.hid o7
        have U7 := Lib.hid u7
        obtain ⟨g7, cg7, cur7, rfl, _⟩ := own_form O7.out (by omega)
        have OB7 := Lib.hid ((OB.out.upd U6.out (by simp)).upd u7 (by intro hm; exact own_type ON.out OB.out (by decide) (by simpa using hm)))
        clear o7 u7 b7 y1 e0
        have z3 : w7.cell? ⟨ob, 1, none⟩ = some (.slice (some ⟨gc1, 0, none⟩) k cc1) := OB7.out.cell 1
        have z4 : w7.frozen? ⟨ob, 1, none⟩ = false := OB7.out.frozen 1
        have z5 : ob < w7.heap.size := OB7.out.lt
        have U8 : Hid (Upd [ob] w7 (w7.setCell ⟨ob, 1, none⟩ (.slice (some ⟨g7, 0, none⟩) (k + 1) cg7))) := Lib.hid ((Upd.refl [ob] w7).setCell (.inl (by simp)) _)
        have ST8 : Hid (∃ gc1 cc1 ms1, MdlSt w.heap.size ob (.slice A1 nk k1) gc1 cc1 ms1 (w7.setCell ⟨ob, 1, none⟩ (.slice (some ⟨g7, 0, none⟩) (k + 1) cg7)) ⟨xs, List.replicate (k + 1) []⟩) := Lib.hid (by
          have UT : Upd [ob, gc1] wi (w7.setCell ⟨ob, 1, none⟩ (.slice (some ⟨g7, 0, none⟩) (k + 1) cg7)) := ((U6.out.mono (by simp)).trans (U7.out.mono (by intro y hy; simp [Value.ownBlock] at hy; subst hy; exact .inl (by simp)))).trans (U8.out.mono (by simp))
          have IMX : IMap (w7.setCell ⟨ob, 1, none⟩ (.slice (some ⟨g7, 0, none⟩) (k + 1) cg7)) .i64 wi.heap.size (mapI []) ([] : AL).length := by
            have im7 := IM6.out.upd U7.out (by simp [Value.ownBlock]; intro e; have := (own_lt ON.out (b := gc1) rfl).2; omega)
            exact im7.upd U8.out (by simp; intro e; have := OB.out.lt; omega)
          have hp := ST.out.push (m := wi.heap.size) (l := []) (gc' := g7) (cc' := cg7) UT (by rw [show (⟨xs, List.replicate k []⟩ : MS).L.length = k by simp]; exact OB7.out.set_eq rfl) (by rw [show (⟨xs, List.replicate k []⟩ : MS).L.length = k by simp]; exact own_upd O7.out U8.out (by intro b hb; simp; rintro rfl; exact own_type O7.out OB7.out (by decide) hb)) IMX (Nat.le_refl _) UI.out.size
          rw [List.replicate_succ']
          exact ⟨_, _, _, hp⟩)
        have UI8 : Hid (Upd [] w (w7.setCell ⟨ob, 1, none⟩ (.slice (some ⟨g7, 0, none⟩) (k + 1) cg7))) := Lib.hid (by
          have h1 := (UI.out.trans U6.out).trans' U7.out (fun x hx => .inr (own_lt ON.out (by simpa using hx)).1)
          exact h1.trans' U8.out (fun x hx => by simp at hx; subst hx; exact .inr ST.out.bs))
        go_wp2_with fail
        go_roundw
        case rel => exact ⟨k + 1, by go_num, by omega, HO2, Lib.hid ⟨ST8.out, UI8.out⟩⟩
        case measure => simp [intOf]; omega
      have d2 : (y == 2) = false := by simpa using h2
      by_cases h3 : y = 3
      · have d3 : (y == 3) = true := by simpa using h3
        have HOKY : Hid (kOk y = true) := Lib.hid (by rw [h3]; rfl)
        clear h1 h2 h3
        have HO2 : Hid (∀ j, j < k + 1 → kOk (xs.getD j 0) = true) := Lib.hid (fun j hj => by
          rcases Nat.lt_or_ge j k with h1 | h1
          · exact HOK.out j h1
          · obtain rfl : j = k := by omega
            rw [List.getD_eq_getElem?_getD, HY.out]
            exact HOKY.out)
        have y1 : wi.cell? ⟨ob, 1, none⟩ = some (.slice (some ⟨gc1, 0, none⟩) k cc1) := OB.out.cell 1
        go_wp2_with (at_builtin; refine stopped ?_)
        refine Lib.hid ?_
        refine wpList_app _ (by rfl) (.tmp 29) (.tmp 31) _ (by rfl) elem_map (.slice (some ⟨gc1, 0, none⟩) k cc1) _ (by rfl) (by rfl) (own_upd0 ON.out (((Upd.refl [] wi).alloc (.map #[] 0)).alloc (.cells #[.map (some wi.heap.size)] 59))) (.of_blk (Blk.newAt 59 #[.map (some wi.heap.size)] (H := wi.heap.size + 1) (by simp)) (m := 1) 1 rfl) (by intro u hu; simp at hu; subst hu; rfl) (by simp only [maxLen]; omega) (by omega) (Nat.le_trans UI.out.size (by simp; omega)) ?_
        intro v7 w7 o7 u7 b7
        have U6 : Hid (Upd [] wi ((wi.alloc (.map #[] 0)).alloc (.cells #[.map (some wi.heap.size)] 59))) := Lib.hid (((Upd.refl [] wi).alloc _).alloc _)
        have IM6 : Hid (IMap ((wi.alloc (.map #[] 0)).alloc (.cells #[.map (some wi.heap.size)] 59)) .i64 wi.heap.size (mapI []) 0) := Lib.hid (((IMap.new wi .i64).upd ((Upd.refl [] _).alloc _) (by simp)).congr (fun _ => rfl))
        have O7 : Hid (w7.ownsRow w.heap.size 59 1 v7 (k + 1) (mapsV ms1 ++ [.map (some wi.heap.size)])) := Lib.hid o7
        have U7 := Lib.hid u7
        obtain ⟨g7, cg7, cur7, rfl, _⟩ := own_form O7.out (by omega)
        have OB7 := Lib.hid ((OB.out.upd U6.out (by simp)).upd u7 (by intro hm; exact own_type ON.out OB.out (by decide) (by simpa using hm)))
        clear o7 u7 b7 y1 e0
        have z3 : w7.cell? ⟨ob, 1, none⟩ = some (.slice (some ⟨gc1, 0, none⟩) k cc1) := OB7.out.cell 1
        have z4 : w7.frozen? ⟨ob, 1, none⟩ = false := OB7.out.frozen 1
        have z5 : ob < w7.heap.size := OB7.out.lt
        have U8 : Hid (Upd [ob] w7 (w7.setCell ⟨ob, 1, none⟩ (.slice (some ⟨g7, 0, none⟩) (k + 1) cg7))) := Lib.hid ((Upd.refl [ob] w7).setCell (.inl (by simp)) _)
        have ST8 : Hid (∃ gc1 cc1 ms1, MdlSt w.heap.size ob (.slice A1 nk k1) gc1 cc1 ms1 (w7.setCell ⟨ob, 1, none⟩ (.slice (some ⟨g7, 0, none⟩) (k + 1) cg7)) ⟨xs, List.replicate (k + 1) []⟩) := Lib.hid (by
          have UT : Upd [ob, gc1] wi (w7.setCell ⟨ob, 1, none⟩ (.slice (some ⟨g7, 0, none⟩) (k + 1) cg7)) := ((U6.out.mono (by simp)).trans (U7.out.mono (by intro y hy; simp [Value.ownBlock] at hy; subst hy; exact .inl (by simp)))).trans (U8.out.mono (by simp))
          have IMX : IMap (w7.setCell ⟨ob, 1, none⟩ (.slice (some ⟨g7, 0, none⟩) (k + 1) cg7)) .i64 wi.heap.size (mapI []) ([] : AL).length := by
            have im7 := IM6.out.upd U7.out (by simp [Value.ownBlock]; intro e; have := (own_lt ON.out (b := gc1) rfl).2; omega)
            exact im7.upd U8.out (by simp; intro e; have := OB.out.lt; omega)
          have hp := ST.out.push (m := wi.heap.size) (l := []) (gc' := g7) (cc' := cg7) UT (by rw [show (⟨xs, List.replicate k []⟩ : MS).L.length = k by simp]; exact OB7.out.set_eq rfl) (by rw [show (⟨xs, List.replicate k []⟩ : MS).L.length = k by simp]; exact own_upd O7.out U8.out (by intro b hb; simp; rintro rfl; exact own_type O7.out OB7.out (by decide) hb)) IMX (Nat.le_refl _) UI.out.size
          rw [List.replicate_succ']
          exact ⟨_, _, _, hp⟩)
        have UI8 : Hid (Upd [] w (w7.setCell ⟨ob, 1, none⟩ (.slice (some ⟨g7, 0, none⟩) (k + 1) cg7))) := Lib.hid (by
          have h1 := (UI.out.trans U6.out).trans' U7.out (fun x hx => .inr (own_lt ON.out (by simpa using hx)).1)
          exact h1.trans' U8.out (fun x hx => by simp at hx; subst hx; exact .inr ST.out.bs))
        go_wp2_with fail
        go_roundw
        case rel => exact ⟨k + 1, by go_num, by omega, HO2, Lib.hid ⟨ST8.out, UI8.out⟩⟩
        case measure => simp [intOf]; omega
      have d3 : (y == 3) = false := by simpa using h3
      have HBK : Hid (badK xs = some k) := Lib.hid (badK_at HOK.out HY.out (by unfold kOk; rw [decide_eq_false_iff_not]; omega))
      clear h1 h2 h3
      go_wp2_with fail
      go_ret2
      unfold MNewPost
      exact ⟨UI.out.trans ((Upd.refl [] wi).alloc _), .inl ⟨k, _, HBK.out, rfl, Blk.new wi _ _⟩⟩
    · obtain rfl : k = n := by omega
      have HBN : Hid (badK xs = none) := Lib.hid (badK_no (by rw [HN.out]; exact HOK.out))
      by_cases h8 : 8 < k
      · have d : decide ((8 : Int) < (k : Int)) = true := by simp; omega
        go_wp2_with fail
        go_ret2
        unfold MNewPost
        exact ⟨UI.out, .inr (.inl ⟨HBN.out, by rw [HN.out]; exact h8, rfl⟩)⟩
      · have d : decide ((8 : Int) < (k : Int)) = false := by simp; omega
        go_wp2_with fail
        go_ret2
        unfold MNewPost
        have e1 : (⟨xs, List.replicate k []⟩ : MS) = newS xs := by unfold newS; rw [HN.out]
        have hst := ST.out
        rw [e1] at hst
        exact ⟨UI.out, .inr (.inr ⟨HBN.out, by rw [HN.out]; omega, ob, _, rfl, good_newS (by rw [HN.out]; omega), _, _, _, _, rfl, hst⟩)⟩
end Go.Proofs.YtjlpogmoebmkdaaDoor

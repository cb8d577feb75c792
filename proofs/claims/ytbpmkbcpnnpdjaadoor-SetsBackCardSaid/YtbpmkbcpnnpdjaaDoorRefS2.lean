/-
  concordref07.Sets: Version, Read.
-/
import Derived.Test.YtbpmkbcpnnpdjaaDoorRefS
import Derived.Test.YtbpmkbcpnnpdjaaDoorSets2
set_option linter.unusedVariables false
namespace Go.Proofs.YtbpmkbcpnnpdjaaDoor
open Go.RowKit Assoc SP
attribute [local go_sem] litStep_value

set_option maxRecDepth 100000 in
set_option maxHeartbeats 4000000 in
theorem rs_version (B rb : Nat) (F : List Nat) (d : DS) (c : Int) (w : World) (h : RefS B rb F w d) :
    Calls Tryd.prog 37 #[.pointer (some ⟨rb, 0, none⟩), .int .u64 c] w fun e w' => e = .returned (.tuple #[.int .i64 (verR d.R c).1, .bool (verR d.R c).2]) ∧ w = w' := by
  obtain ⟨r1, hr1⟩ : ∃ r, (verR d.R c).1 = r := ⟨_, rfl⟩
  obtain ⟨r2, hr2⟩ : ∃ r, (verR d.R c).2 = r := ⟨_, rfl⟩
  have HR1 := Lib.hid hr1
  have HR2 := Lib.hid hr2
  rw [hr1, hr2]
  clear hr1 hr2
  obtain ⟨g, vr, vw, vm, ms, hF, h⟩ := h
  have HF := Lib.hid hF
  have HS := Lib.hid h
  have HG := Lib.hid g
  obtain ⟨A, ca, rfl, hnc, hcm⟩ := own_slice h.r
  obtain ⟨n, hn⟩ : ∃ n, d.R.length = n := ⟨_, rfl⟩
  have c1 : w.cell? ⟨rb, 0, none⟩ = some (.slice A n ca) := by rw [← hn]; exact h.box.cell 0
  have hn5 : n ≤ 500 := hn ▸ g.rl
  rw [hn] at hnc
  have HO := Lib.hid h.r
  rw [hn] at HO
  have HN := Lib.hid hn
  have O0 : Hid (w.ownsRow B 47 2 (.slice A n ca) n (flat encR d.R)) := Lib.hid (by have := HO.out; unfold Ow at this; rw [hn] at this; exact this)
  clear h hn hF g
  go_enter Tryd.func37, Tryd.ntmps37
  go_wp2_with fail
  go_loop [6] (fun v => ∃ k : Nat, v = .int .i64 k ∧ k ≤ n ∧ Hid (∀ j, j < k → (d.R.getD j default).1 ≠ c)) (fun v => n - (intOf v).toNat)
  case atStart => exact ⟨0, rfl, by omega, Lib.hid (fun j hj => by omega)⟩
  case round =>
    obtain ⟨k, rfl, hk, HA⟩ := hrel
    by_cases hkn : k < n
    · obtain ⟨⟨xc, xv⟩, hx⟩ : ∃ x, d.R[k]? = some x := ⟨_, List.getElem?_eq_getElem (by rw [HN.out]; omega)⟩
      obtain ⟨gw, cg, cur, e1, _⟩ := own_form HO.out (by rw [HN.out]; omega)
      injection e1 with e1 _ e1'
      subst e1 e1'
      have e0 : w.cell? ⟨gw, k * 2, none⟩ = some (.int .u64 xc) := HO.out.at_ hx 0 _ rfl
      have e1 : w.cell? ⟨gw, k * 2 + 1, none⟩ = some (.int .i64 xv) := HO.out.at_ hx 1 _ rfl
      have HX := Lib.hid hx
      have q1 : (0 : Int) ≤ (k : Int) := by omega
      have q2 : (k : Int) < (n : Int) := by omega
      clear hx
      by_cases hid : xc = c
      · have d1 : (xc == c) = true := by simpa using hid
        have HZ : Hid (verR d.R c = (xv, true)) := Lib.hid (by
          have hp : posR d.R c = some k := idx_at HA.out HX.out hid
          unfold verR
          rw [hp]
          simp only
          rw [List.getD_eq_getElem?_getD, HX.out]
          rfl)
        clear hid
        go_wp2_with fail
        go_ret2
        rw [← HR1.out, ← HR2.out, HZ.out]
        exact ⟨rfl, rfl⟩
      ·
        have d1 : (xc == c) = false := by simpa using hid
        have HZ : Hid (∀ j, j < k + 1 → (d.R.getD j default).1 ≠ c) := Lib.hid (fun j hj => by
          by_cases e : j = k
          · rw [e, List.getD_eq_getElem?_getD, HX.out]; exact hid
          · exact HA.out j (by omega))
        clear hid
        go_wp2_with fail
        go_round
        case rel => exact ⟨k + 1, by go_num, by omega, HZ⟩
        case measure => simp [intOf]; omega
    · have : k = n := by omega
      subst this
      have HZ : Hid (verR d.R c = (0, false)) := Lib.hid (by
        have hp : posR d.R c = none := idx_no (by rw [HN.out]; exact HA.out)
        unfold verR
        rw [hp])
      go_wp2_with fail
      go_ret2
      rw [← HR1.out, ← HR2.out, HZ.out]
      exact ⟨rfl, rfl⟩

def RReadPost (B rb : Nat) (F : List Nat) (d : DS) (c n : Int) (w : World) (e : Ending) (w' : World) : Prop := ∃ F', e = .returned (.tuple #[.int .i64 (rRead d.R c n).1, .int .i64 (rRead d.R c n).2.1]) ∧ RefS B rb F' w' (dRead d c n) ∧ Frm F F' w w'
set_option maxRecDepth 100000 in
set_option maxHeartbeats 4000000 in
theorem rs_read (B rb : Nat) (F : List Nat) (d : DS) (c v : Int) (w : World) (h : RefS B rb F w d) (hBw : B ≤ w.heap.size) :
    Calls Tryd.prog 26 #[.pointer (some ⟨rb, 0, none⟩), .int .u64 c, .int .i64 v] w fun e w' => RReadPost B rb F d c v w e w' := by
  have H := Lib.hid h
  obtain ⟨g, vr, vw, vm, ms, hF, h⟩ := h
  have HF := Lib.hid hF
  have HS := Lib.hid h
  have HG := Lib.hid g
  obtain ⟨A, ca, rfl, hnc, hcm⟩ := own_slice h.r
  obtain ⟨n, hn⟩ : ∃ n, d.R.length = n := ⟨_, rfl⟩
  have c1 : w.cell? ⟨rb, 0, none⟩ = some (.slice A n ca) := by rw [← hn]; exact h.box.cell 0
  have hn5 : n ≤ 500 := hn ▸ g.rl
  rw [hn] at hnc
  have HO := Lib.hid h.r
  rw [hn] at HO
  have HN := Lib.hid hn
  have O0 : Hid (w.ownsRow B 47 2 (.slice A n ca) n (flat encR d.R)) := Lib.hid (by have := HO.out; unfold Ow at this; rw [hn] at this; exact this)
  clear h hn hF g
  go_enter Tryd.func26, Tryd.ntmps26
  go_wp2_with fail
  go_loop [8] (fun v => ∃ k : Nat, v = .int .i64 k ∧ k ≤ n ∧ Hid (∀ j, j < k → (d.R.getD j default).1 ≠ c)) (fun v => n - (intOf v).toNat)
  case atStart => exact ⟨0, rfl, by omega, Lib.hid (fun j hj => by omega)⟩
  case round =>
    obtain ⟨k, rfl, hk, HA⟩ := hrel
    by_cases hkn : k < n
    · obtain ⟨⟨xc, xv⟩, hx⟩ : ∃ x, d.R[k]? = some x := ⟨_, List.getElem?_eq_getElem (by rw [HN.out]; omega)⟩
      obtain ⟨gw, cg, cur, e1, _⟩ := own_form HO.out (by rw [HN.out]; omega)
      injection e1 with e1 _ e1'
      subst e1 e1'
      have e0 : w.cell? ⟨gw, k * 2, none⟩ = some (.int .u64 xc) := HO.out.at_ hx 0 _ rfl
      have e1 : w.cell? ⟨gw, k * 2 + 1, none⟩ = some (.int .i64 xv) := HO.out.at_ hx 1 _ rfl
      have HX := Lib.hid hx
      have q1 : (0 : Int) ≤ (k : Int) := by omega
      have q2 : (k : Int) < (n : Int) := by omega
      clear hx
      by_cases hid : xc = c
      · have d1 : (xc == c) = true := by simpa using hid
        have HZ : Hid (rRead d.R c v = if xv = v then (0, 0, d.R) else (12, (k : Int) + 1, d.R)) := Lib.hid (by
          have hp : posR d.R c = some k := idx_at HA.out HX.out hid
          unfold rRead
          rw [hp]
          simp only
          rw [List.getD_eq_getElem?_getD, HX.out]
          rfl)
        clear hid
        by_cases hv : xv = v
        · have d2 : (xv != v) = false := by simpa using hv
          go_wp2_with fail
          go_ret2
          unfold RReadPost dRead
          rw [HZ.out, if_pos hv]
          exact ⟨_, rfl, H.out, .refl _ _⟩
        · have d2 : (xv != v) = true := by simpa using hv
          go_wp2_with fail
          go_ret2
          unfold RReadPost dRead
          rw [HZ.out, if_neg hv]
          exact ⟨_, rfl, H.out, .refl _ _⟩
      ·
        have d1 : (xc == c) = false := by simpa using hid
        have HZ : Hid (∀ j, j < k + 1 → (d.R.getD j default).1 ≠ c) := Lib.hid (fun j hj => by
          by_cases e : j = k
          · rw [e, List.getD_eq_getElem?_getD, HX.out]; exact hid
          · exact HA.out j (by omega))
        clear hid
        go_wp2_with fail
        go_round
        case rel => exact ⟨k + 1, by go_num, by omega, HZ⟩
        case measure => simp [intOf]; omega
    · have : k = n := by omega
      subst this
      have HZ : Hid (rRead d.R c v = if 500 ≤ k then (8, 0, d.R) else (0, 0, d.R ++ [(c, v)])) := Lib.hid (by
        have hp : posR d.R c = none := idx_no (by rw [HN.out]; exact HA.out)
        unfold rRead
        rw [hp, HN.out])
      by_cases h5 : 500 ≤ k
      · have d5 : decide ((500 : Int) ≤ (k : Int)) = true := by simp; omega
        go_wp2_with fail
        go_ret2
        unfold RReadPost dRead
        rw [HZ.out, if_pos h5]
        exact ⟨_, rfl, H.out, .refl _ _⟩
      · have d5 : decide ((500 : Int) ≤ (k : Int)) = false := by simp; omega
        go_wp2_with (at_builtin; refine stopped ?_)
        refine Lib.hid ?_
        refine wpList_app _ (by rfl) (.tmp 50) (.tmp 54) _ (by rfl) elem_seen (.slice A k ca) _ (by rfl) (by rfl) (own_upd0 O0.out ((Upd.refl [] w).alloc _)) (.of_blk (Blk.new _ _ _) (m := 1) 1 rfl) (by intro u hu; simp at hu; rcases hu with rfl | rfl <;> rfl) (by simp only [maxLen]; omega) (by omega) (Nat.le_trans hBw (by simp)) ?_
        intro v5 w5 o5 u5 b5
        obtain ⟨A5, c5, rfl, _, _⟩ := own_slice o5
        have U5 : Hid (Upd ((Value.slice A k ca).ownBlock.toList) w w5) := Lib.hid (((Upd.refl _ w).alloc _).trans u5)
        have B5 : Hid (∀ b, (Value.slice A5 (k + 1) c5).ownBlock = some b → (Value.slice A k ca).ownBlock = some b ∨ w.heap.size ≤ b) := Lib.hid (fun b hb => by
          rcases b5 with b5 | b5
          · exact .inl (b5 ▸ hb)
          · rw [b5] at hb
            injection hb with hb
            simp at hb
            exact .inr (by omega))
        have O5 : Hid (Ow encR 47 w5 B (.slice A5 (k + 1) c5) (d.R ++ [(c, v)])) := Lib.hid (by
          have e1 : flat encR d.R ++ #[Value.int .u64 c, Value.int .i64 v].toList = flat encR (d.R ++ [(c, v)]) := by rw [flat_append]; rfl
          have e2 : k + 1 = (d.R ++ [(c, v)]).length := by rw [List.length_append, HN.out]; rfl
          rw [e1] at o5
          unfold Ow
          rw [← e2]
          exact o5)
        have HB5 : Hid (Blk w5 rb 37 #[.slice A k ca, vw, vm]) := Lib.hid (by
          have hb := HS.out.box
          rw [HN.out] at hb
          exact hb.upd U5.out (by intro hm; exact own_type HO.out hb (by decide) (by simpa using hm)))
        clear c1 o5 u5 b5
        have x0 : w5.cell? ⟨rb, 0, none⟩ = some (.slice A k ca) := HB5.out.cell 0
        have x1 : w5.frozen? ⟨rb, 0, none⟩ = false := HB5.out.frozen 0
        have x2 : rb < w5.heap.size := HB5.out.lt
        go_wp2_with fail
        go_ret2
        unfold RReadPost
        have GD := goodD_read HG.out c v
        unfold dRead at GD ⊢
        rw [HZ.out, if_neg h5] at GD ⊢
        have UF : Upd [rb] w5 (w5.setCell ⟨rb, 0, none⟩ (.slice A5 (k + 1) c5)) := (Upd.refl [rb] w5).setCell (.inl (by simp)) _
        have UT : Upd (rb :: (Value.slice A k ca).ownBlock.toList) w (w5.setCell ⟨rb, 0, none⟩ (.slice A5 (k + 1) c5)) := (U5.out.mono (by intro y hy; exact .inl (by simp at hy ⊢; exact .inr hy))).trans (UF.mono (by simp))
        have NX : ∀ {e : TypeId} {s n : Nat} {u : Value} {xs : List Value}, e ≠ 47 → e ≠ 37 → w.ownsRow B e s u n xs → (w5.setCell ⟨rb, 0, none⟩ (.slice A5 (k + 1) c5)).ownsRow B e s u n xs := fun h1 h2 ho => own_upd ho UT fun b hb hbT => by
          simp at hbT
          rcases hbT with rfl | hbT
          · exact own_type ho HS.out.box (Ne.symm h2) hb
          · exact own_own ho HO.out h1 hb (by simpa using hbT)
        refine ⟨fpD rb (.slice A5 (k + 1) c5) vw vm ms, rfl, ⟨GD, _, _, _, _, rfl, ⟨HB5.out.set_eq rfl, ?_, NX (by decide) (by decide) HS.out.ww, NX (by decide) (by decide) HS.out.m, fun i u l hu hl => NX (by decide) (by decide) (HS.out.each i u l hu hl), HS.out.b⟩⟩, ?_, ?_⟩
        · exact O5.out.upd UF (by intro b hb; simp; rintro rfl; exact own_type O5.out HB5.out (by decide) hb)
        · rw [HF.out, HN.out]
          exact UT.mono (by intro y hy; exact .inl (by unfold fpD; simp at hy ⊢; rcases hy with rfl | hy <;> simp [*]))
        · rw [HF.out, HN.out]
          intro y hy
          unfold fpD at hy ⊢
          simp only [List.mem_cons, List.mem_append, Option.mem_toList] at hy ⊢
          rcases hy with rfl | ((hy | hy) | hy) | hy
          · simp
          · rcases B5.out y hy with h | h
            · exact .inl (.inr (.inl (.inl (.inl h))))
            · exact .inr h
          · simp [hy]
          · simp [hy]
          · simp [hy]
end Go.Proofs.YtbpmkbcpnnpdjaaDoor

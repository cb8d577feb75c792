/-
  concordref08.State: what it keeps; There, Find, Get, Ceil, Range.
-/
import Derived.Test.YtjlpogmoebmkdaaDoorMdl4
import Derived.Test.YtjlpogmoebmkdaaDoorPosP
set_option linter.unusedVariables false
namespace Go.Proofs.YtjlpogmoebmkdaaDoor
open Go.RowKit Assoc MP
attribute [local go_sem] litStep_value

/-- The document's state in block rb. -/
structure RMSt (B rb : Nat) (vk vl : Value) (ms : List Value) (w : World) (s : MS) : Prop where
  box : Blk w rb 80 #[vk, vl]
  k : Ow encK 3 w B vk s.K
  l : w.ownsRow B 27 1 vl s.L.length ms
  each : ∀ (i : Nat) (v : Value) (l : AL), ms[i]? = some v → s.L[i]? = some l → Ow encPr 36 w B v l
  b : B ≤ rb
def ownsOf (ms : List Value) : List Nat := ms.flatMap (fun v => v.ownBlock.toList)
theorem mem_owns {ms : List Value} {b : Nat} : b ∈ ownsOf ms ↔ ∃ v ∈ ms, v.ownBlock = some b := by
  unfold ownsOf
  simp [List.mem_flatMap]
def fpRM (rb : Nat) (vk vl : Value) (ms : List Value) : List Nat := rb :: (vk.ownBlock.toList ++ vl.ownBlock.toList ++ ownsOf ms)
def RMdl (B rb : Nat) (F : List Nat) (w : World) (s : MS) : Prop := MP.Good s ∧ ∃ vk vl ms, F = fpRM rb vk vl ms ∧ RMSt B rb vk vl ms w s
section
variable {B rb : Nat} {vk vl : Value} {ms : List Value} {w w' : World} {s : MS} {F T : List Nat}
theorem RMSt.mlen (h : RMSt B rb vk vl ms w s) : ms.length = s.L.length := by have := own_len h.l; omega
theorem RMSt.mem (h : RMSt B rb vk vl ms w s) {v : Value} (hv : v ∈ ms) : ∃ l, l ∈ s.L ∧ Ow encPr 36 w B v l := by
  obtain ⟨i, hi, rfl⟩ := List.getElem_of_mem hv
  have hi' : i < s.L.length := by rw [← h.mlen]; exact hi
  exact ⟨s.L[i], List.getElem_mem _, h.each i _ _ (List.getElem?_eq_getElem hi) (List.getElem?_eq_getElem hi')⟩
theorem RMSt.upd (h : RMSt B rb vk vl ms w s) (hu : Upd T w w') (hT : ∀ k ∈ fpRM rb vk vl ms, k ∉ T) : RMSt B rb vk vl ms w' s := by
  unfold fpRM at hT
  simp only [List.mem_cons, List.mem_append, Option.mem_toList] at hT
  refine ⟨h.box.upd hu (hT _ (.inl rfl)), h.k.upd hu fun b hb => hT b (.inr (.inl (.inl hb))), own_upd h.l hu fun b hb => hT b (.inr (.inl (.inr hb))), fun i v l hv hl => (h.each i v l hv hl).upd hu fun b hb => hT b (.inr (.inr (mem_owns.2 ⟨v, List.mem_of_getElem? hv, hb⟩))), h.b⟩
theorem RMdl.upd (h : RMdl B rb F w s) (hu : Upd T w w') (hT : Disj F T) : RMdl B rb F w' s := by
  obtain ⟨g, vk, vl, ms, rfl, h⟩ := h
  exact ⟨g, vk, vl, ms, rfl, h.upd hu hT⟩
theorem RMdl.upd0 (h : RMdl B rb F w s) (hu : Upd [] w w') : RMdl B rb F w' s := h.upd hu (fun k _ => by simp)
theorem RMSt.lt (h : RMSt B rb vk vl ms w s) : ∀ k ∈ fpRM rb vk vl ms, B ≤ k ∧ k < w.heap.size := by
  intro k hk
  unfold fpRM at hk
  simp only [List.mem_cons, List.mem_append, Option.mem_toList] at hk
  rcases hk with rfl | (hk | hk) | hk
  · exact ⟨h.b, h.box.lt⟩
  · exact own_lt h.k hk
  · exact own_lt h.l hk
  · obtain ⟨v, hv, hb⟩ := mem_owns.1 hk
    obtain ⟨l, _, ho⟩ := h.mem hv
    exact own_lt ho hb
theorem RMdl.lt (h : RMdl B rb F w s) : ∀ k ∈ F, B ≤ k ∧ k < w.heap.size := by
  obtain ⟨g, vk, vl, ms, rfl, h⟩ := h
  exact h.lt
/-- A collection's cells. -/
theorem RMSt.at_ (h : RMSt B rb vk vl ms w s) {i : Nat} (hi : i < s.L.length) : ∃ gl cl Ai ci, vl = .slice (some ⟨gl, 0, none⟩) s.L.length cl ∧ w.cell? ⟨gl, i, none⟩ = some (.slice Ai (coll s i).length ci) ∧ Ow encPr 36 w B (.slice Ai (coll s i).length ci) (coll s i) ∧ ms[i]? = some (.slice Ai (coll s i).length ci) := by
  obtain ⟨gl, cl, cur, rfl, _⟩ := own_form h.l (by omega)
  have hm : i < ms.length := by rw [h.mlen]; exact hi
  have ho := h.each i _ _ (List.getElem?_eq_getElem hm) (coll_get hi)
  obtain ⟨Ai, ci, e, _⟩ := own_slice ho
  have hc := own_cell h.l i _ (List.getElem?_eq_getElem hm)
  rw [e] at ho hc
  exact ⟨gl, cl, Ai, ci, rfl, hc, ho, by rw [List.getElem?_eq_getElem hm, e]⟩
end
set_option maxRecDepth 100000 in
theorem rm_there (B rb : Nat) (F : List Nat) (s : MS) (c : Int) (w : World) (h : RMdl B rb F w s) :
    Calls Tryd.prog 55 #[.pointer (some ⟨rb, 0, none⟩), .int .i64 c] w fun e w' => e = .returned (.bool (isC s c)) ∧ w = w' := by
  obtain ⟨g, vk, vl, ms, hF, h⟩ := h
  obtain ⟨Al, cl, rfl, _, _⟩ := own_slice h.l
  obtain ⟨n, hn⟩ : ∃ n, s.L.length = n := ⟨_, rfl⟩
  have c1 : w.cell? ⟨rb, 1, none⟩ = some (.slice Al n cl) := by rw [← hn]; exact h.box.cell 1
  have hn8 : n ≤ 8 := by rw [← hn, ← g.kl]; exact g.k8
  obtain ⟨r, hr⟩ : ∃ r, isC s c = r := ⟨_, rfl⟩
  have HR : Hid (r = decide (0 ≤ c ∧ c < (n : Int))) := Lib.hid (by rw [← hr]; unfold isC; rw [hn])
  rw [hr]
  clear h g hF hn hr
  go_enter Tryd.func55, Tryd.ntmps55
  by_cases h0 : 0 ≤ c
  · have d0 : decide (0 ≤ c) = true := by simpa using h0
    by_cases h1 : c < (n : Int)
    · have d1 : decide (c < (n : Int)) = true := by simpa using h1
      have HZ : Hid (r = true) := Lib.hid (by rw [HR.out, decide_eq_true_iff]; exact ⟨h0, h1⟩)
      clear h0 h1
      go_wp2_with fail
      go_ret
      exact ⟨by rw [HZ.out]; rfl, rfl⟩
    · have d1 : decide (c < (n : Int)) = false := by simpa using h1
      have HZ : Hid (r = false) := Lib.hid (by rw [HR.out, decide_eq_false_iff_not]; exact fun h => h1 h.2)
      clear h0 h1
      go_wp2_with fail
      go_ret
      exact ⟨by rw [HZ.out]; rfl, rfl⟩
  · have d0 : decide (0 ≤ c) = false := by simpa using h0
    have HZ : Hid (r = false) := Lib.hid (by rw [HR.out, decide_eq_false_iff_not]; exact fun h => h0 h.1)
    clear h0
    go_wp2_with fail
    go_ret
    exact ⟨by rw [HZ.out]; rfl, rfl⟩
set_option maxRecDepth 100000 in
set_option maxHeartbeats 2000000 in
theorem rm_find (B rb : Nat) (F : List Nat) (s : MS) (i : Nat) (k : Int) (w : World) (h : RMdl B rb F w s) (hi : i < s.L.length) :
    Calls Tryd.prog 56 #[.pointer (some ⟨rb, 0, none⟩), .int .i64 i, .int .i64 k] w fun e w' => e = .returned (.int .i64 (posW (coll s i) k)) ∧ w = w' := by
  obtain ⟨hgd, vk, vl, ms, hF, hst⟩ := h
  obtain ⟨gl, cl, Ai, ci, rfl, hcell, hoi, _⟩ := hst.at_ hi
  obtain ⟨N, hN⟩ : ∃ N, s.L.length = N := ⟨_, rfl⟩
  obtain ⟨n, hn⟩ : ∃ n, (coll s i).length = n := ⟨_, rfl⟩
  have hn1 : n ≤ 100 := hn ▸ hgd.len _ (coll_mem hi)
  have hi2 : i < N := hN ▸ hi
  have c1 : w.cell? ⟨rb, 1, none⟩ = some (.slice (some ⟨gl, 0, none⟩) N cl) := by rw [← hN]; exact hst.box.cell 1
  have e0 : w.cell? ⟨gl, i, none⟩ = some (.slice Ai n ci) := by rw [← hn]; exact hcell
  have ON : Hid (w.ownsRow B 36 2 (.slice Ai n ci) n (flat encPr (coll s i))) := Lib.hid (by have := hoi; unfold Ow at this; rw [hn] at this; exact this)
  have HN := Lib.hid hn
  have OI : Hid (Ow encPr 36 w B (.slice Ai n ci) (coll s i)) := Lib.hid (by rw [← hn]; exact hoi)
  have q1 : (0 : Int) ≤ (i : Int) := by omega
  have q2 : (i : Int) < (N : Int) := by omega
  clear hcell hoi hN hn
  obtain ⟨r, hr⟩ : ∃ r, posW (coll s i) k = r := ⟨_, rfl⟩
  have HR := Lib.hid hr
  rw [hr]
  clear hgd hst hF hi hr
  go_enter Tryd.func56, Tryd.ntmps56
  go_wp2_with fail
  go_loop [7] (fun v => ∃ j : Nat, v = .int .i64 j ∧ j ≤ n ∧ Hid (∀ p, p < j → ((coll s i).getD p default).1 ≠ k)) (fun v => n - (intOf v).toNat)
  case atStart => exact ⟨0, rfl, by omega, Lib.hid (fun j hj => by omega)⟩
  case round =>
    obtain ⟨j, rfl, hj, HA⟩ := hrel
    by_cases hjn : j < n
    · obtain ⟨⟨xc, xv⟩, hx⟩ : ∃ x, (coll s i)[j]? = some x := ⟨_, List.getElem?_eq_getElem (by rw [HN.out]; omega)⟩
      obtain ⟨gw, cg, cur, e1, _⟩ := own_form ON.out (by omega)
      injection e1 with e1 _ e1'
      subst e1 e1'
      have f0 : w.cell? ⟨gw, j * 2, none⟩ = some (.int .i64 xc) := OI.out.at_ hx 0 _ rfl
      have HX := Lib.hid hx
      have q3 : (0 : Int) ≤ (j : Int) := by omega
      have q4 : (j : Int) < (n : Int) := by omega
      clear hx
      by_cases hid : xc = k
      · have d1 : (xc == k) = true := by simpa using hid
        have HZ : Hid (r = j) := Lib.hid (by rw [← HR.out]; unfold posW; rw [idx_at HA.out HX.out hid])
        clear hid
        go_wp2_with fail
        go_ret
        exact ⟨by rw [HZ.out]; rfl, rfl⟩
      · have d1 : (xc == k) = false := by simpa using hid
        have HZ : Hid (∀ p, p < j + 1 → ((coll s i).getD p default).1 ≠ k) := Lib.hid (fun p hp => by
          by_cases e : p = j
          · rw [e, List.getD_eq_getElem?_getD, HX.out]; exact hid
          · exact HA.out p (by omega))
        clear hid
        go_wp2_with fail
        go_round
        case rel => exact ⟨j + 1, by go_num, by omega, HZ⟩
        case measure => simp [intOf]; omega
    · have : j = n := by omega
      subst this
      have HZ : Hid (r = -1) := Lib.hid (by rw [← HR.out]; unfold posW; rw [idx_no (by rw [HN.out]; exact HA.out)])
      go_wp2_with fail
      go_ret
      exact ⟨by rw [HZ.out]; rfl, rfl⟩
end Go.Proofs.YtjlpogmoebmkdaaDoor

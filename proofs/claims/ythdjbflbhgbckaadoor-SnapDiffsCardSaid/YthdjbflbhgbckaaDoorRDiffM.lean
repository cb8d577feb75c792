/-
  The document's Diff, plainly: over the keys of both. No program in sight. concordref27.Invert. concordref27.Diff.
-/
import Derived.Test.YthdjbflbhgbckaaDoorApplyM
import Derived.Test.YthdjbflbhgbckaaDoorInvert
import Derived.Test.YthdjbflbhgbckaaDoorRef27b
set_option linter.unusedVariables false
namespace Go.Proofs.YthdjbflbhgbckaaDoor.Snap
open Assoc Stab

/-- What the document says of one key. -/
def dtK (a b : PL) (k : Int) : Option Tn :=
  match get a k, get b k with
  | none, some v => some (1, k, -1, v)
  | none, none => some (1, k, -1, -1)
  | some u, none => some (2, k, u, -1)
  | some u, some v => if u = v then none else some (3, k, u, v)
def keysOf (M a b : PL) : Prop := ∀ k, (get M k).isSome = ((get a k).isSome || (get b k).isSome)
theorem filterMap_same {α β : Type} {f g : α → Option β} : ∀ {l : List α}, (∀ x ∈ l, f x = g x) → l.filterMap f = l.filterMap g
  | [], _ => rfl
  | x :: l, h => by rw [List.filterMap_cons, List.filterMap_cons, h x (List.mem_cons_self ..), filterMap_same (fun y hy => h y (List.mem_cons_of_mem _ hy))]
theorem dt_step {m : Int × Int} {M a b a' b' : PL} {lo : Int} (hs : Srt (m :: M)) (hm : m.1 = lo) (ha : ∀ k, k ≠ lo → get a k = get a' k) (hb : ∀ k, k ≠ lo → get b k = get b' k) :
    (m :: M).filterMap (fun p => dtK a b p.1) = (dtK a b lo).toList ++ M.filterMap (fun p => dtK a' b' p.1) := by
  have hr : M.filterMap (fun p => dtK a b p.1) = M.filterMap (fun p => dtK a' b' p.1) := filterMap_same fun p hp => by
    have h1 := hs.head p hp
    have h2 : p.1 ≠ lo := by omega
    unfold dtK
    rw [ha p.1 h2, hb p.1 h2]
  rw [List.filterMap_cons, hm, hr]
  cases dtK a b lo <;> rfl
theorem keys_step {m : Int × Int} {M a b a' b' : PL} {lo : Int} (hs : Srt (m :: M)) (hm : m.1 = lo) (hk : keysOf (m :: M) a b) (ha : ∀ k, k ≠ lo → get a k = get a' k) (hb : ∀ k, k ≠ lo → get b k = get b' k) (ha0 : get a' lo = none) (hb0 : get b' lo = none) : keysOf M a' b' := fun k => by
  by_cases e : k = lo
  · rw [e, ha0, hb0, get_low (fun x hx => by have := hs.head x hx; omega)]
    rfl
  · have := hk k
    rw [get_cons, if_neg (by omega), ha k e, hb k e] at this
    exact this
theorem keys_head {M a b : PL} {lo : Int} (hs : Srt M) (hk : keysOf M a b) (h1 : (get a lo).isSome || (get b lo).isSome) (h2 : ∀ k, ((get a k).isSome || (get b k).isSome) = true → lo ≤ k) : ∃ m M', M = m :: M' ∧ m.1 = lo := by
  cases M with
  | nil =>
    have := hk lo
    rw [h1] at this
    simp [get_nil] at this
  | cons m M =>
    refine ⟨m, M, rfl, ?_⟩
    have h3 : lo ≤ m.1 := h2 m.1 (by rw [← hk m.1, get_cons, if_pos rfl]; rfl)
    have h4 := hk lo
    rw [h1, get_cons] at h4
    by_cases e : m.1 = lo
    · exact e
    · rw [if_neg e] at h4
      cases hg : get M lo with
      | none => rw [hg] at h4; cases h4
      | some v =>
        have := hs.head _ (mem_of_get hg)
        simp at this
        omega
theorem has_low {p : Int × Int} {a : PL} (hs : Srt (p :: a)) {k : Int} (h : (get (p :: a) k).isSome = true) : p.1 ≤ k := by
  rw [get_cons] at h
  by_cases e : p.1 = k
  · omega
  · rw [if_neg e] at h
    cases hg : get a k with
    | none => rw [hg] at h; cases h
    | some v =>
      have := hs.head _ (mem_of_get hg)
      simp at this
      omega
theorem get_tail {p : Int × Int} {a : PL} {k : Int} (h : k ≠ p.1) : get (p :: a) k = get a k := by rw [get_cons, if_neg (fun e => h e.symm)]
theorem get_head {p : Int × Int} {a : PL} : get (p :: a) p.1 = some p.2 := by rw [get_cons, if_pos rfl]
theorem get_tail_low {p : Int × Int} {a : PL} (hs : Srt (p :: a)) {k : Int} (h : k ≤ p.1) : get a k = none := get_low fun x hx => by have := hs.head x hx; omega
theorem doc_diff : ∀ (M a b : PL), Srt M → Srt a → Srt b → keysOf M a b → M.filterMap (fun p => dtK a b p.1) = diffL a b
  | M, [], [], hM, ha, hb, hk => by
    cases M with
    | nil => rw [diff_nil]; rfl
    | cons m M =>
      have := hk m.1
      rw [get_head] at this
      simp [get_nil] at this
  | M, p :: a, [], hM, ha, hb, hk => by
    obtain ⟨m, M', rfl, hm⟩ := keys_head hM hk (lo := p.1) (by rw [get_head]; rfl) (fun k h => by rw [get_nil] at h; simp at h; exact has_low ha h)
    have e1 : ∀ k, k ≠ p.1 → get (p :: a) k = get a k := fun k h => get_tail h
    have e2 : ∀ k, k ≠ p.1 → get ([] : PL) k = get [] k := fun k h => rfl
    rw [dt_step hM hm e1 e2, doc_diff M' a [] hM.tail ha.tail hb (keys_step hM hm hk e1 e2 (get_tail_low ha (Int.le_refl _)) rfl), diff_left]
    unfold dtK
    rw [get_head, get_nil]
    rfl
  | M, [], q :: b, hM, ha, hb, hk => by
    obtain ⟨m, M', rfl, hm⟩ := keys_head hM hk (lo := q.1) (by rw [get_head]; simp) (fun k h => by rw [get_nil] at h; simp at h; exact has_low hb h)
    have e1 : ∀ k, k ≠ q.1 → get ([] : PL) k = get [] k := fun k h => rfl
    have e2 : ∀ k, k ≠ q.1 → get (q :: b) k = get b k := fun k h => get_tail h
    rw [dt_step hM hm e1 e2, doc_diff M' [] b hM.tail ha hb.tail (keys_step hM hm hk e1 e2 rfl (get_tail_low hb (Int.le_refl _))), diff_right]
    unfold dtK
    rw [get_head, get_nil]
    rfl
  | M, p :: a, q :: b, hM, ha, hb, hk => by
    rcases Int.lt_trichotomy p.1 q.1 with h | h | h
    · obtain ⟨m, M', rfl, hm⟩ := keys_head hM hk (lo := p.1) (by rw [get_head]; rfl) (fun k h' => by
        rcases Bool.or_eq_true _ _ ▸ h' with h2 | h2
        · exact has_low ha h2
        · have := has_low hb h2; omega)
      have e1 : ∀ k, k ≠ p.1 → get (p :: a) k = get a k := fun k h => get_tail h
      have e2 : ∀ k, k ≠ p.1 → get (q :: b) k = get (q :: b) k := fun k h => rfl
      have hq : get (q :: b) p.1 = none := get_low fun x hx => by
        rcases List.mem_cons.1 hx with rfl | hx
        · exact h
        · have := hb.head x hx; omega
      rw [dt_step hM hm e1 e2, doc_diff M' a (q :: b) hM.tail ha.tail hb (keys_step hM hm hk e1 e2 (get_tail_low ha (Int.le_refl _)) hq), diff_lt h]
      unfold dtK
      rw [get_head, hq]
      rfl
    · obtain ⟨m, M', rfl, hm⟩ := keys_head hM hk (lo := p.1) (by rw [get_head]; rfl) (fun k h' => by
        rcases Bool.or_eq_true _ _ ▸ h' with h2 | h2
        · exact has_low ha h2
        · have := has_low hb h2; omega)
      have e1 : ∀ k, k ≠ p.1 → get (p :: a) k = get a k := fun k h => get_tail h
      have e2 : ∀ k, k ≠ p.1 → get (q :: b) k = get b k := fun k h' => get_tail (by omega)
      rw [dt_step hM hm e1 e2, doc_diff M' a b hM.tail ha.tail hb.tail (keys_step hM hm hk e1 e2 (get_tail_low ha (Int.le_refl _)) (get_tail_low hb (by omega))), diff_eq h]
      unfold dtK changed
      rw [get_head, h, get_head]
      by_cases hv : p.2 = q.2
      · simp only
        rw [if_pos hv, if_pos hv]
        rfl
      · simp only
        rw [if_neg hv, if_neg hv]
        rfl
    · obtain ⟨m, M', rfl, hm⟩ := keys_head hM hk (lo := q.1) (by rw [get_head]; simp) (fun k h' => by
        rcases Bool.or_eq_true _ _ ▸ h' with h2 | h2
        · have := has_low ha h2; omega
        · exact has_low hb h2)
      have e1 : ∀ k, k ≠ q.1 → get (p :: a) k = get (p :: a) k := fun k h => rfl
      have e2 : ∀ k, k ≠ q.1 → get (q :: b) k = get b k := fun k h' => get_tail h'
      have hp : get (p :: a) q.1 = none := get_low fun x hx => by
        rcases List.mem_cons.1 hx with rfl | hx
        · exact h
        · have := ha.head x hx; omega
      rw [dt_step hM hm e1 e2, doc_diff M' (p :: a) b hM.tail ha hb.tail (keys_step hM hm hk e1 e2 hp (get_tail_low hb (Int.le_refl _))), diff_gt h]
      unfold dtK
      rw [get_head, hp]
      rfl
termination_by M a b => a.length + b.length
end Go.Proofs.YthdjbflbhgbckaaDoor.Snap

namespace Go.Proofs.YthdjbflbhgbckaaDoor
open Go.RowKit Stab Snap
attribute [local go_sem] litStep_value

def lenV3 : Value → Nat
  | .slice _ n _ => n
  | _ => 0
/-- A pointer to a block that is new. -/
def boxN (H : Nat) (t : TypeId) (cs : Array Value) : Spec := ⟨fun _ => [], fun v w => ∃ g, v = .pointer (some ⟨g, 0, none⟩) ∧ H ≤ g ∧ Blk w g t cs, fun v => ∃ g, v = .pointer (some ⟨g, 0, none⟩)⟩
theorem lasts0_boxN (w0 : World) (H : Nat) (t : TypeId) (cs : Array Value) : Lasts0 w0 (boxN H t cs) :=
  ⟨fun v w w' _ ⟨g, h1, h2, h3⟩ hu => ⟨g, h1, h2, h3.upd hu (by simp)⟩, ⟨_, 0, rfl⟩, fun _ _ ⟨g, h, _⟩ => ⟨g, h⟩⟩
set_option maxRecDepth 100000 in
set_option maxHeartbeats 8000000 in
theorem r_invert (A : Option Addr) (n c : Nat) (L : List Tn) (w : World) (h : Rd encTn w (.slice A n c) L) (hn : L.length = n) (hl : n ≤ 300) :
    Calls Tryd.prog 21 #[.slice A n c] w fun e w' => ∃ v, e = .returned v ∧ Ow encTn 51 w' w.heap.size v (invL L) ∧ Upd [] w w' := by
  have H := Lib.hid h
  have HN := Lib.hid hn
  have w1 : IntKind.i64.wrap ((n : Int) - 1) = (n : Int) - 1 := by rw [IntKind.wrap_i64]; omega
  clear h hn
  go_enter Tryd.func21, Tryd.ntmps21
  go_wp2_with fail
  go_loopw [4, 3] (fun vi v3 wr => ∃ (k : Nat) (j : Int) (A3 : Option Addr) (c3 : Nat), vi = .int .i64 j ∧ v3 = .slice A3 k c3 ∧ k ≤ n ∧ j + (k : Int) + 1 = n ∧ Hid (Upd [] w wr) ∧ Hid (Ow encTn 51 wr w.heap.size (.slice A3 k c3) (((placesB n).take k).map (fun m => invT (L.getD m default))))) (fun vi _ _ => (intOf vi + 1).toNat)
  case atStart => exact ⟨0, (n : Int) - 1, none, 0, rfl, rfl, Nat.zero_le _, by omega, Lib.hid (.refl _ _), Lib.hid (Ow.nil _ _ _ _)⟩
  case round =>
    obtain ⟨k, j, A3, c3, rfl, rfl, hk, hjk, U, O⟩ := hrel
    rename World => wr
    by_cases hkn : k < n
    · obtain ⟨m, rfl⟩ : ∃ m : Nat, j = (m : Int) := ⟨n - 1 - k, by omega⟩
      obtain ⟨t, ht⟩ : ∃ t, L[m]? = some t := ⟨_, List.getElem?_eq_getElem (by rw [HN.out]; omega)⟩
      have HT2 := Lib.hid ht
      obtain ⟨ad, rfl, -, -⟩ := (H.out.upd0 U.out).at_ ht
      have CS : Hid (∀ W, Upd [] w W → W.cell? (ad.add (m * 4)) = some (.int .i64 t.1) ∧ W.cell? ⟨(ad.add (m * 4)).block, (ad.add (m * 4)).off + 1, none⟩ = some (.int .i64 t.2.1) ∧ W.cell? ⟨(ad.add (m * 4)).block, (ad.add (m * 4)).off + 2, none⟩ = some (.int .i64 t.2.2.1) ∧ W.cell? ⟨(ad.add (m * 4)).block, (ad.add (m * 4)).off + 3, none⟩ = some (.int .i64 t.2.2.2)) := Lib.hid (fun W hW => by
        obtain ⟨ad', e, _, hcl⟩ := (H.out.upd0 hW).at_ HT2.out
        cases e
        exact ⟨hcl 0 _ rfl, by have := hcl 1 _ rfl; rwa [show m * (encTn).s + 1 = m * 4 + (0 + 1) from rfl, add_more] at this, by have := hcl 2 _ rfl; rwa [show m * (encTn).s + 2 = m * 4 + (1 + 1) from rfl, add_more] at this, by have := hcl 3 _ rfl; rwa [show m * (encTn).s + 3 = m * 4 + (2 + 1) from rfl, add_more] at this⟩)
      have CD : Hid (∀ W, Upd [] wr.drew W → W.cell? (ad.add (m * 4)) = some (.int .i64 t.1) ∧ W.cell? ⟨(ad.add (m * 4)).block, (ad.add (m * 4)).off + 1, none⟩ = some (.int .i64 t.2.1) ∧ W.cell? ⟨(ad.add (m * 4)).block, (ad.add (m * 4)).off + 2, none⟩ = some (.int .i64 t.2.2.1) ∧ W.cell? ⟨(ad.add (m * 4)).block, (ad.add (m * 4)).off + 3, none⟩ = some (.int .i64 t.2.2.2)) := Lib.hid (fun W hW => CS.out W (U.out.drew.trans hW))
      have q1 : (0 : Int) ≤ (m : Int) := by omega
      have q2 : (m : Int) < (n : Int) := by omega
      have q3 : decide ((0 : Int) ≤ (m : Int)) = true := by simp
      have TKE : Hid ((placesB n).take (k + 1) = (placesB n).take k ++ [m]) := Lib.hid (by rw [List.take_add_one, placesB_at hkn, show n - 1 - k = m by omega]; rfl)
      have HXD : Hid (L.getD m default = t) := Lib.hid (by rw [List.getD_eq_getElem?_getD, ht]; rfl)
      clear ht
      go_wp2_with fail
      refine wp_invNT0 22 [(20, .det (.agg #[.int .i64 t.1, .int .i64 t.2.1, .int .i64 t.2.2.2, .int .i64 t.2.2.1])), (21, boxN wr.heap.size 51 #[.int .i64 0, .int .i64 0, .int .i64 0, .int .i64 0])] (by kernel_rfl) (by simp) (by kernel_rfl) (by kernel_rfl) ⟨lasts0_det _ _, lasts0_boxN _ _ _ _, trivial⟩ ?_
      simp only [List.take_succ_cons, List.take_zero, List.drop_succ_cons, List.drop_zero]
      with_reducible apply wpV_light
      · simp only [lightOp]
      · intro W hU hF
        have f0 := CD.out W hU
        clear hU hF
        go_simp
        exact rfl
      simp only [Act.put, List.setIfInBounds_toArray, List.set_cons_zero, List.set_cons_succ]
      with_reducible apply wpV_light
      · simp only [lightOp]
      · intro W hU hF
        have f0 := CD.out W hU
        clear hU hF
        go_simp
        exact rfl
      simp only [Act.put, List.setIfInBounds_toArray, List.set_cons_zero, List.set_cons_succ]
      with_reducible apply wpV_light
      · simp only [lightOp]
      · intro W hU hF
        have f0 := CD.out W hU
        clear hU hF
        go_simp
        exact rfl
      simp only [Act.put, List.setIfInBounds_toArray, List.set_cons_zero, List.set_cons_succ]
      with_reducible apply wpV_light
      · simp only [lightOp]
      · intro W hU hF
        have f0 := CD.out W hU
        clear hU hF
        go_simp
        exact rfl
      simp only [Act.put, List.setIfInBounds_toArray, List.set_cons_zero, List.set_cons_succ]
      with_reducible apply wpV_light
      · simp only [lightOp]
      · intro W hU hF
        have f0 := CD.out W hU
        clear hU hF
        go_simp
        exact rfl
      simp only [Act.put, List.setIfInBounds_toArray, List.set_cons_zero, List.set_cons_succ]
      with_reducible apply wpV_light
      · simp only [lightOp]
      · intro W hU hF
        have f0 := CD.out W hU
        clear hU hF
        go_simp
        exact rfl
      simp only [Act.put, List.setIfInBounds_toArray, List.set_cons_zero, List.set_cons_succ]
      with_reducible apply wpV_light
      · simp only [lightOp]
      · intro W hU hF
        have f0 := CD.out W hU
        clear hU hF
        go_simp
        exact rfl
      simp only [Act.put, List.setIfInBounds_toArray, List.set_cons_zero, List.set_cons_succ]
      with_reducible apply wpV_light
      · simp only [lightOp]
      · intro W hU hF
        have f0 := CD.out W hU
        clear hU hF
        go_simp
        exact rfl
      simp only [Act.put, List.setIfInBounds_toArray, List.set_cons_zero, List.set_cons_succ]
      with_reducible apply wpV_light
      · simp only [lightOp]
      · intro W hU hF
        have f0 := CD.out W hU
        clear hU hF
        go_simp
        exact rfl
      simp only [Act.put, List.setIfInBounds_toArray, List.set_cons_zero, List.set_cons_succ]
      with_reducible apply wpV_light
      · simp only [lightOp]
      · intro W hU hF
        have f0 := CD.out W hU
        clear hU hF
        go_simp
        exact rfl
      simp only [Act.put, List.setIfInBounds_toArray, List.set_cons_zero, List.set_cons_succ]
      with_reducible apply wpV_light
      · simp only [lightOp]
      · intro W hU hF
        have f0 := CD.out W hU
        clear hU hF
        go_simp
        exact rfl
      simp only [Act.put, List.setIfInBounds_toArray, List.set_cons_zero, List.set_cons_succ]
      with_reducible apply wpV_light
      · simp only [lightOp]
      · intro W hU hF
        have f0 := CD.out W hU
        clear hU hF
        go_simp
        exact rfl
      simp only [Act.put, List.setIfInBounds_toArray, List.set_cons_zero, List.set_cons_succ]
      with_reducible apply wpV_light
      · simp only [lightOp]
      · intro W hU hF
        have f0 := CD.out W hU
        clear hU hF
        go_simp
        exact rfl
      simp only [Act.put, List.setIfInBounds_toArray, List.set_cons_zero, List.set_cons_succ]
      with_reducible apply wpV_light
      · simp only [lightOp]
      · intro W hU hF
        have f0 := CD.out W hU
        clear hU hF
        go_simp
        exact rfl
      simp only [Act.put, List.setIfInBounds_toArray, List.set_cons_zero, List.set_cons_succ]
      with_reducible apply wpV_light
      · simp only [lightOp]
      · intro W hU hF
        have f0 := CD.out W hU
        clear hU hF
        go_simp
        exact rfl
      simp only [Act.put, List.setIfInBounds_toArray, List.set_cons_zero, List.set_cons_succ]
      with_reducible apply wpV_light
      · simp only [lightOp]
      · intro W hU hF
        have f0 := CD.out W hU
        clear hU hF
        go_simp
        exact rfl
      simp only [Act.put, List.setIfInBounds_toArray, List.set_cons_zero, List.set_cons_succ]
      with_reducible apply wpV_light
      · simp only [lightOp]
      · intro W hU hF
        have f0 := CD.out W hU
        clear hU hF
        go_simp
        exact rfl
      simp only [Act.put, List.setIfInBounds_toArray, List.set_cons_zero, List.set_cons_succ]
      with_reducible apply wpV_light
      · simp only [lightOp]
      · intro W hU hF
        have f0 := CD.out W hU
        clear hU hF
        go_simp
        exact rfl
      simp only [Act.put, List.setIfInBounds_toArray, List.set_cons_zero, List.set_cons_succ]
      with_reducible apply wpV_light
      · simp only [lightOp]
      · intro W hU hF
        have f0 := CD.out W hU
        clear hU hF
        go_simp
        exact rfl
      simp only [Act.put, List.setIfInBounds_toArray, List.set_cons_zero, List.set_cons_succ]
      with_reducible apply wpV_light
      · simp only [lightOp]
      · intro W hU hF
        have f0 := CD.out W hU
        clear hU hF
        go_simp
        exact rfl
      simp only [Act.put, List.setIfInBounds_toArray, List.set_cons_zero, List.set_cons_succ]
      refine wpV_heavy (by simp only [lightOp]) (by rfl) (fun W hU hk hF K hK => ?_) ?_
      · go_wp2_with fail
        exact hK.out _ _ (outV_new rfl rfl (by intro b hb; cases hb) (.refl _ _))
      rintro _ rfl
      simp only [Act.put, List.setIfInBounds_toArray, List.set_cons_zero, List.set_cons_succ]
      refine wpV_heavy (by simp only [lightOp]) (by rfl) (fun W hU hk hF K hK => ?_) ?_
      · go_wp2_with fail
        exact hK.out _ _ (outV_new rfl ⟨_, rfl, hU.size, Blk.new _ _ _⟩ (by intro b hb; cases hb) ((Upd.refl [] _).alloc _))
      rintro _ ⟨tb, rfl⟩
      simp only [Act.put, List.setIfInBounds_toArray, List.set_cons_zero, List.set_cons_succ]
      refine wpV_end (fun W hU _ hF => ?_)
      have U6 : Hid (Upd [] wr W) := Lib.hid ((Upd.refl [] wr).drew.trans hU)
      have TB : Hid (wr.heap.size ≤ tb ∧ Blk W tb 51 #[.int .i64 0, .int .i64 0, .int .i64 0, .int .i64 0]) := Lib.hid (by
        obtain ⟨g2, he, hg, hb⟩ := hF.out.2.1 (by kernel_rfl)
        injection he with he
        injection he with he
        injection he with he
        subst he
        exact ⟨hg, hb⟩)
      clear hU hF CD
      have e0 : W.cell? ⟨tb, 0, none⟩ = some (.int .i64 0) := TB.out.2.cell 0
      have e1 : W.cell? ⟨tb, 1, none⟩ = some (.int .i64 0) := TB.out.2.cell 1
      have e2 : W.cell? ⟨tb, 2, none⟩ = some (.int .i64 0) := TB.out.2.cell 2
      have e3 : W.cell? ⟨tb, 3, none⟩ = some (.int .i64 0) := TB.out.2.cell 3
      have ez : ∀ q, W.frozen? ⟨tb, q, none⟩ = false := fun q => TB.out.2.frozen q
      have el : tb < W.heap.size := TB.out.2.lt
      refine wpT_op (by rfl) (fun K hK => ?_)
      go_wp2_with fail
      refine hK.out _ _ ?_
      clear hK K
      try simp only [Act.put, List.setIfInBounds_toArray, List.set_cons_zero, List.set_cons_succ]
      refine wpT_end ?_
      have TB7 := Lib.hid ((((TB.out.2.set_eq (i := 0) (u := .int .i64 t.1) rfl).set_eq (i := 1) (u := .int .i64 t.2.1) rfl).set_eq (i := 2) (u := .int .i64 t.2.2.2) rfl).set_eq (i := 3) (u := .int .i64 t.2.2.1) rfl)
      have U7 : Hid (Upd [] wr ((((W.setCell ⟨tb, 0, none⟩ (.int .i64 t.1)).setCell ⟨tb, 1, none⟩ (.int .i64 t.2.1)).setCell ⟨tb, 2, none⟩ (.int .i64 t.2.2.2)).setCell ⟨tb, 3, none⟩ (.int .i64 t.2.2.1))) := Lib.hid ((((U6.out.setCell (.inr TB.out.1) _).setCell (.inr TB.out.1) _).setCell (.inr TB.out.1) _).setCell (.inr TB.out.1) _)
      clear e0 e1 e2 e3 ez el U6
      generalize ((((W.setCell ⟨tb, 0, none⟩ (.int .i64 t.1)).setCell ⟨tb, 1, none⟩ (.int .i64 t.2.1)).setCell ⟨tb, 2, none⟩ (.int .i64 t.2.2.2)).setCell ⟨tb, 3, none⟩ (.int .i64 t.2.2.1)) = W7 at *
      have OT : Hid ((Value.slice A3 k c3).ownBlock ≠ some tb) := Lib.hid (fun e => by have := (own_lt O.out e).2; have := TB.out.1; omega)
      have OTN : Hid (∀ x, (Value.slice A3 k c3).ownBlock = some x → x ∉ [tb]) := Lib.hid (fun x hx hm => OT.out (by rw [hx]; simpa using hm))
      obtain ⟨a0, -⟩ := CS.out W7 (U.out.trans U7.out)
      have g0 : W7.cell? ⟨tb, 0, none⟩ = some (.int .i64 t.1) := TB7.out.cell 0
      have g1 : W7.cell? ⟨tb, 1, none⟩ = some (.int .i64 t.2.1) := TB7.out.cell 1
      have g2 : W7.cell? ⟨tb, 2, none⟩ = some (.int .i64 t.2.2.2) := TB7.out.cell 2
      have g3 : W7.cell? ⟨tb, 3, none⟩ = some (.int .i64 t.2.2.1) := TB7.out.cell 3
      have gz : ∀ q, W7.frozen? ⟨tb, q, none⟩ = false := fun q => TB7.out.frozen q
      have gl : tb < W7.heap.size := TB7.out.lt
      by_cases k1 : t.1 = 1
      · skip
        have UF : Hid (Upd [] w (W7.setCell ⟨tb, 0, none⟩ (.int .i64 2))) := Lib.hid (((U.out.trans U7.out).setCell (.inr (Nat.le_trans U.out.size TB.out.1)) _))
        have OF : Hid (Ow encTn 51 (W7.setCell ⟨tb, 0, none⟩ (.int .i64 2)) w.heap.size (.slice A3 k c3) (((placesB n).take k).map (fun m => invT (L.getD m default)))) := Lib.hid (((O.out.upd0 U7.out).upd ((Upd.refl [tb] W7).setCell (.inl (by simp)) _) OTN.out))
        have BF : Hid (Blk (W7.setCell ⟨tb, 0, none⟩ (.int .i64 2)) tb 51 #[.int .i64 2, .int .i64 t.2.1, .int .i64 t.2.2.2, .int .i64 t.2.2.1]) := Lib.hid ((TB7.out.set_eq rfl))
        have OA : Hid ((((W7.setCell ⟨tb, 0, none⟩ (.int .i64 2))).alloc (.cells #[.int .i64 2, .int .i64 t.2.1, .int .i64 t.2.2.2, .int .i64 t.2.2.1] 51)).ownsRow w.heap.size 51 4 (.slice A3 k c3) k (flat encTn (((placesB n).take k).map (fun m => invT (L.getD m default))))) := Lib.hid (by have := OF.out.upd0 ((Upd.refl [] (W7.setCell ⟨tb, 0, none⟩ (.int .i64 2))).alloc (.cells #[.int .i64 2, .int .i64 t.2.1, .int .i64 t.2.2.2, .int .i64 t.2.2.1] 51)); unfold Ow at this; rw [List.length_map, List.length_take, placesB_len, Nat.min_eq_left (by omega)] at this; exact this)
        have UA := Lib.hid (UF.out.alloc (.cells #[.int .i64 2, .int .i64 t.2.1, .int .i64 t.2.2.2, .int .i64 t.2.2.1] 51))
        have SZ : ((W7.setCell ⟨tb, 0, none⟩ (.int .i64 2))).heap.size = W7.heap.size := (by simp)
        have LT : Hid (Src (((W7.setCell ⟨tb, 0, none⟩ (.int .i64 2))).alloc (.cells #[.int .i64 2, .int .i64 t.2.1, .int .i64 t.2.2.2, .int .i64 t.2.2.1] 51)) 4 (.slice (some ⟨W7.heap.size, 0, none⟩) 1 1) 1 [.int .i64 2, .int .i64 t.2.1, .int .i64 t.2.2.2, .int .i64 t.2.2.1]) := Lib.hid (by rw [← SZ]; exact .of_blk (Blk.new _ _ _) (m := 1) 1 rfl)
        have h0 : ((W7.setCell ⟨tb, 0, none⟩ (.int .i64 2))).cell? ⟨tb, 0, none⟩ = some (.int .i64 2) := BF.out.cell 0
        have h1 : ((W7.setCell ⟨tb, 0, none⟩ (.int .i64 2))).cell? ⟨tb, 1, none⟩ = some (.int .i64 t.2.1) := BF.out.cell 1
        have h2 : ((W7.setCell ⟨tb, 0, none⟩ (.int .i64 2))).cell? ⟨tb, 2, none⟩ = some (.int .i64 t.2.2.2) := BF.out.cell 2
        have h3 : ((W7.setCell ⟨tb, 0, none⟩ (.int .i64 2))).cell? ⟨tb, 3, none⟩ = some (.int .i64 t.2.2.1) := BF.out.cell 3
        obtain ⟨b0, -⟩ := CS.out (W7.setCell ⟨tb, 0, none⟩ (.int .i64 2)) UF.out
        go_wp2_with (at_builtin; refine stopped ?_)
        refine Lib.hid ?_
        refine wpList_app _ (by rfl) (.tmp 48) (.tmp 50) _ (by rfl) elem_tn (.slice A3 k c3) _ (by rfl) (by rfl) OA.out LT.out (by intro u hu; simp at hu; rcases hu with rfl | rfl | rfl | rfl <;> rfl) (by simp only [maxLen]; omega) (by omega) UA.out.size ?_
        intro v8 w8 o8 u8 b8
        have O8 : Hid (Ow encTn 51 w8 w.heap.size v8 (((placesB n).take (k + 1)).map (fun m => invT (L.getD m default)))) := Lib.hid (by
          unfold Ow
          rw [List.length_map, List.length_take, placesB_len, Nat.min_eq_left (by omega), TKE.out, List.map_append, flat_append, show [m].map (fun m => invT (L.getD m default)) = [invT (L.getD m default)] from rfl, HXD.out, (invT_1 k1), flat_one_]
          exact o8)
        have U8 : Hid (Upd [] w w8) := Lib.hid (UA.out.trans' u8 (fun x hx => .inr (own_lt OF.out (by simpa using hx)).1))
        obtain ⟨A8, c8, rfl, _, _⟩ := own_slice o8
        have w2 : IntKind.i64.wrap ((m : Int) - 1) = (m : Int) - 1 := by rw [IntKind.wrap_i64]; omega
        clear o8 u8 b8 OA OF UF UA LT BF h0 h1 h2 h3 b0 g0 g1 g2 g3 gz gl a0
        go_wp2_with fail
        go_roundw
        case rel => exact ⟨k + 1, (m : Int) - 1, A8, c8, by simp, rfl, by omega, by omega, U8, O8⟩
        case measure => simp [intOf] <;> omega
      · by_cases k2 : t.1 = 2
        · have d1 : (t.1 == 1) = false := by simpa using k1
          have UF : Hid (Upd [] w (W7.setCell ⟨tb, 0, none⟩ (.int .i64 1))) := Lib.hid (((U.out.trans U7.out).setCell (.inr (Nat.le_trans U.out.size TB.out.1)) _))
          have OF : Hid (Ow encTn 51 (W7.setCell ⟨tb, 0, none⟩ (.int .i64 1)) w.heap.size (.slice A3 k c3) (((placesB n).take k).map (fun m => invT (L.getD m default)))) := Lib.hid (((O.out.upd0 U7.out).upd ((Upd.refl [tb] W7).setCell (.inl (by simp)) _) OTN.out))
          have BF : Hid (Blk (W7.setCell ⟨tb, 0, none⟩ (.int .i64 1)) tb 51 #[.int .i64 1, .int .i64 t.2.1, .int .i64 t.2.2.2, .int .i64 t.2.2.1]) := Lib.hid ((TB7.out.set_eq rfl))
          have OA : Hid ((((W7.setCell ⟨tb, 0, none⟩ (.int .i64 1))).alloc (.cells #[.int .i64 1, .int .i64 t.2.1, .int .i64 t.2.2.2, .int .i64 t.2.2.1] 51)).ownsRow w.heap.size 51 4 (.slice A3 k c3) k (flat encTn (((placesB n).take k).map (fun m => invT (L.getD m default))))) := Lib.hid (by have := OF.out.upd0 ((Upd.refl [] (W7.setCell ⟨tb, 0, none⟩ (.int .i64 1))).alloc (.cells #[.int .i64 1, .int .i64 t.2.1, .int .i64 t.2.2.2, .int .i64 t.2.2.1] 51)); unfold Ow at this; rw [List.length_map, List.length_take, placesB_len, Nat.min_eq_left (by omega)] at this; exact this)
          have UA := Lib.hid (UF.out.alloc (.cells #[.int .i64 1, .int .i64 t.2.1, .int .i64 t.2.2.2, .int .i64 t.2.2.1] 51))
          have SZ : ((W7.setCell ⟨tb, 0, none⟩ (.int .i64 1))).heap.size = W7.heap.size := (by simp)
          have LT : Hid (Src (((W7.setCell ⟨tb, 0, none⟩ (.int .i64 1))).alloc (.cells #[.int .i64 1, .int .i64 t.2.1, .int .i64 t.2.2.2, .int .i64 t.2.2.1] 51)) 4 (.slice (some ⟨W7.heap.size, 0, none⟩) 1 1) 1 [.int .i64 1, .int .i64 t.2.1, .int .i64 t.2.2.2, .int .i64 t.2.2.1]) := Lib.hid (by rw [← SZ]; exact .of_blk (Blk.new _ _ _) (m := 1) 1 rfl)
          have h0 : ((W7.setCell ⟨tb, 0, none⟩ (.int .i64 1))).cell? ⟨tb, 0, none⟩ = some (.int .i64 1) := BF.out.cell 0
          have h1 : ((W7.setCell ⟨tb, 0, none⟩ (.int .i64 1))).cell? ⟨tb, 1, none⟩ = some (.int .i64 t.2.1) := BF.out.cell 1
          have h2 : ((W7.setCell ⟨tb, 0, none⟩ (.int .i64 1))).cell? ⟨tb, 2, none⟩ = some (.int .i64 t.2.2.2) := BF.out.cell 2
          have h3 : ((W7.setCell ⟨tb, 0, none⟩ (.int .i64 1))).cell? ⟨tb, 3, none⟩ = some (.int .i64 t.2.2.1) := BF.out.cell 3
          obtain ⟨b0, -⟩ := CS.out (W7.setCell ⟨tb, 0, none⟩ (.int .i64 1)) UF.out
          go_wp2_with (at_builtin; refine stopped ?_)
          refine Lib.hid ?_
          refine wpList_app _ (by rfl) (.tmp 48) (.tmp 50) _ (by rfl) elem_tn (.slice A3 k c3) _ (by rfl) (by rfl) OA.out LT.out (by intro u hu; simp at hu; rcases hu with rfl | rfl | rfl | rfl <;> rfl) (by simp only [maxLen]; omega) (by omega) UA.out.size ?_
          intro v8 w8 o8 u8 b8
          have O8 : Hid (Ow encTn 51 w8 w.heap.size v8 (((placesB n).take (k + 1)).map (fun m => invT (L.getD m default)))) := Lib.hid (by
            unfold Ow
            rw [List.length_map, List.length_take, placesB_len, Nat.min_eq_left (by omega), TKE.out, List.map_append, flat_append, show [m].map (fun m => invT (L.getD m default)) = [invT (L.getD m default)] from rfl, HXD.out, (invT_2 k2), flat_one_]
            exact o8)
          have U8 : Hid (Upd [] w w8) := Lib.hid (UA.out.trans' u8 (fun x hx => .inr (own_lt OF.out (by simpa using hx)).1))
          obtain ⟨A8, c8, rfl, _, _⟩ := own_slice o8
          have w2 : IntKind.i64.wrap ((m : Int) - 1) = (m : Int) - 1 := by rw [IntKind.wrap_i64]; omega
          clear o8 u8 b8 OA OF UF UA LT BF h0 h1 h2 h3 b0 g0 g1 g2 g3 gz gl a0
          go_wp2_with fail
          go_roundw
          case rel => exact ⟨k + 1, (m : Int) - 1, A8, c8, by simp, rfl, by omega, by omega, U8, O8⟩
          case measure => simp [intOf] <;> omega
        · have d1 : (t.1 == 1) = false := by simpa using k1
          have d2 : (t.1 == 2) = false := by simpa using k2
          have UF : Hid (Upd [] w W7) := Lib.hid ((U.out.trans U7.out))
          have OF : Hid (Ow encTn 51 W7 w.heap.size (.slice A3 k c3) (((placesB n).take k).map (fun m => invT (L.getD m default)))) := Lib.hid ((O.out.upd0 U7.out))
          have BF : Hid (Blk W7 tb 51 #[.int .i64 t.1, .int .i64 t.2.1, .int .i64 t.2.2.2, .int .i64 t.2.2.1]) := Lib.hid (TB7.out)
          have OA : Hid (((W7).alloc (.cells #[.int .i64 t.1, .int .i64 t.2.1, .int .i64 t.2.2.2, .int .i64 t.2.2.1] 51)).ownsRow w.heap.size 51 4 (.slice A3 k c3) k (flat encTn (((placesB n).take k).map (fun m => invT (L.getD m default))))) := Lib.hid (by have := OF.out.upd0 ((Upd.refl [] W7).alloc (.cells #[.int .i64 t.1, .int .i64 t.2.1, .int .i64 t.2.2.2, .int .i64 t.2.2.1] 51)); unfold Ow at this; rw [List.length_map, List.length_take, placesB_len, Nat.min_eq_left (by omega)] at this; exact this)
          have UA := Lib.hid (UF.out.alloc (.cells #[.int .i64 t.1, .int .i64 t.2.1, .int .i64 t.2.2.2, .int .i64 t.2.2.1] 51))
          have SZ : (W7).heap.size = W7.heap.size := rfl
          have LT : Hid (Src ((W7).alloc (.cells #[.int .i64 t.1, .int .i64 t.2.1, .int .i64 t.2.2.2, .int .i64 t.2.2.1] 51)) 4 (.slice (some ⟨W7.heap.size, 0, none⟩) 1 1) 1 [.int .i64 t.1, .int .i64 t.2.1, .int .i64 t.2.2.2, .int .i64 t.2.2.1]) := Lib.hid (by rw [← SZ]; exact .of_blk (Blk.new _ _ _) (m := 1) 1 rfl)
          have h0 : (W7).cell? ⟨tb, 0, none⟩ = some (.int .i64 t.1) := BF.out.cell 0
          have h1 : (W7).cell? ⟨tb, 1, none⟩ = some (.int .i64 t.2.1) := BF.out.cell 1
          have h2 : (W7).cell? ⟨tb, 2, none⟩ = some (.int .i64 t.2.2.2) := BF.out.cell 2
          have h3 : (W7).cell? ⟨tb, 3, none⟩ = some (.int .i64 t.2.2.1) := BF.out.cell 3
          obtain ⟨b0, -⟩ := CS.out W7 UF.out
          go_wp2_with (at_builtin; refine stopped ?_)
          refine Lib.hid ?_
          refine wpList_app _ (by rfl) (.tmp 48) (.tmp 50) _ (by rfl) elem_tn (.slice A3 k c3) _ (by rfl) (by rfl) OA.out LT.out (by intro u hu; simp at hu; rcases hu with rfl | rfl | rfl | rfl <;> rfl) (by simp only [maxLen]; omega) (by omega) UA.out.size ?_
          intro v8 w8 o8 u8 b8
          have O8 : Hid (Ow encTn 51 w8 w.heap.size v8 (((placesB n).take (k + 1)).map (fun m => invT (L.getD m default)))) := Lib.hid (by
            unfold Ow
            rw [List.length_map, List.length_take, placesB_len, Nat.min_eq_left (by omega), TKE.out, List.map_append, flat_append, show [m].map (fun m => invT (L.getD m default)) = [invT (L.getD m default)] from rfl, HXD.out, (invT_3 k1 k2), flat_one_]
            exact o8)
          have U8 : Hid (Upd [] w w8) := Lib.hid (UA.out.trans' u8 (fun x hx => .inr (own_lt OF.out (by simpa using hx)).1))
          obtain ⟨A8, c8, rfl, _, _⟩ := own_slice o8
          have w2 : IntKind.i64.wrap ((m : Int) - 1) = (m : Int) - 1 := by rw [IntKind.wrap_i64]; omega
          clear o8 u8 b8 OA OF UF UA LT BF h0 h1 h2 h3 b0 g0 g1 g2 g3 gz gl a0
          go_wp2_with fail
          go_roundw
          case rel => exact ⟨k + 1, (m : Int) - 1, A8, c8, by simp, rfl, by omega, by omega, U8, O8⟩
          case measure => simp [intOf] <;> omega
    · have q3 : decide ((0 : Int) ≤ j) = false := by simp; omega
      have TE : Hid (((placesB n).take k).map (fun m => invT (L.getD m default)) = invL L) := Lib.hid (by rw [List.take_of_length_le (by rw [placesB_len]; omega), ← HN.out, placesB_inv])
      rw [TE.out] at O
      go_wp2_with fail
      go_ret
      exact ⟨_, rfl, O.out, U.out⟩
end Go.Proofs.YthdjbflbhgbckaaDoor

namespace Go.Proofs.YthdjbflbhgbckaaDoor
open Go.RowKit Stab Snap Mrg
attribute [local go_sem] litStep_value

theorem find_none {l : PL} {k r : Int} (h : FindR l k r) (hn : Assoc.get l k = none) : r = -1 := by
  rcases h with ⟨i, v, _, _, _, hg⟩ | ⟨h, _⟩
  · rw [hn] at hg; cases hg
  · exact h
theorem find_some {l : PL} {k r v : Int} (h : FindR l k r) (hn : Assoc.get l k = some v) : ∃ i : Nat, r = i ∧ l[i]? = some (k, v) := by
  rcases h with ⟨i, v', h1, h2, _, hg⟩ | ⟨_, h⟩
  · rw [hn] at hg; cases hg; exact ⟨i, h1, h2⟩
  · rw [hn] at h; cases h
def findSpec (l : PL) (k : Int) : Spec := ⟨fun _ => [], fun v w => ∃ r, v = .int .i64 r ∧ FindR l k r, fun v => ∃ r, v = .int .i64 r⟩
theorem lasts0_findSpec (w0 : World) (l : PL) (k : Int) : Lasts0 w0 (findSpec l k) := ⟨fun _ _ _ _ h _ => h, ⟨_, 0, rfl⟩, fun _ _ ⟨r, h, _⟩ => ⟨r, h⟩⟩
theorem keys_uni {M a b : PL} (h : Uni [a, b] M) : keysOf M a b := fun k => by
  rw [h.2 k, show [a, b].flatten = a ++ b by simp, get_append]
  cases Assoc.get a k <;> simp
/-- The second cell of a pair that is read. -/
theorem Rd.second {A : Option Addr} {n c i : Nat} {L : PL} {w : World} {k v : Int} (h : Rd encPr w (.slice A n c) L) (hi : L[i]? = some (k, v)) : ∃ ad, A = some ad ∧ ∀ W, Upd [] w W → W.cell? ⟨(ad.add (i * 2)).block, (ad.add (i * 2)).off + 1, none⟩ = some (.int .i64 v) := by
  obtain ⟨ad, rfl, -, -⟩ := h.at_ hi
  refine ⟨ad, rfl, fun W hW => ?_⟩
  obtain ⟨ad', e, -, hc⟩ := (h.upd0 hW).at_ hi
  cases e
  have := hc 1 _ rfl
  rwa [show i * (encPr).s + 1 = i * 2 + (0 + 1) from rfl, add_more] at this
set_option maxRecDepth 100000 in
set_option maxHeartbeats 8000000 in
theorem r_diff (A : Option Addr) (n c : Nat) (a : PL) (A' : Option Addr) (n' c' : Nat) (b : PL) (w : World) (ha : Rd encPr w (.slice A n c) a) (hn : a.length = n) (hb : Rd encPr w (.slice A' n' c') b) (hn' : b.length = n') (hl : n ≤ 100) (hl' : n' ≤ 100) (hsa : Assoc.Srt a) (hsb : Assoc.Srt b) :
    Calls Tryd.prog 19 #[.slice A n c, .slice A' n' c'] w fun e w' => ∃ v, e = .returned v ∧ Ow encTn 51 w' w.heap.size v (diffL a b) ∧ Upd [] w w' := by
  have HA := Lib.hid ha
  have HN := Lib.hid hn
  have HB := Lib.hid hb
  have HN' := Lib.hid hn'
  have HSA := Lib.hid hsa
  have HSB := Lib.hid hsb
  clear ha hn hb hn' hsa hsb
  have A0 : Hid (Upd [] w (w.alloc (.cells #[.slice A n c, .slice A' n' c'] 22))) := Lib.hid ((Upd.refl [] w).alloc _)
  have L0 : Hid (Src (w.alloc (.cells #[.slice A n c, .slice A' n' c'] 22)) 1 (.slice (some ⟨w.heap.size, 0, none⟩) 2 2) 2 [.slice A n c, .slice A' n' c']) := Lib.hid (.of_blk (Blk.new w _ _) (m := 2) 2 rfl)
  go_enter Tryd.func19, Tryd.ntmps19
  go_wp2_with fail
  generalize (w.alloc (.cells #[.slice A n c, .slice A' n' c'] 22)) = w0 at *
  refine (r_merge _ 2 2 [.slice A n c, .slice A' n' c'] [a, b] w0 L0.out rfl (by omega) (fun i hi => ?_) (by simp [HN.out, HN'.out]; omega)).mono ?_
  · match i, hi with
    | 0, _ => exact HA.out.upd0 A0.out
    | 1, _ => exact HB.out.upd0 A0.out
  rintro e w1 ⟨vm, M, rfl, um, om, u1⟩
  obtain ⟨Am, cm, rfl, _, _⟩ := own_slice om
  obtain ⟨m, hm⟩ : ∃ m, M.length = m := ⟨_, rfl⟩
  have HM := Lib.hid hm
  rw [hm] at om ⊢
  have hm2 : m ≤ 200 := by have := um.len; rw [hm] at this; simp [HN.out, HN'.out] at this; omega
  have OM := Lib.hid om
  have UM := Lib.hid um
  have KU := Lib.hid (keys_uni um)
  have U1 := Lib.hid (A0.out.trans u1)
  clear om um u1 hm L0 A0
  go_wp2_with fail
  go_loopw [7, 5] (fun vi v5 wr => ∃ (k d : Nat) (A5 : Option Addr) (c5 : Nat), vi = .int .i64 k ∧ v5 = .slice A5 d c5 ∧ k ≤ m ∧ Hid (((M.take k).filterMap (fun p => dtK a b p.1)).length = d) ∧ Hid (Upd [] w1 wr) ∧ Hid (Ow encTn 51 wr w1.heap.size (.slice A5 d c5) ((M.take k).filterMap (fun p => dtK a b p.1)))) (fun vi _ _ => m - (intOf vi).toNat)
  case atStart => exact ⟨0, 0, none, 0, rfl, rfl, Nat.zero_le _, Lib.hid rfl, Lib.hid (.refl _ _), Lib.hid (Ow.nil _ _ _ _)⟩
  case round =>
    obtain ⟨k, d, A5, c5, rfl, rfl, hk, HD, U, O⟩ := hrel
    rename World => wr
    by_cases hkm : k < m
    · obtain ⟨p, hp⟩ : ∃ p, M[k]? = some p := ⟨_, List.getElem?_eq_getElem (by rw [HM.out]; exact hkm)⟩
      have HP := Lib.hid hp
      obtain ⟨g, cg, cur, e1, -⟩ := own_form OM.out (by rw [HM.out]; omega)
      injection e1 with e1 en e1'
      subst e1 e1'
      have UD : Hid (∀ W, Upd [] wr.drew W → Upd [] w W) := Lib.hid (fun W hW => U1.out.trans (U.out.trans ((Upd.refl [] wr).drew.trans hW)))
      have CS : Hid (∀ W, Upd [] wr.drew W → W.cell? ⟨g, k * 2, none⟩ = some (.int .i64 p.1)) := Lib.hid (fun W hW => (OM.out.upd0 (U.out.trans ((Upd.refl [] wr).drew.trans hW))).at_ HP.out 0 _ rfl)
      have q1 : (0 : Int) ≤ (k : Int) := by omega
      have q2 : (k : Int) < (m : Int) := by omega
      have dl : d ≤ 200 := by
        have h1 := List.length_filterMap_le (fun p : Int × Int => dtK a b p.1) (M.take k)
        have h2 := (List.take_sublist k M).length_le
        rw [HD.out] at h1
        rw [HM.out] at h2
        omega
      have TK : Hid ((M.take (k + 1)).filterMap (fun p => dtK a b p.1) = (M.take k).filterMap (fun p => dtK a b p.1) ++ (dtK a b p.1).toList) := Lib.hid (by
        rw [List.take_add_one, hp, List.filterMap_append]
        congr 1)
      have KP : Hid ((Assoc.get a p.1).isSome || (Assoc.get b p.1).isSome) := Lib.hid (by
        rw [← KU.out p.1, Assoc.get_mem UM.out.1 (List.mem_of_getElem? hp)]
        rfl)
      clear hp en
      go_wp2_with fail
      refine wp_invNT0 16 [(6, findSpec a p.1), (13, findSpec b p.1)] (by kernel_rfl) (by simp) (by kernel_rfl) (by kernel_rfl) ⟨lasts0_findSpec _ _ _, lasts0_findSpec _ _ _, trivial⟩ ?_
      simp only [List.take_succ_cons, List.take_zero, List.drop_succ_cons, List.drop_zero]
      with_reducible apply wpV_light
      · simp only [lightOp]
      · intro W hU hF
        have f0 := CS.out W hU
        clear hU hF
        go_simp
        exact rfl
      simp only [Act.put, List.setIfInBounds_toArray, List.set_cons_zero, List.set_cons_succ]
      with_reducible apply wpV_light
      · simp only [lightOp]
      · intro W hU hF
        have f0 := CS.out W hU
        clear hU hF
        go_simp
        exact rfl
      simp only [Act.put, List.setIfInBounds_toArray, List.set_cons_zero, List.set_cons_succ]
      with_reducible apply wpV_light
      · simp only [lightOp]
      · intro W hU hF
        have f0 := CS.out W hU
        clear hU hF
        go_simp
        exact rfl
      simp only [Act.put, List.setIfInBounds_toArray, List.set_cons_zero, List.set_cons_succ]
      with_reducible apply wpV_light
      · simp only [lightOp]
      · intro W hU hF
        have f0 := CS.out W hU
        clear hU hF
        go_simp
        exact rfl
      simp only [Act.put, List.setIfInBounds_toArray, List.set_cons_zero, List.set_cons_succ]
      with_reducible apply wpV_light
      · simp only [lightOp]
      · intro W hU hF
        have f0 := CS.out W hU
        clear hU hF
        go_simp
        exact rfl
      simp only [Act.put, List.setIfInBounds_toArray, List.set_cons_zero, List.set_cons_succ]
      with_reducible apply wpV_light
      · simp only [lightOp]
      · intro W hU hF
        have f0 := CS.out W hU
        clear hU hF
        go_simp
        exact rfl
      simp only [Act.put, List.setIfInBounds_toArray, List.set_cons_zero, List.set_cons_succ]
      refine wpV_heavy (by simp only [lightOp]) (by rfl) (fun W hU hk hF K hK => ?_) ?_
      · go_wp2_with fail
        refine (r_find A n c a p.1 W (HA.out.upd0 (UD.out W hU)) HN.out (by omega)).mono ?_
        rintro e w' ⟨r, rfl, hf, rfl⟩
        go_wp2_with fail
        exact hK.out _ _ (outV_new rfl ⟨r, rfl, hf⟩ (by intro b hb; cases hb) (.refl _ _))
      rintro _ ⟨ra, rfl⟩
      simp only [Act.put, List.setIfInBounds_toArray, List.set_cons_zero, List.set_cons_succ]
      with_reducible apply wpV_light
      · simp only [lightOp]
      · intro W hU hF
        have f0 := CS.out W hU
        clear hU hF
        go_simp
        exact rfl
      simp only [Act.put, List.setIfInBounds_toArray, List.set_cons_zero, List.set_cons_succ]
      with_reducible apply wpV_light
      · simp only [lightOp]
      · intro W hU hF
        have f0 := CS.out W hU
        clear hU hF
        go_simp
        exact rfl
      simp only [Act.put, List.setIfInBounds_toArray, List.set_cons_zero, List.set_cons_succ]
      with_reducible apply wpV_light
      · simp only [lightOp]
      · intro W hU hF
        have f0 := CS.out W hU
        clear hU hF
        go_simp
        exact rfl
      simp only [Act.put, List.setIfInBounds_toArray, List.set_cons_zero, List.set_cons_succ]
      with_reducible apply wpV_light
      · simp only [lightOp]
      · intro W hU hF
        have f0 := CS.out W hU
        clear hU hF
        go_simp
        exact rfl
      simp only [Act.put, List.setIfInBounds_toArray, List.set_cons_zero, List.set_cons_succ]
      with_reducible apply wpV_light
      · simp only [lightOp]
      · intro W hU hF
        have f0 := CS.out W hU
        clear hU hF
        go_simp
        exact rfl
      simp only [Act.put, List.setIfInBounds_toArray, List.set_cons_zero, List.set_cons_succ]
      with_reducible apply wpV_light
      · simp only [lightOp]
      · intro W hU hF
        have f0 := CS.out W hU
        clear hU hF
        go_simp
        exact rfl
      simp only [Act.put, List.setIfInBounds_toArray, List.set_cons_zero, List.set_cons_succ]
      refine wpV_heavy (by simp only [lightOp]) (by rfl) (fun W hU hk hF K hK => ?_) ?_
      · go_wp2_with fail
        refine (r_find A' n' c' b p.1 W (HB.out.upd0 (UD.out W hU)) HN'.out (by omega)).mono ?_
        rintro e w' ⟨r, rfl, hf, rfl⟩
        go_wp2_with fail
        exact hK.out _ _ (outV_new rfl ⟨r, rfl, hf⟩ (by intro b hb; cases hb) (.refl _ _))
      rintro _ ⟨rb, rfl⟩
      simp only [Act.put, List.setIfInBounds_toArray, List.set_cons_zero, List.set_cons_succ]
      with_reducible apply wpV_light
      · simp only [lightOp]
      · intro W hU hF
        have f0 := CS.out W hU
        clear hU hF
        go_simp
        exact rfl
      simp only [Act.put, List.setIfInBounds_toArray, List.set_cons_zero, List.set_cons_succ]
      with_reducible apply wpV_light
      · simp only [lightOp]
      · intro W hU hF
        have f0 := CS.out W hU
        clear hU hF
        go_simp
        exact rfl
      simp only [Act.put, List.setIfInBounds_toArray, List.set_cons_zero, List.set_cons_succ]
      refine wpV_end (fun W hU _ hF => ?_)
      obtain ⟨ra', ea, fa⟩ := hF.out.1 (by kernel_rfl)
      obtain ⟨rb', eb, fb⟩ := hF.out.2.1 (by kernel_rfl)
      injection ea with _ ea
      injection eb with _ eb
      subst ea eb
      have UW := Lib.hid (UD.out W hU)
      have UR : Hid (Upd [] w1 W) := Lib.hid (U.out.trans ((Upd.refl [] wr).drew.trans hU))
      have OW := Lib.hid (O.out.upd0 ((Upd.refl [] wr).drew.trans hU))
      have cw : W.cell? ⟨g, k * 2, none⟩ = some (.int .i64 p.1) := CS.out W hU
      clear hU hF CS UD U O
      refine wpT_end ?_
      obtain ⟨tb, htb⟩ : ∃ tb, W.heap.size = tb := ⟨_, rfl⟩
      have n1 : decide ((0 : Int) ≤ -1) = false := by decide
      have n2 : decide ((-1 : Int) < 0) = true := by decide
      cases hga : Assoc.get a p.1 with
      | none =>
        have HGA := Lib.hid hga
        cases hgb : Assoc.get b p.1 with
        | none =>
          have := KP.out
          rw [hga, hgb] at this
          cases this
        | some v =>
          have HGB := Lib.hid hgb
          obtain rfl := find_none fa hga
          obtain ⟨i, rfl, hi⟩ := find_some fb hgb
          obtain ⟨ad, rfl, hcb⟩ := (HB.out.upd0 UW.out).second hi
          have hin : i < n' := by rw [← HN'.out]; exact (List.getElem?_eq_some_iff.1 hi).1
          have r1 : (0 : Int) ≤ (i : Int) := by omega
          have r2 : (i : Int) < (n' : Int) := by omega
          have r3 : decide ((0 : Int) ≤ (i : Int)) = true := by simp
          have r4 : decide ((i : Int) < 0) = false := by simp
          have cb := hcb _ ((Upd.refl [] W).alloc (.cells #[.int .i64 0, .int .i64 p.1, .int .i64 (-1), .int .i64 (-1)] 51))
          clear fa fb hga hgb hi hcb
          have TF : Hid (dtK a b p.1 = some (1, p.1, (-1), v)) := Lib.hid (by unfold dtK; rw [HGA.out, HGB.out]; try simp only []; try rw [if_neg trivial]; try rfl)
          have UB := Lib.hid ((UR.out.alloc (.cells #[.int .i64 1, .int .i64 p.1, .int .i64 (-1), .int .i64 v] 51)).alloc (.cells #[.int .i64 1, .int .i64 p.1, .int .i64 (-1), .int .i64 v] 51))
          have OA : Hid (((W.alloc (.cells #[.int .i64 1, .int .i64 p.1, .int .i64 (-1), .int .i64 v] 51)).alloc (.cells #[.int .i64 1, .int .i64 p.1, .int .i64 (-1), .int .i64 v] 51)).ownsRow w1.heap.size 51 4 (.slice A5 d c5) d (flat encTn ((M.take k).filterMap (fun p => dtK a b p.1)))) := Lib.hid (by have := OW.out.upd0 (((Upd.refl [] W).alloc (.cells #[.int .i64 1, .int .i64 p.1, .int .i64 (-1), .int .i64 v] 51)).alloc (.cells #[.int .i64 1, .int .i64 p.1, .int .i64 (-1), .int .i64 v] 51)); unfold Ow at this; rw [HD.out] at this; exact this)
          go_wp2_with (at_builtin; refine stopped ?_)
          refine Lib.hid ?_
          refine wpList_app _ (by rfl) (.tmp 75) (.tmp 77) _ (by rfl) elem_tn (.slice A5 d c5) _ (by rfl) (by rfl) OA.out (.of_blk (Blk.newAt _ _ (by simp [htb])) (m := 1) 1 rfl) (by intro u hu; simp at hu; rcases hu with rfl | rfl | rfl | rfl <;> rfl) (by simp only [maxLen]; omega) (by omega) UB.out.size ?_
          intro v8 w8 o8 u8 b8
          have LN : Hid (((M.take (k + 1)).filterMap (fun p => dtK a b p.1)).length = d + 1) := Lib.hid (by rw [TK.out, List.length_append, HD.out, TF.out]; rfl)
          have O8 : Hid (Ow encTn 51 w8 w1.heap.size v8 ((M.take (k + 1)).filterMap (fun p => dtK a b p.1))) := Lib.hid (by
            unfold Ow
            rw [LN.out, TK.out, TF.out, flat_append, show (some (1, p.1, (-1), v) : Option Tn).toList = [(1, p.1, (-1), v)] from rfl, flat_one_]
            exact o8)
          have U8 : Hid (Upd [] w1 w8) := Lib.hid (UB.out.trans' u8 (fun x hx => .inr (own_lt OA.out (by simpa using hx)).1))
          obtain ⟨A8, c8, rfl, _, _⟩ := own_slice o8
          clear o8 u8 b8 OA UB OW
          go_wp2_with fail
          go_roundw
          case rel => exact ⟨k + 1, d + 1, A8, c8, by go_num, rfl, by omega, LN, U8, O8⟩
          case measure => simp [intOf]; omega
      | some u =>
        have HGA := Lib.hid hga
        obtain ⟨ia, rfl, hia⟩ := find_some fa hga
        obtain ⟨ada, rfl, hca⟩ := (HA.out.upd0 UW.out).second hia
        have hian : ia < n := by rw [← HN.out]; exact (List.getElem?_eq_some_iff.1 hia).1
        have s1 : (0 : Int) ≤ (ia : Int) := by omega
        have s2 : (ia : Int) < (n : Int) := by omega
        have s3 : decide ((0 : Int) ≤ (ia : Int)) = true := by simp
        have s4 : decide ((ia : Int) < 0) = false := by simp
        have ca := hca _ ((Upd.refl [] W).alloc (.cells #[.int .i64 0, .int .i64 p.1, .int .i64 (-1), .int .i64 (-1)] 51))
        cases hgb : Assoc.get b p.1 with
        | none =>
          have HGB := Lib.hid hgb
          obtain rfl := find_none fb hgb
          clear fa fb hga hgb hia hca
          have TF : Hid (dtK a b p.1 = some (2, p.1, u, (-1))) := Lib.hid (by unfold dtK; rw [HGA.out, HGB.out]; try simp only []; try rw [if_neg trivial]; try rfl)
          have UB := Lib.hid ((UR.out.alloc (.cells #[.int .i64 2, .int .i64 p.1, .int .i64 u, .int .i64 (-1)] 51)).alloc (.cells #[.int .i64 2, .int .i64 p.1, .int .i64 u, .int .i64 (-1)] 51))
          have OA : Hid (((W.alloc (.cells #[.int .i64 2, .int .i64 p.1, .int .i64 u, .int .i64 (-1)] 51)).alloc (.cells #[.int .i64 2, .int .i64 p.1, .int .i64 u, .int .i64 (-1)] 51)).ownsRow w1.heap.size 51 4 (.slice A5 d c5) d (flat encTn ((M.take k).filterMap (fun p => dtK a b p.1)))) := Lib.hid (by have := OW.out.upd0 (((Upd.refl [] W).alloc (.cells #[.int .i64 2, .int .i64 p.1, .int .i64 u, .int .i64 (-1)] 51)).alloc (.cells #[.int .i64 2, .int .i64 p.1, .int .i64 u, .int .i64 (-1)] 51)); unfold Ow at this; rw [HD.out] at this; exact this)
          go_wp2_with (at_builtin; refine stopped ?_)
          refine Lib.hid ?_
          refine wpList_app _ (by rfl) (.tmp 75) (.tmp 77) _ (by rfl) elem_tn (.slice A5 d c5) _ (by rfl) (by rfl) OA.out (.of_blk (Blk.newAt _ _ (by simp [htb])) (m := 1) 1 rfl) (by intro u hu; simp at hu; rcases hu with rfl | rfl | rfl | rfl <;> rfl) (by simp only [maxLen]; omega) (by omega) UB.out.size ?_
          intro v8 w8 o8 u8 b8
          have LN : Hid (((M.take (k + 1)).filterMap (fun p => dtK a b p.1)).length = d + 1) := Lib.hid (by rw [TK.out, List.length_append, HD.out, TF.out]; rfl)
          have O8 : Hid (Ow encTn 51 w8 w1.heap.size v8 ((M.take (k + 1)).filterMap (fun p => dtK a b p.1))) := Lib.hid (by
            unfold Ow
            rw [LN.out, TK.out, TF.out, flat_append, show (some (2, p.1, u, (-1)) : Option Tn).toList = [(2, p.1, u, (-1))] from rfl, flat_one_]
            exact o8)
          have U8 : Hid (Upd [] w1 w8) := Lib.hid (UB.out.trans' u8 (fun x hx => .inr (own_lt OA.out (by simpa using hx)).1))
          obtain ⟨A8, c8, rfl, _, _⟩ := own_slice o8
          clear o8 u8 b8 OA UB OW
          go_wp2_with fail
          go_roundw
          case rel => exact ⟨k + 1, d + 1, A8, c8, by go_num, rfl, by omega, LN, U8, O8⟩
          case measure => simp [intOf]; omega
        | some v =>
          have HGB := Lib.hid hgb
          obtain ⟨i, rfl, hi⟩ := find_some fb hgb
          obtain ⟨ad, rfl, hcb⟩ := (HB.out.upd0 UW.out).second hi
          have hin : i < n' := by rw [← HN'.out]; exact (List.getElem?_eq_some_iff.1 hi).1
          have r1 : (0 : Int) ≤ (i : Int) := by omega
          have r2 : (i : Int) < (n' : Int) := by omega
          have r3 : decide ((0 : Int) ≤ (i : Int)) = true := by simp
          have r4 : decide ((i : Int) < 0) = false := by simp
          have cb := hcb _ ((Upd.refl [] W).alloc (.cells #[.int .i64 0, .int .i64 p.1, .int .i64 u, .int .i64 (-1)] 51))
          clear fa fb hga hgb hi hcb hia hca
          by_cases huv : u = v
          · subst huv
            have TF : Hid (dtK a b p.1 = none) := Lib.hid (by unfold dtK; rw [HGA.out, HGB.out]; simp)
            have TE : Hid ((M.take (k + 1)).filterMap (fun p => dtK a b p.1) = (M.take k).filterMap (fun p => dtK a b p.1)) := Lib.hid (by rw [TK.out, TF.out]; simp)
            have UB := Lib.hid (UR.out.alloc (.cells #[.int .i64 0, .int .i64 p.1, .int .i64 u, .int .i64 u] 51))
            have OB := Lib.hid (OW.out.upd0 ((Upd.refl [] W).alloc (.cells #[.int .i64 0, .int .i64 p.1, .int .i64 u, .int .i64 u] 51)))
            go_wp2_with fail
            go_roundw
            case rel => exact ⟨k + 1, d, A5, c5, by go_num, rfl, by omega, Lib.hid (by rw [TE.out]; exact HD.out), UB, Lib.hid (by rw [TE.out]; exact OB.out)⟩
            case measure => simp [intOf]; omega
          · have huv2 : (u != v) = true := by simpa using huv
            have HUV := Lib.hid huv
            clear huv
            have TF : Hid (dtK a b p.1 = some (3, p.1, u, v)) := Lib.hid (by unfold dtK; rw [HGA.out, HGB.out]; try simp only []; try rw [if_neg HUV.out]; try rfl)
            have UB := Lib.hid ((UR.out.alloc (.cells #[.int .i64 3, .int .i64 p.1, .int .i64 u, .int .i64 v] 51)).alloc (.cells #[.int .i64 3, .int .i64 p.1, .int .i64 u, .int .i64 v] 51))
            have OA : Hid (((W.alloc (.cells #[.int .i64 3, .int .i64 p.1, .int .i64 u, .int .i64 v] 51)).alloc (.cells #[.int .i64 3, .int .i64 p.1, .int .i64 u, .int .i64 v] 51)).ownsRow w1.heap.size 51 4 (.slice A5 d c5) d (flat encTn ((M.take k).filterMap (fun p => dtK a b p.1)))) := Lib.hid (by have := OW.out.upd0 (((Upd.refl [] W).alloc (.cells #[.int .i64 3, .int .i64 p.1, .int .i64 u, .int .i64 v] 51)).alloc (.cells #[.int .i64 3, .int .i64 p.1, .int .i64 u, .int .i64 v] 51)); unfold Ow at this; rw [HD.out] at this; exact this)
            go_wp2_with (at_builtin; refine stopped ?_)
            refine Lib.hid ?_
            refine wpList_app _ (by rfl) (.tmp 75) (.tmp 77) _ (by rfl) elem_tn (.slice A5 d c5) _ (by rfl) (by rfl) OA.out (.of_blk (Blk.newAt _ _ (by simp [htb])) (m := 1) 1 rfl) (by intro u hu; simp at hu; rcases hu with rfl | rfl | rfl | rfl <;> rfl) (by simp only [maxLen]; omega) (by omega) UB.out.size ?_
            intro v8 w8 o8 u8 b8
            have LN : Hid (((M.take (k + 1)).filterMap (fun p => dtK a b p.1)).length = d + 1) := Lib.hid (by rw [TK.out, List.length_append, HD.out, TF.out]; rfl)
            have O8 : Hid (Ow encTn 51 w8 w1.heap.size v8 ((M.take (k + 1)).filterMap (fun p => dtK a b p.1))) := Lib.hid (by
              unfold Ow
              rw [LN.out, TK.out, TF.out, flat_append, show (some (3, p.1, u, v) : Option Tn).toList = [(3, p.1, u, v)] from rfl, flat_one_]
              exact o8)
            have U8 : Hid (Upd [] w1 w8) := Lib.hid (UB.out.trans' u8 (fun x hx => .inr (own_lt OA.out (by simpa using hx)).1))
            obtain ⟨A8, c8, rfl, _, _⟩ := own_slice o8
            clear o8 u8 b8 OA UB OW
            go_wp2_with fail
            go_roundw
            case rel => exact ⟨k + 1, d + 1, A8, c8, by go_num, rfl, by omega, LN, U8, O8⟩
            case measure => simp [intOf]; omega
    · have e : M.take k = M := List.take_of_length_le (by rw [HM.out]; omega)
      have TE : Hid ((M.take k).filterMap (fun p => dtK a b p.1) = diffL a b) := Lib.hid (by rw [e]; exact doc_diff M a b UM.out.1 HSA.out HSB.out KU.out)
      have OE : Hid (Ow encTn 51 wr w.heap.size (.slice A5 d c5) (diffL a b)) := Lib.hid (by have := O.out; rw [TE.out] at this; exact own_base this U1.out.size)
      clear e
      go_wp2_with fail
      go_ret
      exact ⟨_, rfl, OE.out, U1.out.trans U.out⟩
end Go.Proofs.YthdjbflbhgbckaaDoor

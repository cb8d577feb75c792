/-
  Turns done one behind the other, and their way back, plainly. No program in sight. Package snap: whether a turn fits; what its place makes of the list. snap.Apply: turns done one behind the other.
-/
import Derived.Test.YthdjbflbhgbckaaDoorDiffP
import Derived.Test.YthdjbflbhgbckaaDoorDiff
import Derived.Test.YthdjbflbhgbckaaDoorEditM
set_option linter.unusedVariables false
namespace Go.Proofs.YthdjbflbhgbckaaDoor.Snap
open Assoc Stab

/-- One turn, if it can be done. -/
def stepTn (r : PL) (t : Tn) : Option PL :=
  if t.1 = 1 then (if get r t.2.1 = none then some (put r t.2.1 t.2.2.2) else none)
  else if t.1 = 2 then (if get r t.2.1 = some t.2.2.1 then some (del r t.2.1) else none)
  else if t.1 = 3 then (if get r t.2.1 = some t.2.2.1 then some (put r t.2.1 t.2.2.2) else none)
  else none
def runTn : PL → List Tn → Option PL
  | r, [] => some r
  | r, t :: ts => (stepTn r t).bind fun r' => runTn r' ts
theorem runTn_append : ∀ (r : PL) (a b : List Tn), runTn r (a ++ b) = (runTn r a).bind fun r' => runTn r' b
  | r, [], b => rfl
  | r, t :: a, b => by
    show (stepTn r t).bind (fun r' => runTn r' (a ++ b)) = ((stepTn r t).bind fun r' => runTn r' a).bind fun r' => runTn r' b
    cases stepTn r t with
    | none => rfl
    | some r' => exact runTn_append r' a b
theorem step_srt {r r' : PL} {t : Tn} (h : Srt r) (hs : stepTn r t = some r') : Srt r' := by
  unfold stepTn at hs
  split at hs
  · split at hs
    · injection hs with hs; subst hs; exact srt_put h _ _
    · cases hs
  · split at hs
    · split at hs
      · injection hs with hs; subst hs; exact srt_del h _
      · cases hs
    · split at hs
      · split at hs
        · injection hs with hs; subst hs; exact srt_put h _ _
        · cases hs
      · cases hs
theorem run_srt : ∀ {r r' : PL} {ts : List Tn}, Srt r → runTn r ts = some r' → Srt r'
  | r, r', [], h, hs => by injection hs with hs; subst hs; exact h
  | r, r', t :: ts, h, hs => by
    unfold runTn at hs
    cases hq : stepTn r t with
    | none => rw [hq] at hs; cases hs
    | some q => rw [hq] at hs; exact run_srt (step_srt h hq) hs
theorem put_del {l : PL} (h : Srt l) {k v : Int} (hg : get l k = some v) : put (del l k) k v = l := ext (srt_put (srt_del h k) k v) h fun x => by
  rw [get_put (srt_del h k), get_del]
  by_cases e : x = k
  · rw [if_pos e, e, hg]
  · rw [if_neg e, if_neg e]
theorem step_len {r r' : PL} {t : Tn} (h : Srt r) (hs : stepTn r t = some r') : r'.length ≤ r.length + 1 := by
  unfold stepTn at hs
  split at hs
  · split at hs
    · injection hs with hs; subst hs; rw [len_put h]; split <;> omega
    · cases hs
  · split at hs
    · split at hs
      · injection hs with hs; subst hs; rw [len_del h]; split <;> omega
      · cases hs
    · split at hs
      · split at hs
        · injection hs with hs; subst hs; rw [len_put h]; split <;> omega
        · cases hs
      · cases hs
/-- A turn the other way round. -/
def backT (t : Tn) : Tn := (if t.1 = 1 then 2 else if t.1 = 2 then 1 else t.1, t.2.1, t.2.2.2, t.2.2.1)
theorem step_back {r r' : PL} {t : Tn} (h : Srt r) (hs : stepTn r t = some r') : stepTn r' (backT t) = some r := by
  obtain ⟨k, key, was, is⟩ := t
  unfold stepTn at hs
  unfold stepTn backT
  simp only at hs ⊢
  by_cases k1 : k = 1
  · rw [if_pos k1] at hs ⊢
    split at hs
    · rename_i hg
      injection hs with hs
      subst hs
      rw [if_neg (by decide), if_pos rfl, if_pos (by rw [get_put h, if_pos rfl]), del_put h _ hg]
    · cases hs
  · rw [if_neg k1] at hs ⊢
    by_cases k2 : k = 2
    · rw [if_pos k2] at hs ⊢
      split at hs
      · rename_i hg
        injection hs with hs
        subst hs
        rw [if_pos rfl, if_pos (by rw [get_del, if_pos rfl]), put_del h hg]
      · cases hs
    · rw [if_neg k2] at hs ⊢
      split at hs
      · rename_i k3
        subst k3
        split at hs
        · rename_i hg
          injection hs with hs
          subst hs
          rw [if_neg (by decide), if_neg (by decide), if_pos rfl, if_pos (by rw [get_put h, if_pos rfl]), put_put h, put_get h hg]
        · cases hs
      · cases hs
theorem run_back : ∀ {r r' : PL} {ts : List Tn}, Srt r → runTn r ts = some r' → runTn r' ((ts.map backT).reverse) = some r
  | r, r', [], h, hs => by injection hs with hs; subst hs; rfl
  | r, r', t :: ts, h, hs => by
    unfold runTn at hs
    cases hq : stepTn r t with
    | none => rw [hq] at hs; cases hs
    | some q =>
      rw [hq] at hs
      have ih := run_back (step_srt h hq) hs
      rw [List.map_cons, List.reverse_cons, runTn_append, ih]
      show runTn q [backT t] = some r
      unfold runTn
      rw [step_back h hq]
      rfl
/-- What stands ahead stays. -/
theorem get_app_low {pre l : PL} {k : Int} (h : ∀ p ∈ pre, p.1 < k) : get (pre ++ l) k = get l k := by
  induction pre with
  | nil => rfl
  | cons p pre ih =>
    rw [List.cons_append, get_cons, if_neg (by have := h p (List.mem_cons_self ..); omega)]
    exact ih fun q hq => h q (List.mem_cons_of_mem _ hq)
theorem srt_app_iff {a b : PL} : Srt (a ++ b) ↔ Srt a ∧ Srt b ∧ ∀ x ∈ a, ∀ y ∈ b, x.1 < y.1 := List.pairwise_append
theorem del_at {pre a : PL} {p : Int × Int} (h : Srt (pre ++ p :: a)) : del (pre ++ p :: a) p.1 = pre ++ a := by
  obtain ⟨h1, h2, h3⟩ := srt_app_iff.1 h
  have hs : Srt (pre ++ a) := srt_app_iff.2 ⟨h1, h2.tail, fun x hx y hy => h3 x hx y (List.mem_cons_of_mem _ hy)⟩
  refine ext (srt_del h _) hs fun x => ?_
  rw [get_del]
  by_cases e : x = p.1
  · rw [if_pos e, e, get_app_low (fun q hq => h3 q hq p (List.mem_cons_self ..)), get_low (fun q hq => h2.head q hq)]
  · rw [if_neg e]
    rcases hgx : get (pre ++ a) x with _ | v
    · rw [get_none] at hgx ⊢
      intro q hq
      rcases List.mem_append.1 hq with hq | hq
      · exact hgx q (List.mem_append_left _ hq)
      · rcases List.mem_cons.1 hq with rfl | hq
        · exact fun e2 => e e2.symm
        · exact hgx q (List.mem_append_right _ hq)
    · have hm := mem_of_get hgx
      have : (x, v) ∈ pre ++ p :: a := by
        rcases List.mem_append.1 hm with hm | hm
        · exact List.mem_append_left _ hm
        · exact List.mem_append_right _ (List.mem_cons_of_mem _ hm)
      exact get_mem h this
theorem put_at {pre a : PL} {q : Int × Int} (h : Srt (pre ++ q :: a)) : put (pre ++ a) q.1 q.2 = pre ++ q :: a := by
  obtain ⟨h1, h2, h3⟩ := srt_app_iff.1 h
  have hs : Srt (pre ++ a) := srt_app_iff.2 ⟨h1, h2.tail, fun x hx y hy => h3 x hx y (List.mem_cons_of_mem _ hy)⟩
  have hg : get (pre ++ q :: a) q.1 = some q.2 := get_mem h (by simp)
  have := put_del h hg
  rwa [del_at h] at this
theorem put_over {pre a : PL} {p : Int × Int} {v : Int} (h : Srt (pre ++ p :: a)) : put (pre ++ p :: a) p.1 v = pre ++ (p.1, v) :: a := by
  obtain ⟨h1, h2, h3⟩ := srt_app_iff.1 h
  have hs : Srt (pre ++ (p.1, v) :: a) := srt_app_iff.2 ⟨h1, List.pairwise_cons.2 ⟨fun x hx => h2.head x hx, h2.tail⟩, fun x hx y hy => by
    rcases List.mem_cons.1 hy with rfl | hy
    · exact h3 x hx p (List.mem_cons_self ..)
    · exact h3 x hx y (List.mem_cons_of_mem _ hy)⟩
  have hs2 : Srt (pre ++ a) := srt_app_iff.2 ⟨h1, h2.tail, fun x hx y hy => h3 x hx y (List.mem_cons_of_mem _ hy)⟩
  rw [← put_at h, put_put hs2]
  exact put_at (q := (p.1, v)) hs
/-- The turns from one to another one lead there. -/
theorem run_diff : ∀ (pre a b : PL), Srt (pre ++ a) → Srt (pre ++ b) → runTn (pre ++ a) (diffL a b) = some (pre ++ b)
  | pre, [], [], h1, h2 => by rw [diff_nil]; rfl
  | pre, p :: a, [], h1, h2 => by
    obtain ⟨s1, s2, s3⟩ := srt_app_iff.1 h1
    have hg : get (pre ++ p :: a) p.1 = some p.2 := get_mem h1 (by simp)
    rw [diff_left]
    unfold runTn gone stepTn
    simp only
    rw [if_neg (by decide), if_pos trivial, if_pos hg, del_at h1]
    exact run_diff pre a [] (srt_app_iff.2 ⟨s1, s2.tail, fun x hx y hy => s3 x hx y (List.mem_cons_of_mem _ hy)⟩) h2
  | pre, [], q :: b, h1, h2 => by
    obtain ⟨s1, s2, s3⟩ := srt_app_iff.1 h2
    have hq : Srt (pre ++ [q]) := srt_app_iff.2 ⟨s1, List.pairwise_singleton _ _, fun x hx y hy => by simp at hy; subst hy; exact s3 x hx _ (List.mem_cons_self ..)⟩
    have hg : get (pre ++ []) q.1 = none := by rw [get_app_low (fun x hx => s3 x hx q (List.mem_cons_self ..))]; rfl
    rw [diff_right]
    unfold runTn added stepTn
    simp only
    rw [if_pos trivial, if_pos hg, put_at hq]
    have := run_diff (pre ++ [q]) [] b (by rw [List.append_nil]; exact hq) (by rw [List.append_assoc]; exact h2)
    rw [List.append_nil, List.append_assoc] at this
    exact this
  | pre, p :: a, q :: b, h1, h2 => by
    obtain ⟨s1, s2, s3⟩ := srt_app_iff.1 h1
    obtain ⟨r1, r2, r3⟩ := srt_app_iff.1 h2
    rcases Int.lt_trichotomy p.1 q.1 with h | h | h
    · have hg : get (pre ++ p :: a) p.1 = some p.2 := get_mem h1 (by simp)
      rw [diff_lt h]
      unfold runTn gone stepTn
      simp only
      rw [if_neg (by decide), if_pos trivial, if_pos hg, del_at h1]
      exact run_diff pre a (q :: b) (srt_app_iff.2 ⟨s1, s2.tail, fun x hx y hy => s3 x hx y (List.mem_cons_of_mem _ hy)⟩) h2
    · have hq : Srt (pre ++ q :: a) := srt_app_iff.2 ⟨s1, List.pairwise_cons.2 ⟨fun x hx => by have := s2.head x hx; omega, s2.tail⟩, fun x hx y hy => by
        rcases List.mem_cons.1 hy with rfl | hy
        · exact r3 x hx _ (List.mem_cons_self ..)
        · exact s3 x hx y (List.mem_cons_of_mem _ hy)⟩
      have ih := run_diff (pre ++ [q]) a b (by rw [List.append_assoc]; exact hq) (by rw [List.append_assoc]; exact h2)
      rw [List.append_assoc, List.append_assoc] at ih
      rw [diff_eq h]
      unfold changed
      by_cases hv : p.2 = q.2
      · rw [if_pos hv, List.nil_append, show p = q from Prod.ext h hv]
        exact ih
      · have hg : get (pre ++ p :: a) p.1 = some p.2 := get_mem h1 (by simp)
        rw [if_neg hv]
        show runTn (pre ++ p :: a) ((3, p.1, p.2, q.2) :: diffL a b) = _
        unfold runTn stepTn
        simp only
        rw [if_neg (by decide), if_neg (by decide), if_pos trivial, if_pos hg, put_over h1, show (p.1, q.2) = q from Prod.ext h rfl]
        exact ih
    · have hs : Srt (pre ++ q :: p :: a) := srt_app_iff.2 ⟨s1, List.pairwise_cons.2 ⟨fun x hx => by
          rcases List.mem_cons.1 hx with rfl | hx
          · exact h
          · have := s2.head x hx; omega, s2⟩, fun x hx y hy => by
        rcases List.mem_cons.1 hy with rfl | hy
        · exact r3 x hx _ (List.mem_cons_self ..)
        · exact s3 x hx y hy⟩
      have hg : get (pre ++ p :: a) q.1 = none := by
        rw [get_app_low (fun x hx => r3 x hx q (List.mem_cons_self ..)), get_low (fun x hx => by
          rcases List.mem_cons.1 hx with rfl | hx
          · exact h
          · have := s2.head x hx; omega)]
      rw [diff_gt h]
      unfold runTn added stepTn
      simp only
      rw [if_pos trivial, if_pos hg, put_at hs]
      have ih := run_diff (pre ++ [q]) (p :: a) b (by rw [List.append_assoc]; exact hs) (by rw [List.append_assoc]; exact h2)
      rw [List.append_assoc, List.append_assoc] at ih
      exact ih
termination_by pre a b => a.length + b.length
theorem diff_same : ∀ a : PL, diffL a a = []
  | [] => diff_nil
  | p :: a => by rw [diff_eq rfl, diff_same a]; unfold changed; rw [if_pos rfl]; rfl
theorem diff_none {a b : PL} (ha : Srt a) (hb : Srt b) : (diffL a b).length = 0 ↔ a = b := by
  constructor
  · intro h
    have := run_diff [] a b ha hb
    rw [List.length_eq_zero_iff.1 h] at this
    injection this
  · rintro rfl
    rw [diff_same]
    rfl
end Go.Proofs.YthdjbflbhgbckaaDoor.Snap

namespace Go.Proofs.YthdjbflbhgbckaaDoor
open Go.RowKit Stab Snap
attribute [local go_sem] litStep_value

/-- At a place: ahead of it all keys are below, behind it above. -/
theorem split_here {r : PL} {i : Nat} {p : Int × Int} (h : r[i]? = some p) : r = r.take i ++ p :: r.drop (i + 1) := by
  obtain ⟨h1, h2⟩ := List.getElem?_eq_some_iff.1 h
  rw [← h2, ← List.drop_eq_getElem_cons h1, List.take_append_drop]
theorem FindAt.at_ {r : PL} {key : Int} {i : Nat} (h : FindAt r key i true) : ∃ v, r[i]? = some (key, v) := by
  obtain ⟨h1, h2⟩ := h.is.1 rfl
  rw [List.getD_eq_getElem?_getD, List.getElem?_eq_getElem h1] at h2
  exact ⟨(r[i]).2, by rw [List.getElem?_eq_getElem h1]; exact congrArg some (Prod.ext h2 rfl)⟩
theorem FindAt.del {r : PL} {key : Int} {i : Nat} (h : FindAt r key i true) (hs : Assoc.Srt r) : delL r i = Assoc.del r key := by
  obtain ⟨v, hv⟩ := h.at_
  have e := split_here hv
  have hs' := hs
  rw [e] at hs'
  have := del_at hs'
  rw [← e] at this
  exact this.symm
theorem FindAt.set {r : PL} {key : Int} {i : Nat} (h : FindAt r key i true) (hs : Assoc.Srt r) (v : Int) : r.set i (key, v) = Assoc.put r key v := by
  obtain ⟨v0, hv⟩ := h.at_
  have e := split_here hv
  have hs' := hs
  rw [e] at hs'
  have := put_over (v := v) hs'
  rw [← e] at this
  rw [List.set_eq_take_append_cons_drop, if_pos (List.getElem?_eq_some_iff.1 hv).1]
  exact this.symm
theorem FindAt.ins {r : PL} {key : Int} {i : Nat} (h : FindAt r key i false) (hs : Assoc.Srt r) (v : Int) : insL r i (key, v) = Assoc.put r key v := by
  have hsp : r.take i ++ r.drop i = r := List.take_append_drop i r
  have h0 := hs
  rw [← hsp] at h0
  obtain ⟨s1, s2, s3⟩ := srt_app_iff.1 h0
  have hlo : ∀ x ∈ r.take i, x.1 < key := fun x hx => by
    obtain ⟨j, hj, rfl⟩ := List.getElem_of_mem hx
    rw [List.length_take] at hj
    have := h.lo j (by omega)
    rw [List.getD_eq_getElem?_getD, List.getElem?_eq_getElem (by omega)] at this
    rw [List.getElem_take]
    exact this
  have hhi : ∀ x ∈ r.drop i, key < x.1 := fun x hx => by
    obtain ⟨j, hj, rfl⟩ := List.getElem_of_mem hx
    rw [List.length_drop] at hj
    rw [List.getElem_drop]
    have h1 := h.hi (i + j) (by omega) (by omega)
    rw [List.getD_eq_getElem?_getD, List.getElem?_eq_getElem (by omega)] at h1
    have h1' : key ≤ (r[i + j]).1 := h1
    rcases Int.lt_or_eq_of_le h1' with h2 | h2
    · exact h2
    · exfalso
      rcases Nat.eq_zero_or_pos j with rfl | hj0
      · have := h.is.2 ⟨by omega, by rw [List.getD_eq_getElem?_getD, List.getElem?_eq_getElem (by omega)]; exact h2.symm⟩
        cases this
      · have h3 := h.hi i (Nat.le_refl _) (by omega)
        rw [List.getD_eq_getElem?_getD, List.getElem?_eq_getElem (by omega)] at h3
        have h3' : key ≤ (r[i]).1 := h3
        have h4 := List.pairwise_iff_getElem.1 hs i (i + j) (by omega) (by omega) (by omega)
        have h4' : (r[i]).1 < (r[i + j]).1 := h4
        omega
  have hq : Assoc.Srt (r.take i ++ (key, v) :: r.drop i) := srt_app_iff.2 ⟨s1, List.pairwise_cons.2 ⟨hhi, s2⟩, fun x hx y hy => by
    rcases List.mem_cons.1 hy with rfl | hy
    · exact hlo x hx
    · exact s3 x hx y hy⟩
  have := put_at hq
  rw [hsp] at this
  exact this.symm
theorem flat_set {acc : PL} {i : Nat} {k o v : Int} (h : acc[i]? = some (k, o)) : (flat encPr acc).set (i * 2 + 1) (.int .i64 v) = flat encPr (acc.set i (k, v)) := by
  have hi := (List.getElem?_eq_some_iff.1 h).1
  have e := split_here h
  have hl : (flat encPr (acc.take i)).length = i * 2 := by rw [flat_len, List.length_take, Nat.min_eq_left (by omega)]; rfl
  have e2 : acc.set i (k, v) = acc.take i ++ (k, v) :: acc.drop (i + 1) := by rw [List.set_eq_take_append_cons_drop, if_pos hi]
  have e3 : flat encPr acc = flat encPr (acc.take i) ++ (.int .i64 k :: .int .i64 o :: flat encPr (acc.drop (i + 1))) := by
    conv => lhs; rw [e]
    rw [flat_append, flat_cons]
    rfl
  rw [e2, e3, flat_append, flat_cons, List.set_append_right _ _ (by omega), hl, show i * 2 + 1 - i * 2 = 1 by omega]
  rfl
def fitsB (r : PL) (t : Tn) : Bool :=
  if t.1 = 1 then !(Assoc.get r t.2.1).isSome
  else if t.1 = 2 ∨ t.1 = 3 then decide (Assoc.get r t.2.1 = some t.2.2.1)
  else false
theorem fits_step (r : PL) (t : Tn) : fitsB r t = (stepTn r t).isSome := by
  unfold fitsB stepTn
  by_cases k1 : t.1 = 1
  · rw [if_pos k1, if_pos k1]
    cases Assoc.get r t.2.1 <;> simp
  · rw [if_neg k1, if_neg k1]
    by_cases k2 : t.1 = 2
    · rw [if_pos (.inl k2), if_pos k2]
      by_cases h : Assoc.get r t.2.1 = some t.2.2.1
      · rw [if_pos h, decide_eq_true h]; rfl
      · rw [if_neg h, decide_eq_false h]; rfl
    · rw [if_neg k2]
      by_cases k3 : t.1 = 3
      · rw [if_pos (.inr k3), if_pos k3]
        by_cases h : Assoc.get r t.2.1 = some t.2.2.1
        · rw [if_pos h, decide_eq_true h]; rfl
        · rw [if_neg h, decide_eq_false h]; rfl
      · rw [if_neg (by simp [k2, k3]), if_neg k3]; rfl
set_option maxRecDepth 100000 in
set_option maxHeartbeats 2000000 in
theorem fits_ok (B sb : Nat) (r : PL) (t : Tn) (w : World) (h : SnapIs B sb w r) : Calls Tryd.prog 31 #[.pointer (some ⟨sb, 0, none⟩), .agg #[.int .i64 t.1, .int .i64 t.2.1, .int .i64 t.2.2.1, .int .i64 t.2.2.2]] w fun e w' => e = .returned (.bool (fitsB r t)) ∧ Upd [] w w' := by
  have A0 : Hid (Upd [] w (w.alloc (.cells #[.int .i64 t.1, .int .i64 t.2.1, .int .i64 t.2.2.1, .int .i64 t.2.2.2] 51))) := Lib.hid ((Upd.refl [] w).alloc _)
  have B0 : Hid (Blk (w.alloc (.cells #[.int .i64 t.1, .int .i64 t.2.1, .int .i64 t.2.2.1, .int .i64 t.2.2.2] 51)) w.heap.size 51 #[.int .i64 t.1, .int .i64 t.2.1, .int .i64 t.2.2.1, .int .i64 t.2.2.2]) := Lib.hid (Blk.new w _ _)
  have H := Lib.hid (h.upd0 A0.out)
  obtain ⟨tb, htb⟩ : ∃ tb, w.heap.size = tb := ⟨_, rfl⟩
  rw [htb] at B0
  clear h
  go_enter Tryd.func31, Tryd.ntmps31
  go_wp2_with fail
  generalize (w.alloc (.cells #[.int .i64 t.1, .int .i64 t.2.1, .int .i64 t.2.2.1, .int .i64 t.2.2.2] 51)) = w1 at *
  refine (s_get B sb r t.2.1 w1 H.out).mono ?_
  rintro e w2 ⟨rfl, u2⟩
  have U2 := Lib.hid (A0.out.trans u2)
  have B2 := Lib.hid (B0.out.upd u2 (by simp))
  have c0 : w2.cell? ⟨tb, 0, none⟩ = some (.int .i64 t.1) := B2.out.cell 0
  have c2 : w2.cell? ⟨tb, 2, none⟩ = some (.int .i64 t.2.2.1) := B2.out.cell 2
  clear u2 htb
  obtain ⟨og, hog⟩ : ∃ og, Assoc.get r t.2.1 = og := ⟨_, rfl⟩
  have HOG := Lib.hid hog
  rw [hog]
  clear hog
  by_cases k1 : t.1 = 1
  · have FV : Hid (fitsB r t = !og.isSome) := Lib.hid (by unfold fitsB; rw [if_pos k1, HOG.out])
    have d1 : (t.1 == 1) = true := by simpa using k1
    clear k1
    obtain ⟨ob, hob⟩ : ∃ ob, og.isSome = ob := ⟨_, rfl⟩
    have HOB := Lib.hid hob
    rw [hob]
    clear hob
    go_wp2_with fail
    go_ret
    exact ⟨by rw [FV.out, HOB.out]; rfl, U2.out⟩
  · have d1 : (t.1 == 1) = false := by simpa using k1
    by_cases k23 : t.1 = 2 ∨ t.1 = 3
    · have FV : Hid (fitsB r t = decide (og = some t.2.2.1)) := Lib.hid (by unfold fitsB; rw [if_neg k1, if_pos k23, HOG.out])
      rcases k23 with k2 | k2
      · have d2 : (t.1 == 2) = true := by simpa using k2
        clear k1 k2
        cases og with
        | none =>
          go_wp2_with fail
          go_ret
          exact ⟨by rw [FV.out]; rfl, U2.out⟩
        | some v =>
          obtain ⟨bv, hbv⟩ : ∃ bv, (v == t.2.2.1) = bv := ⟨_, rfl⟩
          have BV : Hid (decide ((some v : Option Int) = some t.2.2.1) = bv) := Lib.hid (by rw [← hbv]; simp [BEq.beq])
          go_wp2_with fail
          go_ret
          exact ⟨by rw [FV.out, BV.out]; rfl, U2.out⟩
      · have d2 : (t.1 == 2) = false := by simp [k2]
        have d3 : (t.1 == 3) = true := by simpa using k2
        clear k1 k2
        cases og with
        | none =>
          go_wp2_with fail
          go_ret
          exact ⟨by rw [FV.out]; rfl, U2.out⟩
        | some v =>
          obtain ⟨bv, hbv⟩ : ∃ bv, (v == t.2.2.1) = bv := ⟨_, rfl⟩
          have BV : Hid (decide ((some v : Option Int) = some t.2.2.1) = bv) := Lib.hid (by rw [← hbv]; simp [BEq.beq])
          go_wp2_with fail
          go_ret
          exact ⟨by rw [FV.out, BV.out]; rfl, U2.out⟩
    · have FV : Hid (fitsB r t = false) := Lib.hid (by unfold fitsB; rw [if_neg k1, if_neg k23])
      have d2 : (t.1 == 2) = false := by simp; intro e; exact k23 (.inl e)
      have d3 : (t.1 == 3) = false := by simp; intro e; exact k23 (.inr e)
      clear k1 k23
      go_wp2_with fail
      go_ret
      exact ⟨by rw [FV.out]; rfl, U2.out⟩
end Go.Proofs.YthdjbflbhgbckaaDoor

namespace Go.Proofs.YthdjbflbhgbckaaDoor
open Go.RowKit Stab Snap
attribute [local go_sem] litStep_value

/-- A snapshot's list is another one by now. -/
theorem SnapIs.turn {B ob : Nat} {w w1 : World} {v v' : Value} {r r' : PL} (hB : B ≤ ob) (hb : Blk w ob 55 #[v, .bool true]) (hv : Ow encPr 39 w B v r) (ho : Ow encPr 39 w1 B v' r') (hu : Upd v.ownBlock.toList w w1) (hs : Assoc.Srt r') (hl : r'.length ≤ 1000) : SnapIs B ob (w1.setCell ⟨ob, 0, none⟩ v') r' := by
  have hb1 : Blk w1 ob 55 #[v, .bool true] := hb.upd hu (fun hm => own_type hv hb (by decide) (by simpa using hm))
  obtain ⟨A, c, hA, _, _⟩ := ho.form
  subst hA
  exact ⟨hs, hl, hB, A, c, hb1.set_eq rfl, ho.upd ((Upd.refl [ob] w1).setCell (.inl (by simp)) _) (fun x hx hm => own_type ho hb1 (by decide) (by rw [hx]; simpa using hm))⟩
/-- A slice literal of one element, new. -/
def litN (H : Nat) (t : TypeId) (cs : Array Value) : Spec := ⟨fun _ => [], fun v w => ∃ g, v = .slice (some ⟨g, 0, none⟩) 1 1 ∧ H ≤ g ∧ Blk w g t cs, fun v => ∃ g, v = .slice (some ⟨g, 0, none⟩) 1 1⟩
theorem lasts0_litN (w0 : World) (H : Nat) (t : TypeId) (cs : Array Value) : Lasts0 w0 (litN H t cs) :=
  ⟨fun v w w' _ ⟨g, h1, h2, h3⟩ hu => ⟨g, h1, h2, h3.upd hu (by simp)⟩, ⟨_, 0, rfl⟩, fun _ _ ⟨g, h, _⟩ => ⟨g, h⟩⟩
theorem lasts0_det (w0 : World) (v0 : Value) : Lasts0 w0 (.det v0) := ⟨fun _ _ _ _ h _ => h, ⟨v0, rfl⟩, fun _ _ h => h⟩
def ApplyPost (r : PL) (ts : List Tn) (w : World) (e : Ending) (w' : World) : Prop := Upd [] w w' ∧
  ((∃ sb r', e = .returned (.tuple #[.pointer (some ⟨sb, 0, none⟩), .nilIface]) ∧ SnapIs w.heap.size sb w' r' ∧ runTn r ts = some r') ∨
   (∃ g k, e = .returned (.tuple #[.pointer none, .iface 58 (.pointer (some ⟨g, 0, none⟩))]) ∧ Blk w' g 61 #[.int .i64 ((k + 1 : Nat) : Int), .int .i64 12] ∧ ∃ q t, runTn r (ts.take k) = some q ∧ ts[k]? = some t ∧ stepTn q t = none))
theorem run_snoc {r q q' : PL} {ts : List Tn} {k : Nat} {t : Tn} (h : runTn r (ts.take k) = some q) (ht : ts[k]? = some t) (hs : stepTn q t = some q') : runTn r (ts.take (k + 1)) = some q' := by
  rw [List.take_add_one, ht, runTn_append, h]
  show runTn q [t] = some q'
  unfold runTn
  rw [hs]
  rfl
set_option maxRecDepth 100000 in
set_option maxHeartbeats 8000000 in
theorem s_apply (B sb : Nat) (r : PL) (At : Option Addr) (m ct : Nat) (ts : List Tn) (w : World) (h : SnapIs B sb w r) (ht : Rd encTn w (.slice At m ct) ts) (hm : ts.length = m) (hrl : r.length ≤ 300) (hml : m ≤ 300) :
    Calls Tryd.prog 15 #[.pointer (some ⟨sb, 0, none⟩), .slice At m ct] w fun e w' => ApplyPost r ts w e w' := by
  have H := Lib.hid h
  have HT := Lib.hid ht
  have HM := Lib.hid hm
  have HRL := Lib.hid hrl
  clear h ht hm
  go_enter Tryd.func15, Tryd.ntmps15
  go_wp2_with fail
  refine (s_is B sb r w H.out).mono ?_
  rintro e w' ⟨rfl, rfl⟩
  go_wp2_with fail
  refine (s_all B sb r w H.out).mono ?_
  rintro e w1 ⟨va, rfl, oa, u1⟩
  obtain ⟨Aa, ca, rfl, _, _⟩ := own_slice oa
  have U1 := Lib.hid (u1.alloc (.cells #[.slice Aa r.length ca, .bool true] 55))
  obtain ⟨ob, hob⟩ : ∃ ob, w1.heap.size = ob := ⟨_, rfl⟩
  have HOB : Hid (w.heap.size ≤ ob) := Lib.hid (by have := u1.size; omega)
  have S1 : Hid (SnapIs w.heap.size ob (w1.alloc (.cells #[.slice Aa r.length ca, .bool true] 55)) r) := Lib.hid ⟨H.out.srt, H.out.small, by have := u1.size; omega, Aa, ca, by rw [← hob]; exact Blk.new w1 _ _, oa.upd0 ((Upd.refl [] w1).alloc _)⟩
  clear oa u1
  go_wp2_with fail
  generalize (w1.alloc (.cells #[.slice Aa r.length ca, .bool true] 55)) = w2 at *
  clear hob
  go_loopw [21] (fun v wr => ∃ (k : Nat) (rk : PL), v = .int .i64 k ∧ k ≤ m ∧ Hid (runTn r (ts.take k) = some rk ∧ rk.length ≤ r.length + k) ∧ Hid (SnapIs w.heap.size ob wr rk) ∧ Hid (Upd [] w wr)) (fun v _ => m - (intOf v).toNat)
  case atStart => exact ⟨0, r, rfl, Nat.zero_le _, Lib.hid ⟨rfl, by omega⟩, S1, U1⟩
  case round =>
    obtain ⟨k, rk, rfl, hk, HK, S, U⟩ := hrel
    rename World => wr
    clear S1 U1
    by_cases hkm : k < m
    · obtain ⟨t, hkt⟩ : ∃ t, ts[k]? = some t := ⟨_, List.getElem?_eq_getElem (by rw [HM.out]; exact hkm)⟩
      obtain ⟨ad, rfl, -, hcl⟩ := (HT.out.upd0 U.out).at_ hkt
      have f0 : wr.cell? (ad.add (k * 4)) = some (.int .i64 t.1) := hcl 0 _ rfl
      have f1 : wr.cell? ⟨(ad.add (k * 4)).block, (ad.add (k * 4)).off + 1, none⟩ = some (.int .i64 t.2.1) := by have := hcl 1 _ rfl; rwa [show k * (encTn).s + 1 = k * 4 + (0 + 1) from rfl, add_more] at this
      have f2 : wr.cell? ⟨(ad.add (k * 4)).block, (ad.add (k * 4)).off + 2, none⟩ = some (.int .i64 t.2.2.1) := by have := hcl 2 _ rfl; rwa [show k * (encTn).s + 2 = k * 4 + (1 + 1) from rfl, add_more] at this
      have f3 : wr.cell? ⟨(ad.add (k * 4)).block, (ad.add (k * 4)).off + 3, none⟩ = some (.int .i64 t.2.2.2) := by have := hcl 3 _ rfl; rwa [show k * (encTn).s + 3 = k * 4 + (2 + 1) from rfl, add_more] at this
      have q1 : (0 : Int) ≤ (k : Int) := by omega
      have q2 : (k : Int) < (m : Int) := by omega
      have HKT := Lib.hid hkt
      obtain ⟨tb, htb⟩ : ∃ tb, wr.heap.size = tb := ⟨_, rfl⟩
      have TB : Hid (Blk (wr.alloc (.cells #[.int .i64 t.1, .int .i64 t.2.1, .int .i64 t.2.2.1, .int .i64 t.2.2.2] 51)) tb 51 #[.int .i64 t.1, .int .i64 t.2.1, .int .i64 t.2.2.1, .int .i64 t.2.2.2]) := Lib.hid (by rw [← htb]; exact Blk.new wr _ _)
      have SA := Lib.hid (S.out.upd0 ((Upd.refl [] wr).alloc (.cells #[.int .i64 t.1, .int .i64 t.2.1, .int .i64 t.2.2.1, .int .i64 t.2.2.2] 51)))
      have UA := Lib.hid (U.out.alloc (.cells #[.int .i64 t.1, .int .i64 t.2.1, .int .i64 t.2.2.1, .int .i64 t.2.2.2] 51))
      clear hcl hkt S U
      go_wp2_with fail
      clear f0 f1 f2 f3 htb
      generalize (wr.alloc (.cells #[.int .i64 t.1, .int .i64 t.2.1, .int .i64 t.2.2.1, .int .i64 t.2.2.2] 51)) = w3 at *
      refine (fits_ok _ ob rk t w3 SA.out).mono ?_
      rintro e w4 ⟨rfl, u4⟩
      have S4 := Lib.hid (SA.out.upd0 u4)
      have U4 := Lib.hid (UA.out.trans u4)
      have T4 := Lib.hid (TB.out.upd u4 (by simp))
      have FS := fits_step rk t
      clear u4 SA UA TB
      obtain ⟨os, hos⟩ : ∃ os, stepTn rk t = os := ⟨_, rfl⟩
      have HOS := Lib.hid hos
      rw [hos] at FS
      rw [FS]
      clear FS hos
      cases os with
      | none =>
        have e1 : Option.isSome (none : Option PL) = false := rfl
        rw [e1]
        obtain ⟨k1, hk1⟩ : ∃ k1, k + 1 = k1 := ⟨_, rfl⟩
        have t1 : (k : Int) + 1 = (k1 : Int) := by omega
        have t1w : IntKind.i64.wrap (k1 : Int) = (k1 : Int) := by rw [IntKind.wrap_i64]; omega
        have HK1 := Lib.hid hk1
        have BF : Hid (Blk (w4.alloc (.cells #[.int .i64 (k1 : Nat), .int .i64 12] 61)) w4.heap.size 61 #[.int .i64 (k1 : Nat), .int .i64 12]) := Lib.hid (Blk.new w4 _ _)
        have UF := Lib.hid (U4.out.alloc (.cells #[.int .i64 (k1 : Nat), .int .i64 12] 61))
        clear hk1
        go_wp2_with fail
        go_ret2
        exact ⟨UF.out, .inr ⟨_, k, rfl, by rw [HK1.out]; exact BF.out, rk, t, HK.out.1, HKT.out, HOS.out⟩⟩
      | some rn =>
        have e1 : Option.isSome (some rn : Option PL) = true := rfl
        rw [e1]
        have c1 : w4.cell? ⟨tb, 1, none⟩ = some (.int .i64 t.2.1) := T4.out.cell 1
        go_wp2_with fail
        refine (s_find _ ob rk t.2.1 w4 S4.out).mono ?_
        rintro e w5 ⟨i, b, rfl, f, u5⟩
        have F := Lib.hid f
        have G := Lib.hid (f.get S4.out.srt)
        have S5 := Lib.hid (S4.out.upd0 u5)
        have U5 := Lib.hid (U4.out.trans u5)
        have T5 := Lib.hid (T4.out.upd u5 (by simp))
        have c0 : w5.cell? ⟨tb, 0, none⟩ = some (.int .i64 t.1) := T5.out.cell 0
        have RN : Hid (runTn r (ts.take (k + 1)) = some rn ∧ rn.length ≤ r.length + (k + 1)) := Lib.hid ⟨run_snoc HK.out.1 HKT.out HOS.out, by have := step_len S4.out.srt HOS.out; have := HK.out.2; omega⟩
        have SN := Lib.hid (step_srt S4.out.srt HOS.out)
        obtain ⟨A, c, hb, ho⟩ := S5.out.obj
        obtain ⟨n, hn⟩ : ∃ n, rk.length = n := ⟨_, rfl⟩
        have HN := Lib.hid hn
        rw [hn] at hb ho
        have hn9 : n ≤ 600 := by have := HK.out.2; omega
        have hin : i ≤ n := by have := f.le; omega
        have HB := Lib.hid hb
        have HO := Lib.hid ho
        clear f u5 c1 S4 U4 T4 hb ho hn
        have c2 : w5.cell? ⟨tb, 2, none⟩ = some (.int .i64 t.2.2.1) := T5.out.cell 2
        have c3 : w5.cell? ⟨tb, 3, none⟩ = some (.int .i64 t.2.2.2) := T5.out.cell 3
        have c1 : w5.cell? ⟨tb, 1, none⟩ = some (.int .i64 t.2.1) := T5.out.cell 1
        have BW : Hid (w.heap.size ≤ w5.heap.size) := Lib.hid U5.out.size
        have RL : Hid (rn.length ≤ 1000) := Lib.hid (by have := RN.out.2; omega)
        by_cases k1 : t.1 = 1
        · have hst : Assoc.get rk t.2.1 = none ∧ Assoc.put rk t.2.1 t.2.2.2 = rn := by
            have := HOS.out
            unfold stepTn at this
            rw [if_pos k1] at this
            split at this
            · rename_i hg
              injection this with this
              exact ⟨hg, this⟩
            · cases this
          obtain rfl : b = false := by
            cases b with
            | false => rfl
            | true => have := G.out; rw [hst.1] at this; simp at this
          have FI : Hid (insL rk i (t.2.1, t.2.2.2) = rn) := Lib.hid ((F.out.ins S5.out.srt _).trans hst.2)
          have CS : Hid (∀ W, Upd [] w5.drew W → W.cell? ⟨ob, 0, none⟩ = some (.slice A n c) ∧ W.cell? ⟨tb, 1, none⟩ = some (.int .i64 t.2.1) ∧ W.cell? ⟨tb, 3, none⟩ = some (.int .i64 t.2.2.2)) := Lib.hid (fun W hW => by
            have hu := (Upd.refl [] w5).drew.trans hW
            exact ⟨(HB.out.upd hu (by simp)).cell 0, (T5.out.upd hu (by simp)).cell 1, (T5.out.upd hu (by simp)).cell 3⟩)
          have d1 : (t.1 == 1) = true := by simpa using k1
          clear hst k1
          go_wp2_with fail
          refine wp_invNT0 12 [(10, .det (.agg #[.int .i64 t.2.1, .int .i64 t.2.2.2])), (11, litN w5.heap.size 39 #[.int .i64 t.2.1, .int .i64 t.2.2.2])] (by kernel_rfl) (by simp) (by kernel_rfl) (by kernel_rfl) ⟨lasts0_det _ _, lasts0_litN _ _ _ _, trivial⟩ ?_
          simp only [List.take_succ_cons, List.take_zero, List.drop_succ_cons, List.drop_zero]
          with_reducible apply wpV_light
          · simp only [lightOp]
          · intro W hU hF
            have f0 := CS.out W hU
            clear hU hF
            go_simp
            exact rfl
          simp only [Act.put, List.setIfInBounds_toArray, List.set_cons_zero, List.set_cons_succ]
          with_reducible apply wpV_light
          · simp only [lightOp]
          · intro W hU hF
            have f0 := CS.out W hU
            clear hU hF
            go_simp
            exact rfl
          simp only [Act.put, List.setIfInBounds_toArray, List.set_cons_zero, List.set_cons_succ]
          with_reducible apply wpV_light
          · simp only [lightOp]
          · intro W hU hF
            have f0 := CS.out W hU
            clear hU hF
            go_simp
            exact rfl
          simp only [Act.put, List.setIfInBounds_toArray, List.set_cons_zero, List.set_cons_succ]
          with_reducible apply wpV_light
          · simp only [lightOp]
          · intro W hU hF
            have f0 := CS.out W hU
            clear hU hF
            go_simp
            exact rfl
          simp only [Act.put, List.setIfInBounds_toArray, List.set_cons_zero, List.set_cons_succ]
          with_reducible apply wpV_light
          · simp only [lightOp]
          · intro W hU hF
            have f0 := CS.out W hU
            clear hU hF
            go_simp
            exact rfl
          simp only [Act.put, List.setIfInBounds_toArray, List.set_cons_zero, List.set_cons_succ]
          with_reducible apply wpV_light
          · simp only [lightOp]
          · intro W hU hF
            have f0 := CS.out W hU
            clear hU hF
            go_simp
            exact rfl
          simp only [Act.put, List.setIfInBounds_toArray, List.set_cons_zero, List.set_cons_succ]
          with_reducible apply wpV_light
          · simp only [lightOp]
          · intro W hU hF
            have f0 := CS.out W hU
            clear hU hF
            go_simp
            exact rfl
          simp only [Act.put, List.setIfInBounds_toArray, List.set_cons_zero, List.set_cons_succ]
          with_reducible apply wpV_light
          · simp only [lightOp]
          · intro W hU hF
            have f0 := CS.out W hU
            clear hU hF
            go_simp
            exact rfl
          simp only [Act.put, List.setIfInBounds_toArray, List.set_cons_zero, List.set_cons_succ]
          with_reducible apply wpV_light
          · simp only [lightOp]
          · intro W hU hF
            have f0 := CS.out W hU
            clear hU hF
            go_simp
            exact rfl
          simp only [Act.put, List.setIfInBounds_toArray, List.set_cons_zero, List.set_cons_succ]
          with_reducible apply wpV_light
          · simp only [lightOp]
          · intro W hU hF
            have f0 := CS.out W hU
            clear hU hF
            go_simp
            exact rfl
          simp only [Act.put, List.setIfInBounds_toArray, List.set_cons_zero, List.set_cons_succ]
          refine wpV_heavy (by simp only [lightOp]) (by rfl) (fun W hU hk hF K hK => ?_) ?_
          · go_wp2_with fail
            exact hK.out _ _ (outV_new rfl rfl (by intro b hb; cases hb) (.refl _ _))
          rintro _ rfl
          simp only [Act.put, List.setIfInBounds_toArray, List.set_cons_zero, List.set_cons_succ]
          refine wpV_heavy (by simp only [lightOp]) (by rfl) (fun W hU hk hF K hK => ?_) ?_
          · go_wp2_with fail
            exact hK.out _ _ (outV_new rfl ⟨_, rfl, hU.size, Blk.new _ _ _⟩ (by intro b hb; cases hb) ((Upd.refl [] _).alloc _))
          rintro _ ⟨vb, rfl⟩
          simp only [Act.put, List.setIfInBounds_toArray, List.set_cons_zero, List.set_cons_succ]
          refine wpV_end (fun w7 hU _ hF => ?_)
          have U6 : Hid (Upd [] w5 w7) := Lib.hid ((Upd.refl [] w5).drew.trans hU)
          have VB2 : Hid (w5.heap.size ≤ vb ∧ Blk w7 vb 39 #[.int .i64 t.2.1, .int .i64 t.2.2.2]) := Lib.hid (by
            obtain ⟨g2, he, hg, hb⟩ := hF.out.2.1 (by kernel_rfl)
            injection he with he _ _
            injection he with he
            injection he with he
            subst he
            exact ⟨hg, hb⟩)
          have VB := Lib.hid VB2.out.2
          clear hU hF CS c0 c1 c2 c3
          have HO6 := Lib.hid (HO.out.upd0 U6.out)
          have HB6 := Lib.hid (HB.out.upd U6.out (by simp))
          have U7 := Lib.hid (U5.out.trans U6.out)
          have VN : Hid ((Value.slice A n c).ownBlock ≠ some vb) := Lib.hid (fun e => by have := (own_lt HO.out e).2; have := VB2.out.1; omega)
          refine wpT_op (by rfl) (fun K hK => ?_)
          go_wp2_with fail
          refine (insert_ok w.heap.size A n c rk i vb (t.2.1, t.2.2.2) w7 HO6.out HN.out hin (by omega) VB.out VN.out U7.out.size).mono ?_
          rintro e w8 ⟨v', rfl, o8, u8⟩
          rw [FI.out] at o8
          have S9 := Lib.hid (SnapIs.turn HOB.out HB6.out HO6.out o8 u8 SN.out RL.out)
          have U9 : Hid (Upd [] w (w8.setCell ⟨ob, 0, none⟩ v')) := Lib.hid ((U7.out.trans' u8 (fun x hx => .inr (own_lt HO6.out (by simpa using hx)).1)).setCell (.inr HOB.out) _)
          have HB8 : Hid (Blk w8 ob 55 #[.slice A n c, .bool true]) := Lib.hid (HB6.out.upd u8 (fun hm => own_type HO6.out HB6.out (by decide) (by simpa using hm)))
          obtain ⟨A8, c8, hA8, _, _⟩ := o8.form
          subst hA8
          clear o8 u8 HO6 HB6 VB VN U7
          go_wp2_with fail
          refine hK.out _ _ ?_
          clear hK K
          try simp only [Act.put, List.setIfInBounds_toArray, List.set_cons_zero, List.set_cons_succ]
          have f0 : w8.cell? ⟨ob, 0, none⟩ = some (.slice A n c) := HB8.out.cell 0
          have f1 : w8.frozen? ⟨ob, 0, none⟩ = false := HB8.out.frozen 0
          have f2 : ob < w8.heap.size := HB8.out.lt
          refine wpT_op (by rfl) (fun K hK => ?_)
          go_wp2_with fail
          refine hK.out _ _ ?_
          clear hK K
          try simp only [Act.put, List.setIfInBounds_toArray, List.set_cons_zero, List.set_cons_succ]
          refine wpT_op (by rfl) (fun K hK => ?_)
          go_wp2_with fail
          refine hK.out _ _ ?_
          clear hK K
          try simp only [Act.put, List.setIfInBounds_toArray, List.set_cons_zero, List.set_cons_succ]
          refine wpT_op (by rfl) (fun K hK => ?_)
          go_wp2_with fail
          refine hK.out _ _ ?_
          clear hK K
          try simp only [Act.put, List.setIfInBounds_toArray, List.set_cons_zero, List.set_cons_succ]
          refine wpT_end ?_
          go_wp2_with fail
          go_roundw
          case rel => exact ⟨k + 1, rn, by go_num, by omega, RN, S9, U9⟩
          case measure => simp [intOf]; omega
        · have d1 : (t.1 == 1) = false := by simpa using k1
          by_cases k2 : t.1 = 2
          · have hst : Assoc.get rk t.2.1 = some t.2.2.1 ∧ Assoc.del rk t.2.1 = rn := by
              have := HOS.out
              unfold stepTn at this
              rw [if_neg k1, if_pos k2] at this
              split at this
              · rename_i hg
                injection this with this
                exact ⟨hg, this⟩
              · cases this
            obtain rfl : b = true := by
              cases b with
              | true => rfl
              | false => have := G.out; rw [hst.1] at this; simp at this
            have FI : Hid (delL rk i = rn) := Lib.hid ((F.out.del S5.out.srt).trans hst.2)
            have hin2 : i < n := by have := (F.out.is.1 rfl).1; rwa [HN.out] at this
            have d2 : (t.1 == 2) = true := by simpa using k2
            obtain ⟨g, cg, cur, e1', -⟩ := own_form HO.out (by rw [HN.out]; omega)
            injection e1' with e1' en e1''
            subst e1' e1''
            have b0 : w5.cell? ⟨ob, 0, none⟩ = some (.slice (some ⟨g, 0, none⟩) n c) := HB.out.cell 0
            obtain ⟨j, hj⟩ : ∃ j, i + 1 = j := ⟨_, rfl⟩
            have t1 : (i : Int) + 1 = (j : Int) := by omega
            have t1w : IntKind.i64.wrap (j : Int) = (j : Int) := by rw [IntKind.wrap_i64]; omega
            have HJ := Lib.hid hj
            clear hst k1 k2 en hj
            go_wp2_with fail
            refine (delete_ok w.heap.size g n c rk i j w5 HO.out HN.out HJ.out (by have := HJ.out; omega) (by omega)).mono ?_
            rintro e w8 ⟨rfl, o8, u8⟩
            rw [FI.out] at o8
            have u8' : Upd (Value.slice (some ⟨g, 0, none⟩) n c).ownBlock.toList w5 w8 := u8
            have S9 := Lib.hid (SnapIs.turn HOB.out HB.out HO.out o8 u8' SN.out RL.out)
            have U9 : Hid (Upd [] w (w8.setCell ⟨ob, 0, none⟩ (.slice (some ⟨g, 0, none⟩) (n - 1) c))) := Lib.hid ((U5.out.trans' u8' (fun x hx => .inr (own_lt HO.out (by simpa using hx)).1)).setCell (.inr HOB.out) _)
            have HB8 : Hid (Blk w8 ob 55 #[.slice (some ⟨g, 0, none⟩) n c, .bool true]) := Lib.hid (HB.out.upd u8' (fun hm => own_type HO.out HB.out (by decide) (by simpa using hm)))
            clear o8 u8 u8' c0 c1 c2 c3 b0 t1 t1w
            have f0 : w8.cell? ⟨ob, 0, none⟩ = some (.slice (some ⟨g, 0, none⟩) n c) := HB8.out.cell 0
            have f1 : w8.frozen? ⟨ob, 0, none⟩ = false := HB8.out.frozen 0
            have f2 : ob < w8.heap.size := HB8.out.lt
            go_wp2_with fail
            go_roundw
            case rel => exact ⟨k + 1, rn, by go_num, by omega, RN, S9, U9⟩
            case measure => simp [intOf]; omega
          · have d2 : (t.1 == 2) = false := by simpa using k2
            have hst : t.1 = 3 ∧ Assoc.get rk t.2.1 = some t.2.2.1 ∧ Assoc.put rk t.2.1 t.2.2.2 = rn := by
              have := HOS.out
              unfold stepTn at this
              rw [if_neg k1, if_neg k2] at this
              split at this
              · rename_i k3
                split at this
                · rename_i hg
                  injection this with this
                  exact ⟨k3, hg, this⟩
                · cases this
              · cases this
            obtain rfl : b = true := by
              cases b with
              | true => rfl
              | false => have := G.out; rw [hst.2.1] at this; simp at this
            have FI : Hid (rk.set i (t.2.1, t.2.2.2) = rn) := Lib.hid ((F.out.set S5.out.srt _).trans hst.2.2)
            have hin2 : i < n := by have := (F.out.is.1 rfl).1; rwa [HN.out] at this
            have d3 : (t.1 == 3) = true := by simpa using hst.1
            obtain ⟨v0, hv0⟩ := F.out.at_
            have HV0 := Lib.hid hv0
            obtain ⟨g, cg, cur, e1', -⟩ := own_form HO.out (by rw [HN.out]; omega)
            injection e1' with e1' en e1''
            subst e1' e1''
            have r1 : (0 : Int) ≤ (i : Int) := by omega
            have r2 : (i : Int) < (n : Int) := by omega
            have CS : Hid (∀ W, Upd [] w5.drew W → W.cell? ⟨ob, 0, none⟩ = some (.slice (some ⟨g, 0, none⟩) n c) ∧ W.cell? ⟨tb, 3, none⟩ = some (.int .i64 t.2.2.2)) := Lib.hid (fun W hW => by
              have hu := (Upd.refl [] w5).drew.trans hW
              exact ⟨(HB.out.upd hu (by simp)).cell 0, (T5.out.upd hu (by simp)).cell 3⟩)
            clear hst k1 k2 en hv0
            go_wp2_with fail
            refine wp_invNT 9 [] [] (by kernel_rfl) (by simp) (by kernel_rfl) (by kernel_rfl) trivial ?_
            simp only [List.take_succ_cons, List.take_zero, List.drop_succ_cons, List.drop_zero]
            with_reducible apply wpV_light
            · simp only [lightOp]
            · intro W hU hF
              have f0 := CS.out W hU
              clear hU hF
              go_simp
              exact rfl
            simp only [Act.put, List.setIfInBounds_toArray, List.set_cons_zero, List.set_cons_succ]
            with_reducible apply wpV_light
            · simp only [lightOp]
            · intro W hU hF
              have f0 := CS.out W hU
              clear hU hF
              go_simp
              exact rfl
            simp only [Act.put, List.setIfInBounds_toArray, List.set_cons_zero, List.set_cons_succ]
            with_reducible apply wpV_light
            · simp only [lightOp]
            · intro W hU hF
              have f0 := CS.out W hU
              clear hU hF
              go_simp
              exact rfl
            simp only [Act.put, List.setIfInBounds_toArray, List.set_cons_zero, List.set_cons_succ]
            with_reducible apply wpV_light
            · simp only [lightOp]
            · intro W hU hF
              have f0 := CS.out W hU
              clear hU hF
              go_simp
              exact rfl
            simp only [Act.put, List.setIfInBounds_toArray, List.set_cons_zero, List.set_cons_succ]
            with_reducible apply wpV_light
            · simp only [lightOp]
            · intro W hU hF
              have f0 := CS.out W hU
              clear hU hF
              go_simp
              exact rfl
            simp only [Act.put, List.setIfInBounds_toArray, List.set_cons_zero, List.set_cons_succ]
            with_reducible apply wpV_light
            · simp only [lightOp]
            · intro W hU hF
              have f0 := CS.out W hU
              clear hU hF
              go_simp
              exact rfl
            simp only [Act.put, List.setIfInBounds_toArray, List.set_cons_zero, List.set_cons_succ]
            with_reducible apply wpV_light
            · simp only [lightOp]
            · intro W hU hF
              have f0 := CS.out W hU
              clear hU hF
              go_simp
              exact rfl
            simp only [Act.put, List.setIfInBounds_toArray, List.set_cons_zero, List.set_cons_succ]
            with_reducible apply wpV_light
            · simp only [lightOp]
            · intro W hU hF
              have f0 := CS.out W hU
              clear hU hF
              go_simp
              exact rfl
            simp only [Act.put, List.setIfInBounds_toArray, List.set_cons_zero, List.set_cons_succ]
            with_reducible apply wpV_light
            · simp only [lightOp]
            · intro W hU hF
              have f0 := CS.out W hU
              clear hU hF
              go_simp
              exact rfl
            simp only [Act.put, List.setIfInBounds_toArray, List.set_cons_zero, List.set_cons_succ]
            refine wpV_end (fun W hU _ _ => ?_)
            have U6 : Hid (Upd [] w5 W) := Lib.hid ((Upd.refl [] w5).drew.trans hU)
            clear hU CS c0 c1 c2 c3
            have HO6 := Lib.hid (HO.out.upd0 U6.out)
            have HB6 := Lib.hid (HB.out.upd U6.out (by simp))
            have f0 : W.cell? ⟨g, i * 2 + 1, none⟩ = some (.int .i64 v0) := HO6.out.at_ HV0.out 1 _ rfl
            have OW6 : Hid (W.ownsRow w.heap.size 39 2 (.slice (some ⟨g, 0, none⟩) n c) n (flat encPr rk)) := Lib.hid (by have := HO6.out; unfold Ow at this; rw [HN.out] at this; exact this)
            have f1 : ∀ q, W.frozen? ⟨g, q, none⟩ = false := fun q => own_frozen OW6.out q
            have f2 : g < W.heap.size := (own_lt OW6.out rfl).2
            have O7 : Hid (Ow encPr 39 (W.setCell ⟨g, i * 2 + 1, none⟩ (.int .i64 t.2.2.2)) w.heap.size (.slice (some ⟨g, 0, none⟩) n c) rn) := Lib.hid (by
              rw [← FI.out]
              have h0 := HO6.out
              unfold Ow at h0 ⊢
              rw [HN.out] at h0
              rw [List.length_set, HN.out, ← flat_set HV0.out]
              exact own_set h0 _ _)
            have U7 : Hid (Upd [g] w5 (W.setCell ⟨g, i * 2 + 1, none⟩ (.int .i64 t.2.2.2))) := Lib.hid ((U6.out.mono (by simp)).setCell (.inl (by simp)) _)
            have S7 : Hid (SnapIs w.heap.size ob (W.setCell ⟨g, i * 2 + 1, none⟩ (.int .i64 t.2.2.2)) rn) := Lib.hid ⟨SN.out, RL.out, HOB.out, some ⟨g, 0, none⟩, c, by
              rw [← FI.out, List.length_set, HN.out]
              exact HB.out.upd U7.out (fun hm => own_type HO.out HB.out (by decide) (by simp at hm; rw [hm]; rfl)), by
              rw [show rn.length = n by rw [← FI.out, List.length_set, HN.out]]
              exact O7.out⟩
            have U9 : Hid (Upd [] w (W.setCell ⟨g, i * 2 + 1, none⟩ (.int .i64 t.2.2.2))) := Lib.hid (U5.out.trans' U7.out (fun x hx => .inr (own_lt HO.out (by simp at hx; rw [hx]; rfl)).1))
            refine wpT_op (by rfl) (fun K hK => ?_)
            go_wp2_with fail
            refine hK.out _ _ ?_
            clear hK K
            try simp only [Act.put, List.setIfInBounds_toArray, List.set_cons_zero, List.set_cons_succ]
            refine wpT_end ?_
            clear f0 f1 f2
            go_wp2_with fail
            go_roundw
            case rel => exact ⟨k + 1, rn, by go_num, by omega, RN, S7, U9⟩
            case measure => simp [intOf]; omega
    · go_wp2_with fail
      go_ret2
      refine ⟨U.out, .inl ⟨ob, rk, rfl, S.out, ?_⟩⟩
      have := HK.out.1
      rwa [List.take_of_length_le (by rw [HM.out]; omega)] at this
end Go.Proofs.YthdjbflbhgbckaaDoor

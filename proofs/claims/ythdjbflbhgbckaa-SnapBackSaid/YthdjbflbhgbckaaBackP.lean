/-
  Turns done one behind the other, and their way back, plainly. No program in sight.
-/
import Derived.Test.YthdjbflbhgbckaaDiffP
set_option linter.unusedVariables false
namespace Go.Proofs.Ythdjbflbhgbckaa.Snap
open Assoc Stab

/-- One turn, if it can be done. -/
def stepTn (r : PL) (t : Tn) : Option PL :=
  if t.1 = 1 then (if get r t.2.1 = none then some (put r t.2.1 t.2.2.2) else none)
  else if t.1 = 2 then (if get r t.2.1 = some t.2.2.1 then some (del r t.2.1) else none)
  else if t.1 = 3 then (if get r t.2.1 = some t.2.2.1 then some (put r t.2.1 t.2.2.2) else none)
  else none
def runTn : PL → List Tn → Option PL
  | r, [] => some r
  | r, t :: ts => (stepTn r t).bind fun r' => runTn r' ts
theorem runTn_append : ∀ (r : PL) (a b : List Tn), runTn r (a ++ b) = (runTn r a).bind fun r' => runTn r' b
  | r, [], b => rfl
  | r, t :: a, b => by
    show (stepTn r t).bind (fun r' => runTn r' (a ++ b)) = ((stepTn r t).bind fun r' => runTn r' a).bind fun r' => runTn r' b
    cases stepTn r t with
    | none => rfl
    | some r' => exact runTn_append r' a b
theorem step_srt {r r' : PL} {t : Tn} (h : Srt r) (hs : stepTn r t = some r') : Srt r' := by
  unfold stepTn at hs
  split at hs
  · split at hs
    · injection hs with hs; subst hs; exact srt_put h _ _
    · cases hs
  · split at hs
    · split at hs
      · injection hs with hs; subst hs; exact srt_del h _
      · cases hs
    · split at hs
      · split at hs
        · injection hs with hs; subst hs; exact srt_put h _ _
        · cases hs
      · cases hs
theorem run_srt : ∀ {r r' : PL} {ts : List Tn}, Srt r → runTn r ts = some r' → Srt r'
  | r, r', [], h, hs => by injection hs with hs; subst hs; exact h
  | r, r', t :: ts, h, hs => by
    unfold runTn at hs
    cases hq : stepTn r t with
    | none => rw [hq] at hs; cases hs
    | some q => rw [hq] at hs; exact run_srt (step_srt h hq) hs
theorem put_del {l : PL} (h : Srt l) {k v : Int} (hg : get l k = some v) : put (del l k) k v = l := ext (srt_put (srt_del h k) k v) h fun x => by
  rw [get_put (srt_del h k), get_del]
  by_cases e : x = k
  · rw [if_pos e, e, hg]
  · rw [if_neg e, if_neg e]
theorem step_len {r r' : PL} {t : Tn} (h : Srt r) (hs : stepTn r t = some r') : r'.length ≤ r.length + 1 := by
  unfold stepTn at hs
  split at hs
  · split at hs
    · injection hs with hs; subst hs; rw [len_put h]; split <;> omega
    · cases hs
  · split at hs
    · split at hs
      · injection hs with hs; subst hs; rw [len_del h]; split <;> omega
      · cases hs
    · split at hs
      · split at hs
        · injection hs with hs; subst hs; rw [len_put h]; split <;> omega
        · cases hs
      · cases hs
/-- A turn the other way round. -/
def backT (t : Tn) : Tn := (if t.1 = 1 then 2 else if t.1 = 2 then 1 else t.1, t.2.1, t.2.2.2, t.2.2.1)
theorem step_back {r r' : PL} {t : Tn} (h : Srt r) (hs : stepTn r t = some r') : stepTn r' (backT t) = some r := by
  obtain ⟨k, key, was, is⟩ := t
  unfold stepTn at hs
  unfold stepTn backT
  simp only at hs ⊢
  by_cases k1 : k = 1
  · rw [if_pos k1] at hs ⊢
    split at hs
    · rename_i hg
      injection hs with hs
      subst hs
      rw [if_neg (by decide), if_pos rfl, if_pos (by rw [get_put h, if_pos rfl]), del_put h _ hg]
    · cases hs
  · rw [if_neg k1] at hs ⊢
    by_cases k2 : k = 2
    · rw [if_pos k2] at hs ⊢
      split at hs
      · rename_i hg
        injection hs with hs
        subst hs
        rw [if_pos rfl, if_pos (by rw [get_del, if_pos rfl]), put_del h hg]
      · cases hs
    · rw [if_neg k2] at hs ⊢
      split at hs
      · rename_i k3
        subst k3
        split at hs
        · rename_i hg
          injection hs with hs
          subst hs
          rw [if_neg (by decide), if_neg (by decide), if_pos rfl, if_pos (by rw [get_put h, if_pos rfl]), put_put h, put_get h hg]
        · cases hs
      · cases hs
theorem run_back : ∀ {r r' : PL} {ts : List Tn}, Srt r → runTn r ts = some r' → runTn r' ((ts.map backT).reverse) = some r
  | r, r', [], h, hs => by injection hs with hs; subst hs; rfl
  | r, r', t :: ts, h, hs => by
    unfold runTn at hs
    cases hq : stepTn r t with
    | none => rw [hq] at hs; cases hs
    | some q =>
      rw [hq] at hs
      have ih := run_back (step_srt h hq) hs
      rw [List.map_cons, List.reverse_cons, runTn_append, ih]
      show runTn q [backT t] = some r
      unfold runTn
      rw [step_back h hq]
      rfl
/-- What stands ahead stays. -/
theorem get_app_low {pre l : PL} {k : Int} (h : ∀ p ∈ pre, p.1 < k) : get (pre ++ l) k = get l k := by
  induction pre with
  | nil => rfl
  | cons p pre ih =>
    rw [List.cons_append, get_cons, if_neg (by have := h p (List.mem_cons_self ..); omega)]
    exact ih fun q hq => h q (List.mem_cons_of_mem _ hq)
theorem srt_app_iff {a b : PL} : Srt (a ++ b) ↔ Srt a ∧ Srt b ∧ ∀ x ∈ a, ∀ y ∈ b, x.1 < y.1 := List.pairwise_append
theorem del_at {pre a : PL} {p : Int × Int} (h : Srt (pre ++ p :: a)) : del (pre ++ p :: a) p.1 = pre ++ a := by
  obtain ⟨h1, h2, h3⟩ := srt_app_iff.1 h
  have hs : Srt (pre ++ a) := srt_app_iff.2 ⟨h1, h2.tail, fun x hx y hy => h3 x hx y (List.mem_cons_of_mem _ hy)⟩
  refine ext (srt_del h _) hs fun x => ?_
  rw [get_del]
  by_cases e : x = p.1
  · rw [if_pos e, e, get_app_low (fun q hq => h3 q hq p (List.mem_cons_self ..)), get_low (fun q hq => h2.head q hq)]
  · rw [if_neg e]
    rcases hgx : get (pre ++ a) x with _ | v
    · rw [get_none] at hgx ⊢
      intro q hq
      rcases List.mem_append.1 hq with hq | hq
      · exact hgx q (List.mem_append_left _ hq)
      · rcases List.mem_cons.1 hq with rfl | hq
        · exact fun e2 => e e2.symm
        · exact hgx q (List.mem_append_right _ hq)
    · have hm := mem_of_get hgx
      have : (x, v) ∈ pre ++ p :: a := by
        rcases List.mem_append.1 hm with hm | hm
        · exact List.mem_append_left _ hm
        · exact List.mem_append_right _ (List.mem_cons_of_mem _ hm)
      exact get_mem h this
theorem put_at {pre a : PL} {q : Int × Int} (h : Srt (pre ++ q :: a)) : put (pre ++ a) q.1 q.2 = pre ++ q :: a := by
  obtain ⟨h1, h2, h3⟩ := srt_app_iff.1 h
  have hs : Srt (pre ++ a) := srt_app_iff.2 ⟨h1, h2.tail, fun x hx y hy => h3 x hx y (List.mem_cons_of_mem _ hy)⟩
  have hg : get (pre ++ q :: a) q.1 = some q.2 := get_mem h (by simp)
  have := put_del h hg
  rwa [del_at h] at this
theorem put_over {pre a : PL} {p : Int × Int} {v : Int} (h : Srt (pre ++ p :: a)) : put (pre ++ p :: a) p.1 v = pre ++ (p.1, v) :: a := by
  obtain ⟨h1, h2, h3⟩ := srt_app_iff.1 h
  have hs : Srt (pre ++ (p.1, v) :: a) := srt_app_iff.2 ⟨h1, List.pairwise_cons.2 ⟨fun x hx => h2.head x hx, h2.tail⟩, fun x hx y hy => by
    rcases List.mem_cons.1 hy with rfl | hy
    · exact h3 x hx p (List.mem_cons_self ..)
    · exact h3 x hx y (List.mem_cons_of_mem _ hy)⟩
  have hs2 : Srt (pre ++ a) := srt_app_iff.2 ⟨h1, h2.tail, fun x hx y hy => h3 x hx y (List.mem_cons_of_mem _ hy)⟩
  rw [← put_at h, put_put hs2]
  exact put_at (q := (p.1, v)) hs
/-- The turns from one to another one lead there. -/
theorem run_diff : ∀ (pre a b : PL), Srt (pre ++ a) → Srt (pre ++ b) → runTn (pre ++ a) (diffL a b) = some (pre ++ b)
  | pre, [], [], h1, h2 => by rw [diff_nil]; rfl
  | pre, p :: a, [], h1, h2 => by
    obtain ⟨s1, s2, s3⟩ := srt_app_iff.1 h1
    have hg : get (pre ++ p :: a) p.1 = some p.2 := get_mem h1 (by simp)
    rw [diff_left]
    unfold runTn gone stepTn
    simp only
    rw [if_neg (by decide), if_pos trivial, if_pos hg, del_at h1]
    exact run_diff pre a [] (srt_app_iff.2 ⟨s1, s2.tail, fun x hx y hy => s3 x hx y (List.mem_cons_of_mem _ hy)⟩) h2
  | pre, [], q :: b, h1, h2 => by
    obtain ⟨s1, s2, s3⟩ := srt_app_iff.1 h2
    have hq : Srt (pre ++ [q]) := srt_app_iff.2 ⟨s1, List.pairwise_singleton _ _, fun x hx y hy => by simp at hy; subst hy; exact s3 x hx _ (List.mem_cons_self ..)⟩
    have hg : get (pre ++ []) q.1 = none := by rw [get_app_low (fun x hx => s3 x hx q (List.mem_cons_self ..))]; rfl
    rw [diff_right]
    unfold runTn added stepTn
    simp only
    rw [if_pos trivial, if_pos hg, put_at hq]
    have := run_diff (pre ++ [q]) [] b (by rw [List.append_nil]; exact hq) (by rw [List.append_assoc]; exact h2)
    rw [List.append_nil, List.append_assoc] at this
    exact this
  | pre, p :: a, q :: b, h1, h2 => by
    obtain ⟨s1, s2, s3⟩ := srt_app_iff.1 h1
    obtain ⟨r1, r2, r3⟩ := srt_app_iff.1 h2
    rcases Int.lt_trichotomy p.1 q.1 with h | h | h
    · have hg : get (pre ++ p :: a) p.1 = some p.2 := get_mem h1 (by simp)
      rw [diff_lt h]
      unfold runTn gone stepTn
      simp only
      rw [if_neg (by decide), if_pos trivial, if_pos hg, del_at h1]
      exact run_diff pre a (q :: b) (srt_app_iff.2 ⟨s1, s2.tail, fun x hx y hy => s3 x hx y (List.mem_cons_of_mem _ hy)⟩) h2
    · have hq : Srt (pre ++ q :: a) := srt_app_iff.2 ⟨s1, List.pairwise_cons.2 ⟨fun x hx => by have := s2.head x hx; omega, s2.tail⟩, fun x hx y hy => by
        rcases List.mem_cons.1 hy with rfl | hy
        · exact r3 x hx _ (List.mem_cons_self ..)
        · exact s3 x hx y (List.mem_cons_of_mem _ hy)⟩
      have ih := run_diff (pre ++ [q]) a b (by rw [List.append_assoc]; exact hq) (by rw [List.append_assoc]; exact h2)
      rw [List.append_assoc, List.append_assoc] at ih
      rw [diff_eq h]
      unfold changed
      by_cases hv : p.2 = q.2
      · rw [if_pos hv, List.nil_append, show p = q from Prod.ext h hv]
        exact ih
      · have hg : get (pre ++ p :: a) p.1 = some p.2 := get_mem h1 (by simp)
        rw [if_neg hv]
        show runTn (pre ++ p :: a) ((3, p.1, p.2, q.2) :: diffL a b) = _
        unfold runTn stepTn
        simp only
        rw [if_neg (by decide), if_neg (by decide), if_pos trivial, if_pos hg, put_over h1, show (p.1, q.2) = q from Prod.ext h rfl]
        exact ih
    · have hs : Srt (pre ++ q :: p :: a) := srt_app_iff.2 ⟨s1, List.pairwise_cons.2 ⟨fun x hx => by
          rcases List.mem_cons.1 hx with rfl | hx
          · exact h
          · have := s2.head x hx; omega, s2⟩, fun x hx y hy => by
        rcases List.mem_cons.1 hy with rfl | hy
        · exact r3 x hx _ (List.mem_cons_self ..)
        · exact s3 x hx y hy⟩
      have hg : get (pre ++ p :: a) q.1 = none := by
        rw [get_app_low (fun x hx => r3 x hx q (List.mem_cons_self ..)), get_low (fun x hx => by
          rcases List.mem_cons.1 hx with rfl | hx
          · exact h
          · have := s2.head x hx; omega)]
      rw [diff_gt h]
      unfold runTn added stepTn
      simp only
      rw [if_pos trivial, if_pos hg, put_at hs]
      have ih := run_diff (pre ++ [q]) (p :: a) b (by rw [List.append_assoc]; exact hs) (by rw [List.append_assoc]; exact h2)
      rw [List.append_assoc, List.append_assoc] at ih
      exact ih
termination_by pre a b => a.length + b.length
theorem diff_same : ∀ a : PL, diffL a a = []
  | [] => diff_nil
  | p :: a => by rw [diff_eq rfl, diff_same a]; unfold changed; rw [if_pos rfl]; rfl
theorem diff_none {a b : PL} (ha : Srt a) (hb : Srt b) : (diffL a b).length = 0 ↔ a = b := by
  constructor
  · intro h
    have := run_diff [] a b ha hb
    rw [List.length_eq_zero_iff.1 h] at this
    injection this
  · rintro rfl
    rw [diff_same]
    rfl
end Go.Proofs.Ythdjbflbhgbckaa.Snap

/-
  Counts thread by thread, and which thread was busiest. No program in sight.
-/
import Derived.Test.YtiahnlaplkeiaaaDoorStP
set_option linter.unusedVariables false
namespace Go.Proofs.YtiahnlaplkeiaaaDoor.St

/-- The count of a thread; none: it has none. -/
def byF (l : List En) (k : Int) : Option Tal := if k ∈ thr l then some (ofL (ofT l k)) else none
theorem byF_nil (k : Int) : byF [] k = none := by unfold byF; rw [if_neg (by simp [thr])]
theorem byF_old (l : List En) (k : Int) : (byF l k).getD zero = ofL (ofT l k) := by
  unfold byF
  split
  · rfl
  · rename_i h; rw [ofT_none h]; rfl
theorem byF_snoc (l : List En) (x : En) (k : Int) : byF (l ++ [x]) k = if k = x.th then some (join ((byF l x.th).getD zero) (one x)) else byF l k := by
  rw [byF_old]
  by_cases h : k = x.th
  · subst h
    unfold byF
    rw [if_pos rfl, if_pos (by rw [thr_snoc, mem_insU]; exact .inl rfl), ofT_snoc, if_pos rfl, ofL_snoc]
  · rw [if_neg h]
    have h' : ¬ x.th = k := fun e => h e.symm
    unfold byF
    rw [ofT_snoc, if_neg h']
    by_cases h2 : k ∈ thr l
    · have h3 : k ∈ thr (l ++ [x]) := by rw [thr_snoc, mem_insU]; exact .inr h2
      rw [if_pos h2, if_pos h3]
    · have h3 : ¬ k ∈ thr (l ++ [x]) := by rw [thr_snoc, mem_insU]; exact fun e => e.elim h h2
      rw [if_neg h2, if_neg h3]
theorem byF_is (l : List En) (k : Int) : (byF l k).isSome = decide (k ∈ thr l) := by
  unfold byF
  split
  · simp [*]
  · simp [*]
theorem insU_len_in {l : List Int} {k : Int} (h : Ris l) : (insU l k).length = if k ∈ l then l.length else l.length + 1 := by
  induction l with
  | nil => simp [insU]
  | cons a l ih =>
    unfold Ris at h ih
    rw [List.pairwise_cons] at h
    unfold insU
    split
    · rename_i hk
      rw [if_neg]
      · simp
      · intro hm
        rcases List.mem_cons.1 hm with rfl | hm
        · omega
        · have := h.1 k hm; omega
    · split
      · rename_i e; subst e; simp
      · rename_i h1 h2
        rw [List.length_cons, ih h.2]
        by_cases hm : k ∈ l
        · rw [if_pos hm, if_pos (List.mem_cons_of_mem _ hm), List.length_cons]
        · rw [if_neg hm, if_neg (fun e => (List.mem_cons.1 e).elim (fun e => h2 e.symm) hm), List.length_cons]
theorem thr_len_snoc (l : List En) (x : En) : (thr (l ++ [x])).length = if (byF l x.th).isSome then (thr l).length else (thr l).length + 1 := by
  rw [thr_snoc, insU_len_in (thr_ris l), byF_is]
  simp
/-- The time of a thread. -/
def timeT (l : List En) (k : Int) : Int := (ofL (ofT l k)).tm
theorem timeT_perm {l m : List En} (h : l.Perm m) (k : Int) : timeT l k = timeT m k := by unfold timeT; rw [ofL_perm (ofT_perm h k)]
/-- Where the greatest stands, the first of them. -/
def bestA (f : Int → Int) (ts : List Int) : Int := bestF f ts 0 (-1) 0
theorem bestF_cons (f : Int → Int) (t : Int) (ts : List Int) (i : Nat) (b m : Int) : bestF f (t :: ts) i b m = if b < 0 ∨ m < f t then bestF f ts (i + 1) i (f t) else bestF f ts (i + 1) b m := rfl
theorem bestF_congr {f g : Int → Int} : ∀ (ts : List Int) (i : Nat) (b m : Int), (∀ t ∈ ts, f t = g t) → bestF f ts i b m = bestF g ts i b m
  | [], i, b, m, _ => rfl
  | t :: ts, i, b, m, h => by
    rw [bestF_cons, bestF_cons, h t (List.mem_cons_self ..), bestF_congr ts _ _ _ (fun x hx => h x (List.mem_cons_of_mem _ hx)), bestF_congr ts _ _ _ (fun x hx => h x (List.mem_cons_of_mem _ hx))]
theorem bestF_rng (f : Int → Int) : ∀ (ts : List Int) (i : Nat) (b m : Int), -1 ≤ b → b < i → -1 ≤ bestF f ts i b m ∧ bestF f ts i b m < i + ts.length
  | [], i, b, m, h1, h2 => by simp [bestF]; omega
  | t :: ts, i, b, m, h1, h2 => by
    rw [bestF_cons, List.length_cons]
    split
    · have := bestF_rng f ts (i + 1) i (f t) (by omega) (by omega)
      omega
    · have := bestF_rng f ts (i + 1) b m h1 (by omega)
      omega
/-- The state of the search: the place so far, and its time. -/
structure Best (f : Int → Int) (ts : List Int) (k : Nat) (b : Int) : Prop where
  lo : -1 ≤ b
  hi : b < k
  eq : bestF f (ts.drop k) k b (if b < 0 then 0 else f (ts.getD b.toNat 0)) = bestA f ts
theorem best_start (f : Int → Int) (ts : List Int) : Best f ts 0 (-1) := ⟨by omega, by omega, rfl⟩
theorem best_take {f : Int → Int} {ts : List Int} {k : Nat} {b : Int} (h : Best f ts k b) {t : Int} (ht : ts[k]? = some t) (hc : b < 0 ∨ f (ts.getD b.toNat 0) < f t) : Best f ts (k + 1) k := by
  obtain ⟨hk, e⟩ := List.getElem?_eq_some_iff.1 ht
  have h1 := h.eq
  rw [List.drop_eq_getElem_cons hk, e, bestF_cons] at h1
  have h2 : b < 0 ∨ (if b < 0 then 0 else f (ts.getD b.toNat 0)) < f t := by
    rcases hc with hc | hc
    · exact .inl hc
    · by_cases hb : b < 0
      · exact .inl hb
      · rw [if_neg hb]; exact .inr hc
  rw [if_pos h2] at h1
  refine ⟨by omega, by omega, ?_⟩
  rw [if_neg (by omega), show ((k : Int)).toNat = k by omega, List.getD_eq_getElem?_getD, ht]
  exact h1
theorem best_skip {f : Int → Int} {ts : List Int} {k : Nat} {b : Int} (h : Best f ts k b) {t : Int} (ht : ts[k]? = some t) (hb : ¬ b < 0) (hc : ¬ f (ts.getD b.toNat 0) < f t) : Best f ts (k + 1) b := by
  obtain ⟨hk, e⟩ := List.getElem?_eq_some_iff.1 ht
  have h1 := h.eq
  rw [List.drop_eq_getElem_cons hk, e, bestF_cons, if_neg (by rw [if_neg hb]; exact fun h => h.elim hb hc)] at h1
  exact ⟨h.lo, by have := h.hi; omega, h1⟩
theorem best_end {f : Int → Int} {ts : List Int} {b : Int} (h : Best f ts ts.length b) : bestA f ts = b := by
  have := h.eq
  rw [List.drop_length] at this
  exact this.symm
/-- Who was busiest. -/
def busyL (l : List En) : Int := if bestA (timeT l) (thr l) < 0 then -1 else (thr l).getD (bestA (timeT l) (thr l)).toNat 0
theorem busyL_perm {l m : List En} (h : l.Perm m) : busyL l = busyL m := by
  have e : timeT l = timeT m := funext (timeT_perm h)
  unfold busyL
  rw [e, thr_perm h]

/-- Which place a part of so many is. -/
def clampP (p : Int) : Int := max 0 (min p 1000)
def qIx (n : Nat) (p : Int) : Int := max 0 (((n : Int) * clampP p + 999) / 1000 - 1)
def quantL (l : List En) (p : Int) : Int := if l.length = 0 then 0 else (tooks l).getD (qIx l.length p).toNat 0
theorem clampP_rng (p : Int) : 0 ≤ clampP p ∧ clampP p ≤ 1000 := by unfold clampP; omega
theorem qIx_rng {n : Nat} (h : 0 < n) (p : Int) : 0 ≤ qIx n p ∧ qIx n p < n := by
  have := clampP_rng p
  unfold qIx
  have h2 : (n : Int) * clampP p ≤ n * 1000 := Int.mul_le_mul_of_nonneg_left (by omega) (by omega)
  have h3 : 0 ≤ (n : Int) * clampP p := Int.mul_nonneg (by omega) (by omega)
  omega
theorem quantL_perm {l m : List En} (h : l.Perm m) (p : Int) : quantL l p = quantL m p := by
  unfold quantL
  rw [tooks_perm h, h.length_eq]
end Go.Proofs.YtiahnlaplkeiaaaDoor.St

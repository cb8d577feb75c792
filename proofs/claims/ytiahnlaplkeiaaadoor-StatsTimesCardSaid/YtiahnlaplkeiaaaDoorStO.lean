/-
  How many ran at one time at the most: the sweep over beginnings and ends, and by definition. No program in sight.
-/
import Derived.Test.YtiahnlaplkeiaaaDoorStP
set_option linter.unusedVariables false
namespace Go.Proofs.YtiahnlaplkeiaaaDoor.St

def cntR (l : List En) (a : Int) : Nat := (l.filter (fun x => decide (x.be ≤ a) && decide (a ≤ x.en))).length
def overR (l : List En) : Int := l.foldl (fun m x => if x.be ≤ x.en ∧ m < (cntR l x.be : Int) then (cntR l x.be : Int) else m) 0
def sm2 (l : List Pt) : Int := l.foldr (fun p s => p.2 + s) 0
theorem sm2_nil : sm2 [] = 0 := rfl
theorem sm2_cons (p : Pt) (l : List Pt) : sm2 (p :: l) = p.2 + sm2 l := rfl
theorem sm2_append (a b : List Pt) : sm2 (a ++ b) = sm2 a + sm2 b := by
  induction a with
  | nil => simp [sm2]
  | cons p a ih => rw [List.cons_append, sm2_cons, sm2_cons, ih, Int.add_assoc]
theorem sm2_perm {a b : List Pt} (h : a.Perm b) : sm2 a = sm2 b := by
  induction h with
  | nil => rfl
  | cons x _ ih => rw [sm2_cons, sm2_cons, ih]
  | swap x y l => simp only [sm2_cons]; omega
  | trans _ _ h1 h2 => exact h1.trans h2
theorem sweep_m : ∀ (l : List Pt) (n m : Int), m ≤ sweep l n m
  | [], n, m => Int.le_refl _
  | p :: l, n, m => by
    unfold sweep
    have := sweep_m l (n - p.2) (max m (n - p.2))
    omega
theorem sweep_ge : ∀ (a : List Pt) (p : Pt) (b : List Pt) (n m : Int), n - sm2 (a ++ [p]) ≤ sweep (a ++ p :: b) n m
  | [], p, b, n, m => by
    have := sweep_m b (n - p.2) (max m (n - p.2))
    simp only [List.nil_append, sm2_cons, sm2_nil]
    unfold sweep
    omega
  | x :: a, p, b, n, m => by
    rw [List.cons_append, List.cons_append, sm2_cons]
    unfold sweep
    have := sweep_ge a p b (n - x.2) (max m (n - x.2))
    omega
theorem sweep_le {M : Int} : ∀ (l : List Pt) (n m : Int), m ≤ M → (∀ a p b, l = a ++ p :: b → n - sm2 (a ++ [p]) ≤ M) → sweep l n m ≤ M
  | [], n, m, h, _ => h
  | x :: l, n, m, h, hs => by
    unfold sweep
    have h0 := hs [] x l rfl
    simp only [List.nil_append, sm2_cons, sm2_nil] at h0
    refine sweep_le l _ _ (by omega) fun a p b e => ?_
    have := hs (x :: a) p b (by rw [e]; rfl)
    rw [List.cons_append, sm2_cons] at this
    omega
theorem over_ge {l : List En} : ∀ (k : List En) (m : Int), m ≤ k.foldl (fun m x => if x.be ≤ x.en ∧ m < (cntR l x.be : Int) then (cntR l x.be : Int) else m) m ∧ ∀ x ∈ k, x.be ≤ x.en → (cntR l x.be : Int) ≤ k.foldl (fun m x => if x.be ≤ x.en ∧ m < (cntR l x.be : Int) then (cntR l x.be : Int) else m) m
  | [], m => ⟨Int.le_refl _, fun x hx => by cases hx⟩
  | y :: k, m => by
    rw [List.foldl_cons]
    obtain ⟨h1, h2⟩ := over_ge k (if y.be ≤ y.en ∧ m < (cntR l y.be : Int) then (cntR l y.be : Int) else m)
    refine ⟨?_, fun x hx hb => ?_⟩
    · refine Int.le_trans ?_ h1
      split <;> omega
    · rcases List.mem_cons.1 hx with rfl | hx
      · refine Int.le_trans ?_ h1
        split <;> omega
      · exact h2 x hx hb
theorem over_le {l : List En} {M : Int} (hM : ∀ x ∈ l, x.be ≤ x.en → (cntR l x.be : Int) ≤ M) : ∀ (k : List En) (m : Int), m ≤ M → (∀ x ∈ k, x ∈ l) → k.foldl (fun m x => if x.be ≤ x.en ∧ m < (cntR l x.be : Int) then (cntR l x.be : Int) else m) m ≤ M
  | [], m, h, _ => h
  | y :: k, m, h, hk => by
    rw [List.foldl_cons]
    refine over_le hM k _ ?_ (fun x hx => hk x (List.mem_cons_of_mem _ hx))
    split
    · rename_i hc
      exact hM y (hk y (List.mem_cons_self ..)) hc.1
    · exact h
/-- Is a point not behind the beginning at a time? -/
def upto (a : Int) (p : Pt) : Bool := !ltP (a, -1) p
theorem sm2_pts (l : List En) (a : Int) : sm2 ((pts l).filter (upto a)) = -(cntR l a : Int) := by
  induction l with
  | nil => rfl
  | cons x l ih =>
    have e : pts (x :: l) = ptOf x ++ pts l := rfl
    have e2 : (cntR (x :: l) a : Int) = (if x.be ≤ a ∧ a ≤ x.en then 1 else 0) + cntR l a := by
      unfold cntR
      rw [List.filter_cons]
      by_cases h : x.be ≤ a ∧ a ≤ x.en
      · rw [if_pos (by simpa using h), if_pos h, List.length_cons]; omega
      · rw [if_neg (by simpa using h), if_neg h]; omega
    have e1 : sm2 ((ptOf x).filter (upto a)) = -(if x.be ≤ a ∧ a ≤ x.en then 1 else 0) := by
      unfold ptOf upto ltP
      by_cases h : x.be ≤ x.en
      · rw [if_pos h]
        simp only [List.filter_cons, List.filter_nil]
        by_cases h1 : x.be ≤ a
        · have d1 : (!decide (a < x.be ∨ a = x.be ∧ (-1 : Int) < -1)) = true := by simp; omega
          by_cases h2 : a ≤ x.en
          · have d2 : (!decide (a < x.en ∨ a = x.en ∧ (-1 : Int) < 1)) = false := by simp; omega
            rw [d1, d2]; simp [sm2, h1, h2]
          · have d2 : (!decide (a < x.en ∨ a = x.en ∧ (-1 : Int) < 1)) = true := by simp; omega
            rw [d1, d2]; simp [sm2, h2]
        · have d1 : (!decide (a < x.be ∨ a = x.be ∧ (-1 : Int) < -1)) = false := by simp; omega
          have d2 : (!decide (a < x.en ∨ a = x.en ∧ (-1 : Int) < 1)) = false := by simp; omega
          rw [d1, d2]; simp [sm2, h1]
      · rw [if_neg h, if_neg (by omega)]; rfl
    rw [e, List.filter_append, sm2_append, ih, e1, e2]
    omega
theorem take_filter {a : Int} : ∀ {l : List Pt}, l.Pairwise (fun a b => ltP b a = false) → l.takeWhile (upto a) = l.filter (upto a)
  | [], _ => rfl
  | p :: l, h => by
    rw [List.pairwise_cons] at h
    rw [List.takeWhile_cons, List.filter_cons]
    by_cases hp : upto a p = true
    · rw [if_pos hp, if_pos hp, take_filter h.2]
    · rw [if_neg hp, if_neg hp, eq_comm, List.filter_eq_nil_iff]
      intro x hx hu
      have h1 := h.1 x hx
      unfold upto ltP at *
      simp at *
      omega
theorem mem_pts {l : List En} {p : Pt} (h : p ∈ pts l) : (p.2 = 1) ∨ (p.2 = -1 ∧ ∃ x ∈ l, x.be ≤ x.en ∧ p.1 = x.be) := by
  unfold pts at h
  rw [List.mem_flatMap] at h
  obtain ⟨x, hx, hp⟩ := h
  unfold ptOf at hp
  split at hp
  · rename_i hb
    simp at hp
    rcases hp with rfl | rfl
    · exact .inr ⟨rfl, x, hx, hb, rfl⟩
    · exact .inl rfl
  · cases hp
theorem pts_mem {l : List En} {x : En} (hx : x ∈ l) (h : x.be ≤ x.en) : (x.be, -1) ∈ pts l := by
  unfold pts
  rw [List.mem_flatMap]
  exact ⟨x, hx, by unfold ptOf; rw [if_pos h]; simp⟩
theorem overL_eq (l : List En) : overL l = overR l := by
  have hS := sortP_up (pts l)
  have hP := sortP_perm (pts l)
  have hcnt : ∀ a, sm2 ((sortP (pts l)).filter (upto a)) = -(cntR l a : Int) := fun a => (sm2_perm (hP.filter _)).trans (sm2_pts l a)
  have hmem : ∀ p ∈ sortP (pts l), p ∈ pts l := fun p hp => hP.mem_iff.1 hp
  refine Int.le_antisymm ?_ ?_
  · unfold overL
    have hR : 0 ≤ overR l := (over_ge l 0).1
    refine sweep_le _ _ _ hR ?_
    have main : ∀ (k : Nat) (a : List Pt) (p : Pt) (b : List Pt), a.length ≤ k → sortP (pts l) = a ++ p :: b → 0 - sm2 (a ++ [p]) ≤ overR l := by
      intro k
      induction k with
      | zero =>
        intro a p b hk e
        obtain rfl := List.eq_nil_of_length_eq_zero (Nat.le_zero.1 hk)
        rw [e] at hS hcnt hmem
        rcases mem_pts (hmem p (by simp)) with h | ⟨h, x, hx, hb, h1⟩
        · simp [sm2, h]; omega
        · have h2 := (over_ge (l := l) l 0).2 x hx hb
          have h3 := hcnt x.be
          have h4 : 0 - sm2 ([] ++ [p]) ≤ (cntR l x.be : Int) := by
            rw [List.nil_append, List.filter_cons] at h3
            have hq : upto x.be p = true := by unfold upto ltP; simp; omega
            rw [if_pos hq, sm2_cons] at h3
            have h5 : sm2 (b.filter (upto x.be)) ≤ 0 := by
              have : ∀ y ∈ b.filter (upto x.be), y.2 ≤ 0 := by
                intro y hy
                rw [List.mem_filter] at hy
                rw [List.nil_append, List.pairwise_cons] at hS
                have g1 := hS.1 y hy.1
                have g2 := hy.2
                unfold upto ltP at *
                simp at *
                omega
              clear h3
              revert this
              generalize b.filter (upto x.be) = c
              induction c with
              | nil => intro _; exact Int.le_refl _
              | cons y c ih =>
                intro hc
                have := ih (fun z hz => hc z (List.mem_cons_of_mem _ hz))
                have := hc y (List.mem_cons_self ..)
                rw [sm2_cons]; omega
            simp only [List.nil_append, sm2_cons, sm2_nil]
            omega
          exact Int.le_trans h4 h2
      | succ k ih =>
        intro a p b hk e
        by_cases ha : a = []
        · exact ih a p b (by rw [ha]; simp) e
        · have e' := e
          rw [e] at hS hcnt hmem
          rcases mem_pts (hmem p (by simp)) with h | ⟨h, x, hx, hb, h1⟩
          · have e2 := List.dropLast_concat_getLast ha
            have h2 := ih a.dropLast (a.getLast ha) (p :: b) (by rw [List.length_dropLast]; omega) (by
              rw [e']
              conv => lhs; rw [← e2]
              simp)
            rw [e2] at h2
            rw [sm2_append, sm2_cons, sm2_nil]
            omega
          · have h2 : (cntR l x.be : Int) ≤ overR l := (over_ge (l := l) l 0).2 x hx hb
            have h3 := hcnt x.be
            rw [List.pairwise_append] at hS
            obtain ⟨_, hSb, hab⟩ := hS
            rw [List.pairwise_cons] at hSb
            have hq : upto x.be p = true := by unfold upto ltP; simp; omega
            have hqa : a.filter (upto x.be) = a := by
              rw [List.filter_eq_self]
              intro y hy
              have g1 := hab y hy p (List.mem_cons_self ..)
              unfold upto ltP at *
              simp at *
              omega
            rw [List.filter_append, List.filter_cons, if_pos hq, hqa, sm2_append, sm2_cons] at h3
            have h5 : sm2 (b.filter (upto x.be)) ≤ 0 := by
              have : ∀ y ∈ b.filter (upto x.be), y.2 ≤ 0 := by
                intro y hy
                rw [List.mem_filter] at hy
                have g1 := hSb.1 y hy.1
                have g2 := hy.2
                unfold upto ltP at *
                simp at *
                omega
              clear h3
              revert this
              generalize b.filter (upto x.be) = c
              induction c with
              | nil => intro _; exact Int.le_refl _
              | cons y c ih =>
                intro hc
                have := ih (fun z hz => hc z (List.mem_cons_of_mem _ hz))
                have := hc y (List.mem_cons_self ..)
                rw [sm2_cons]; omega
            rw [sm2_append, sm2_cons, sm2_nil]
            omega
    exact fun a p b e => main a.length a p b (Nat.le_refl _) e
  · unfold overR
    refine over_le (fun x hx hb => ?_) l 0 (sweep_m _ _ _) (fun x hx => hx)
    have h3 := hcnt x.be
    rw [← take_filter hS] at h3
    have hin : (x.be, -1) ∈ (sortP (pts l)).takeWhile (upto x.be) := by
      rw [take_filter hS, List.mem_filter]
      exact ⟨hP.mem_iff.2 (pts_mem hx hb), by unfold upto ltP; simp⟩
    have hne : (sortP (pts l)).takeWhile (upto x.be) ≠ [] := fun e => by rw [e] at hin; cases hin
    have e2 := List.dropLast_concat_getLast hne
    have e3 : sortP (pts l) = ((sortP (pts l)).takeWhile (upto x.be)).dropLast ++ (((sortP (pts l)).takeWhile (upto x.be)).getLast hne) :: (sortP (pts l)).dropWhile (upto x.be) := by
      conv => lhs; rw [← List.takeWhile_append_dropWhile (p := upto x.be) (l := sortP (pts l)), ← e2]
      simp
    have h4 := sweep_ge ((sortP (pts l)).takeWhile (upto x.be)).dropLast (((sortP (pts l)).takeWhile (upto x.be)).getLast hne) ((sortP (pts l)).dropWhile (upto x.be)) 0 0
    rw [← e3, e2, h3] at h4
    unfold overL
    omega
end Go.Proofs.YtiahnlaplkeiaaaDoor.St

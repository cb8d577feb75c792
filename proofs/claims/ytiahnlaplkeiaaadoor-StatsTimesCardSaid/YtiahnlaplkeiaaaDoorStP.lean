/-
  Transactions that ended, counted, plainly. No program in sight.
-/
import Derived.Test.YtiahnlaplkeiaaaDoorBase
set_option linter.unusedVariables false
namespace Go.Proofs.YtiahnlaplkeiaaaDoor.St
open Go Go.RowKit

/-- A transaction that came to its end; where what it was told lies. -/
structure En where
  th : Int
  ix : Int
  st : Int
  wr : Bool
  be : Int
  en : Int
  kd : Int
  er : Int
  ta : Option Addr
  tn : Nat
  tc : Nat
/-- A count. -/
structure Tal where
  dn : Int
  wo : Int
  ab : Int
  bl : Int
  cp : Int
  fl : Int
  tm : Int
  lg : Int
def zero : Tal := ⟨0, 0, 0, 0, 0, 0, 0, 0⟩
def isI (b : Bool) : Int := if b then 1 else 0
def one (x : En) : Tal := ⟨isI (x.kd == 1), isI (x.kd == 1 && x.wr), isI (x.kd == 2), isI (x.kd == 3), isI (x.kd == 4), isI (!(x.kd == 1 || x.kd == 2 || x.kd == 3 || x.kd == 4)), x.en - x.be, x.en - x.be⟩
def join (a b : Tal) : Tal := ⟨a.dn + b.dn, a.wo + b.wo, a.ab + b.ab, a.bl + b.bl, a.cp + b.cp, a.fl + b.fl, a.tm + b.tm, max a.lg b.lg⟩
def ofL (l : List En) : Tal := l.foldl (fun t x => join t (one x)) zero
theorem join_assoc (a b c : Tal) : join (join a b) c = join a (join b c) := by
  unfold join
  simp only [Tal.mk.injEq]
  refine ⟨?_, ?_, ?_, ?_, ?_, ?_, ?_, ?_⟩ <;> omega
theorem join_comm (a b : Tal) : join a b = join b a := by
  unfold join
  simp only [Tal.mk.injEq]
  refine ⟨?_, ?_, ?_, ?_, ?_, ?_, ?_, ?_⟩ <;> omega
theorem join_zero {a : Tal} (h : 0 ≤ a.lg) : join a zero = a := by
  cases a
  unfold join zero
  simp only [Tal.mk.injEq] at *
  refine ⟨?_, ?_, ?_, ?_, ?_, ?_, ?_, ?_⟩ <;> omega
theorem zero_join {a : Tal} (h : 0 ≤ a.lg) : join zero a = a := by rw [join_comm, join_zero h]
theorem fold_join (t u : Tal) : ∀ l : List En, l.foldl (fun t x => join t (one x)) (join t u) = join t (l.foldl (fun t x => join t (one x)) u)
  | [] => rfl
  | x :: l => by
    rw [List.foldl_cons, List.foldl_cons, join_assoc]
    exact fold_join t _ l
theorem fold_lg (t : Tal) (h : 0 ≤ t.lg) : ∀ l : List En, 0 ≤ (l.foldl (fun t x => join t (one x)) t).lg
  | [] => h
  | x :: l => by
    rw [List.foldl_cons]
    exact fold_lg _ (by show 0 ≤ max t.lg _; omega) l
theorem ofL_lg (l : List En) : 0 ≤ (ofL l).lg := fold_lg zero (Int.le_refl _) l
theorem ofL_nil : ofL [] = zero := rfl
theorem ofL_snoc (l : List En) (x : En) : ofL (l ++ [x]) = join (ofL l) (one x) := by unfold ofL; rw [List.foldl_append]; rfl
theorem ofL_append (l m : List En) : ofL (l ++ m) = join (ofL l) (ofL m) := by
  have h := fold_join (ofL l) zero m
  rw [join_zero (ofL_lg l)] at h
  unfold ofL at h ⊢
  rw [List.foldl_append]
  exact h
theorem ofL_cons (x : En) (l : List En) : ofL (x :: l) = join (ofL [x]) (ofL l) := ofL_append [x] l
theorem ofL_perm {l m : List En} (h : l.Perm m) : ofL l = ofL m := by
  induction h with
  | nil => rfl
  | cons x _ ih => rw [ofL_cons, ih, ← ofL_cons]
  | swap x y l => rw [ofL_cons, ofL_cons x l, ← join_assoc, join_comm (ofL [y]), join_assoc, ← ofL_cons, ← ofL_cons]
  | trans _ _ h1 h2 => exact h1.trans h2
/-- A count's numbers are small. -/
structure Sm (t : Tal) (n : Nat) : Prop where
  dn : 0 ≤ t.dn ∧ t.dn ≤ n
  wo : 0 ≤ t.wo ∧ t.wo ≤ n
  ab : 0 ≤ t.ab ∧ t.ab ≤ n
  bl : 0 ≤ t.bl ∧ t.bl ≤ n
  cp : 0 ≤ t.cp ∧ t.cp ≤ n
  fl : 0 ≤ t.fl ∧ t.fl ≤ n
  tm : -(2000000 * n) ≤ t.tm ∧ t.tm ≤ 2000000 * n
  lg : 0 ≤ t.lg ∧ t.lg ≤ 2000000
  all : t.dn + t.ab + t.bl + t.cp + t.fl = n
def EB (x : En) : Prop := -1000000 ≤ x.be ∧ x.be ≤ 1000000 ∧ -1000000 ≤ x.en ∧ x.en ≤ 1000000
theorem sm_zero : Sm zero 0 := by constructor <;> simp [zero]
theorem isI_b (b : Bool) : 0 ≤ isI b ∧ isI b ≤ 1 := by cases b <;> simp [isI]
theorem sm_one {t : Tal} {n : Nat} {x : En} (h : Sm t n) (hx : EB x) : Sm (join t (one x)) (n + 1) := by
  obtain ⟨h1, h2, h3, h4, h5, h6, h7, h8, h9⟩ := h
  obtain ⟨e1, e2, e3, e4⟩ := hx
  have b1 := isI_b (x.kd == 1)
  have b2 := isI_b (x.kd == 1 && x.wr)
  have b3 := isI_b (x.kd == 2)
  have b4 := isI_b (x.kd == 3)
  have b5 := isI_b (x.kd == 4)
  have b6 := isI_b (!(x.kd == 1 || x.kd == 2 || x.kd == 3 || x.kd == 4))
  have hs : isI (x.kd == 1) + isI (x.kd == 2) + isI (x.kd == 3) + isI (x.kd == 4) + isI (!(x.kd == 1 || x.kd == 2 || x.kd == 3 || x.kd == 4)) = 1 := by
    by_cases k1 : x.kd = 1
    · simp [isI, k1]
    by_cases k2 : x.kd = 2
    · simp [isI, k2]
    by_cases k3 : x.kd = 3
    · simp [isI, k3]
    by_cases k4 : x.kd = 4
    · simp [isI, k4]
    simp [isI, k1, k2, k3, k4]
  unfold join one
  constructor <;> simp only <;> push_cast <;> omega
theorem sm_fold {l : List En} : ∀ {t : Tal} {n : Nat}, Sm t n → (∀ x ∈ l, EB x) → Sm (l.foldl (fun t x => join t (one x)) t) (n + l.length) := by
  induction l with
  | nil => intro t n h _; exact h
  | cons x l ih =>
    intro t n h hx
    rw [List.foldl_cons, List.length_cons, show n + (l.length + 1) = n + 1 + l.length by omega]
    exact ih (sm_one h (hx x (List.mem_cons_self ..))) (fun y hy => hx y (List.mem_cons_of_mem _ hy))
theorem sm_ofL {l : List En} (h : ∀ x ∈ l, EB x) : Sm (ofL l) l.length := by
  have := sm_fold (l := l) sm_zero h
  rwa [Nat.zero_add] at this
theorem Sm.join {a b : Tal} {n m : Nat} (h : Sm a n) (g : Sm b m) : Sm (join a b) (n + m) := by
  obtain ⟨h1, h2, h3, h4, h5, h6, h7, h8, h9⟩ := h
  obtain ⟨g1, g2, g3, g4, g5, g6, g7, g8, g9⟩ := g
  unfold St.join
  constructor <;> simp only <;> push_cast <;> omega

/-- Those of a thread. -/
def ofT (l : List En) (n : Int) : List En := l.filter (fun x => x.th == n)
/-- A number put into a rising list, once. -/
def insU : List Int → Int → List Int
  | [], k => [k]
  | x :: l, k => if k < x then k :: x :: l else if x = k then x :: l else x :: insU l k
def thr (l : List En) : List Int := l.foldl (fun s x => insU s x.th) []
def Ris (l : List Int) : Prop := l.Pairwise (· < ·)
theorem mem_insU {l : List Int} {k x : Int} : x ∈ insU l k ↔ x = k ∨ x ∈ l := by
  induction l with
  | nil => simp [insU]
  | cons a l ih =>
    unfold insU
    split
    · simp
    · split
      · rename_i h; subst h; simp
      · simp only [List.mem_cons, ih]
        constructor
        · rintro (h | h | h)
          · exact .inr (.inl h)
          · exact .inl h
          · exact .inr (.inr h)
        · rintro (h | h | h)
          · exact .inr (.inl h)
          · exact .inl h
          · exact .inr (.inr h)
theorem ris_insU {l : List Int} {k : Int} (h : Ris l) : Ris (insU l k) := by
  induction l with
  | nil => simp [insU, Ris]
  | cons a l ih =>
    unfold Ris at h ih ⊢
    rw [List.pairwise_cons] at h
    unfold insU
    split
    · rename_i hk
      rw [List.pairwise_cons, List.pairwise_cons]
      refine ⟨fun x hx => ?_, h.1, h.2⟩
      rcases List.mem_cons.1 hx with rfl | hx
      · exact hk
      · have := h.1 x hx; omega
    · split
      · rw [List.pairwise_cons]; exact h
      · rename_i h1 h2
        rw [List.pairwise_cons]
        refine ⟨fun x hx => ?_, ih h.2⟩
        rcases mem_insU.1 hx with rfl | hx
        · omega
        · exact h.1 x hx
theorem thr_snoc (l : List En) (x : En) : thr (l ++ [x]) = insU (thr l) x.th := by unfold thr; rw [List.foldl_append]; rfl
theorem fold_ris : ∀ (l : List En) (s : List Int), Ris s → Ris (l.foldl (fun s x => insU s x.th) s)
  | [], s, h => h
  | x :: l, s, h => by rw [List.foldl_cons]; exact fold_ris l _ (ris_insU h)
theorem thr_ris (l : List En) : Ris (thr l) := fold_ris l [] List.Pairwise.nil
theorem fold_mem {k : Int} : ∀ (l : List En) (s : List Int), k ∈ l.foldl (fun s x => insU s x.th) s ↔ k ∈ s ∨ ∃ x ∈ l, x.th = k
  | [], s => by simp
  | x :: l, s => by
    rw [List.foldl_cons, fold_mem l, mem_insU]
    constructor
    · rintro ((rfl | h) | ⟨y, hy, rfl⟩)
      · exact .inr ⟨x, List.mem_cons_self .., rfl⟩
      · exact .inl h
      · exact .inr ⟨y, List.mem_cons_of_mem _ hy, rfl⟩
    · rintro (h | ⟨y, hy, rfl⟩)
      · exact .inl (.inr h)
      · rcases List.mem_cons.1 hy with rfl | hy
        · exact .inl (.inl rfl)
        · exact .inr ⟨y, hy, rfl⟩
theorem mem_thr {l : List En} {k : Int} : k ∈ thr l ↔ ∃ x ∈ l, x.th = k := by
  unfold thr
  rw [fold_mem]
  simp
theorem ris_ext {a b : List Int} (ha : Ris a) (hb : Ris b) (h : ∀ k, k ∈ a ↔ k ∈ b) : a = b := by
  induction a generalizing b with
  | nil =>
    cases b with
    | nil => rfl
    | cons y b => exact absurd ((h y).2 (List.mem_cons_self ..)) (by simp)
  | cons x a ih =>
    cases b with
    | nil => exact absurd ((h x).1 (List.mem_cons_self ..)) (by simp)
    | cons y b =>
      unfold Ris at *
      rw [List.pairwise_cons] at ha hb
      have hxy : x = y := by
        rcases List.mem_cons.1 ((h x).1 (List.mem_cons_self ..)) with e | h1
        · exact e
        · rcases List.mem_cons.1 ((h y).2 (List.mem_cons_self ..)) with e | h2
          · exact e.symm
          · have := ha.1 y h2
            have := hb.1 x h1
            omega
      subst hxy
      rw [ih ha.2 hb.2 fun k => ?_]
      constructor
      · intro hk
        rcases List.mem_cons.1 ((h k).1 (List.mem_cons_of_mem _ hk)) with e | h1
        · have := ha.1 k hk; omega
        · exact h1
      · intro hk
        rcases List.mem_cons.1 ((h k).2 (List.mem_cons_of_mem _ hk)) with e | h1
        · have := hb.1 k hk; omega
        · exact h1
theorem thr_perm {l m : List En} (h : l.Perm m) : thr l = thr m :=
  ris_ext (thr_ris l) (thr_ris m) fun k => by
    rw [mem_thr, mem_thr]
    constructor
    · rintro ⟨x, hx, e⟩; exact ⟨x, h.mem_iff.1 hx, e⟩
    · rintro ⟨x, hx, e⟩; exact ⟨x, h.mem_iff.2 hx, e⟩
theorem insU_len (l : List Int) (k : Int) : (insU l k).length ≤ l.length + 1 := by
  induction l with
  | nil => simp [insU]
  | cons a l ih =>
    unfold insU
    split
    · simp
    · split
      · simp
      · simp only [List.length_cons]; omega
theorem thr_len (l : List En) : (thr l).length ≤ l.length := by
  have : ∀ (l : List En) (s : List Int), (l.foldl (fun s x => insU s x.th) s).length ≤ s.length + l.length := by
    intro l
    induction l with
    | nil => intro s; exact Nat.le_refl _
    | cons x l ih =>
      intro s
      rw [List.foldl_cons]
      have h1 := ih (insU s x.th)
      have h2 := insU_len s x.th
      simp only [List.length_cons]
      omega
  have h := this l []
  simpa [thr] using h
/-- The counts of all threads together. -/
def sumT (ts : List Int) (l : List En) : Tal := ts.foldl (fun t n => join t (ofL (ofT l n))) zero
theorem sumT_lg (l : List En) : ∀ (ts : List Int) (t : Tal), 0 ≤ t.lg → 0 ≤ (ts.foldl (fun t n => join t (ofL (ofT l n))) t).lg
  | [], t, h => h
  | n :: ts, t, h => by
    rw [List.foldl_cons]
    exact sumT_lg l ts _ (by show 0 ≤ max t.lg _; omega)
theorem fold_t (l : List En) (t u : Tal) : ∀ ts : List Int, ts.foldl (fun t n => join t (ofL (ofT l n))) (join t u) = join t (ts.foldl (fun t n => join t (ofL (ofT l n))) u)
  | [] => rfl
  | n :: ts => by
    rw [List.foldl_cons, List.foldl_cons, join_assoc]
    exact fold_t l t _ ts
theorem sumT_cons (n : Int) (ts : List Int) (l : List En) : sumT (n :: ts) l = join (ofL (ofT l n)) (sumT ts l) := by
  unfold sumT
  rw [List.foldl_cons, zero_join (ofL_lg _)]
  have h := fold_t l (ofL (ofT l n)) zero ts
  rw [join_zero (ofL_lg _)] at h
  exact h
theorem ofT_cons (x : En) (l : List En) (n : Int) : ofT (x :: l) n = if x.th = n then x :: ofT l n else ofT l n := by
  unfold ofT
  rw [List.filter_cons]
  by_cases h : x.th = n <;> simp [h]
theorem sumT_out {x : En} {l : List En} {ts : List Int} (h : x.th ∉ ts) : sumT ts (x :: l) = sumT ts l := by
  induction ts with
  | nil => rfl
  | cons n ts ih =>
    rw [sumT_cons, sumT_cons, ih (fun hx => h (List.mem_cons_of_mem _ hx)), ofT_cons, if_neg (fun e => h (by rw [e]; exact List.mem_cons_self ..))]
theorem sumT_in {x : En} {l : List En} {ts : List Int} (hn : ts.Nodup) (h : x.th ∈ ts) : sumT ts (x :: l) = join (ofL [x]) (sumT ts l) := by
  induction ts with
  | nil => cases h
  | cons n ts ih =>
    rw [List.nodup_cons] at hn
    rw [sumT_cons, sumT_cons, ofT_cons]
    by_cases e : x.th = n
    · rw [if_pos e, ofL_cons, join_assoc, sumT_out (by rw [e]; exact hn.1)]
    · rw [if_neg e]
      rcases List.mem_cons.1 h with h | h
      · exact absurd h e
      · rw [ih hn.2 h, ← join_assoc, join_comm (ofL (ofT l n)), join_assoc]
theorem sumT_nil : ∀ ts : List Int, sumT ts [] = zero
  | [] => rfl
  | n :: ts => by rw [sumT_cons, sumT_nil ts]; rfl
theorem sumT_all {ts : List Int} (hn : ts.Nodup) : ∀ l : List En, (∀ x ∈ l, x.th ∈ ts) → sumT ts l = ofL l
  | [], _ => sumT_nil ts
  | x :: l, h => by
    rw [sumT_in hn (h x (List.mem_cons_self ..)), sumT_all hn l (fun y hy => h y (List.mem_cons_of_mem _ hy)), ← ofL_cons]
theorem sumT_thr (l : List En) : sumT (thr l) l = ofL l :=
  sumT_all ((thr_ris l).imp (fun h => by omega)) l fun x hx => mem_thr.2 ⟨x, hx, rfl⟩
theorem ofT_perm {l m : List En} (h : l.Perm m) (n : Int) : (ofT l n).Perm (ofT m n) := h.filter _
theorem ofT_snoc (l : List En) (x : En) (n : Int) : ofT (l ++ [x]) n = if x.th = n then ofT l n ++ [x] else ofT l n := by
  unfold ofT
  rw [List.filter_append]
  by_cases h : x.th = n <;> simp [h]
theorem ofT_none {l : List En} {n : Int} (h : n ∉ thr l) : ofT l n = [] := by
  unfold ofT
  rw [List.filter_eq_nil_iff]
  intro x hx
  have : x.th ≠ n := fun e => h (mem_thr.2 ⟨x, hx, e⟩)
  simpa using this

/-- Which was busiest: the place of the first greatest; -1: there is none. -/
def bestF (f : Int → Int) : List Int → Nat → Int → Int → Int
  | [], _, b, _ => b
  | t :: ts, i, b, m => if b < 0 ∨ m < f t then bestF f ts (i + 1) i (f t) else bestF f ts (i + 1) b m

/-- How long each took, rising. -/
def took (x : En) : Int := x.en - x.be
def sortI (l : List Int) : List Int := l.mergeSort (fun x y => decide (x ≤ y))
theorem sortI_perm (l : List Int) : (sortI l).Perm l := List.mergeSort_perm l _
theorem sortI_up (l : List Int) : (sortI l).Pairwise (· ≤ ·) := by
  have := List.pairwise_mergeSort (le := fun (x y : Int) => decide (x ≤ y)) (fun a b c h1 h2 => by simp at *; omega) (fun a b => by simp; omega) l
  exact this.imp (fun h => by simpa using h)
theorem up_ext {a b : List Int} (h : a.Perm b) (ha : a.Pairwise (· ≤ ·)) (hb : b.Pairwise (· ≤ ·)) : a = b :=
  List.Perm.eq_of_pairwise (le := fun x y => x ≤ y) (fun a b _ _ h1 h2 => by omega) ha hb h
theorem sortI_ext {a b : List Int} (h : a.Perm b) : sortI a = sortI b :=
  up_ext ((sortI_perm a).trans (h.trans (sortI_perm b).symm)) (sortI_up a) (sortI_up b)
theorem sortI_len (l : List Int) : (sortI l).length = l.length := (sortI_perm l).length_eq
def tooks (l : List En) : List Int := sortI (l.map took)
theorem tooks_perm {l m : List En} (h : l.Perm m) : tooks l = tooks m := sortI_ext (h.map took)
theorem tooks_len (l : List En) : (tooks l).length = l.length := by unfold tooks; rw [sortI_len, List.length_map]
/-- A number put into a list that rises, ahead of those that are not less. -/
def insS : List Int → Int → List Int
  | [], k => [k]
  | x :: l, k => if x < k then x :: insS l k else k :: x :: l
theorem insS_perm (l : List Int) (k : Int) : (insS l k).Perm (k :: l) := by
  induction l with
  | nil => exact List.Perm.refl _
  | cons a l ih =>
    unfold insS
    split
    · exact (ih.cons a).trans (List.Perm.swap k a l)
    · exact List.Perm.refl _
theorem insS_up {l : List Int} {k : Int} (h : l.Pairwise (· ≤ ·)) : (insS l k).Pairwise (· ≤ ·) := by
  induction l with
  | nil => simp [insS]
  | cons a l ih =>
    rw [List.pairwise_cons] at h
    unfold insS
    split
    · rename_i hk
      rw [List.pairwise_cons]
      refine ⟨fun x hx => ?_, ih h.2⟩
      rcases List.mem_cons.1 ((insS_perm l k).mem_iff.1 hx) with rfl | hx
      · omega
      · exact h.1 x hx
    · rename_i hk
      rw [List.pairwise_cons, List.pairwise_cons]
      refine ⟨fun x hx => ?_, h⟩
      rcases List.mem_cons.1 hx with rfl | hx
      · omega
      · have := h.1 x hx; omega
def insL (l : List En) : List Int := l.foldl (fun s x => insS s (took x)) []
theorem insL_snoc (l : List En) (x : En) : insL (l ++ [x]) = insS (insL l) (took x) := by unfold insL; rw [List.foldl_append]; rfl
theorem fold_ins : ∀ (l : List En) (s : List Int), s.Pairwise (· ≤ ·) → (l.foldl (fun s x => insS s (took x)) s).Pairwise (· ≤ ·) ∧ (l.foldl (fun s x => insS s (took x)) s).Perm (l.map took ++ s)
  | [], s, h => ⟨h, List.Perm.refl _⟩
  | x :: l, s, h => by
    rw [List.foldl_cons]
    obtain ⟨h1, h2⟩ := fold_ins l (insS s (took x)) (insS_up h)
    refine ⟨h1, h2.trans ?_⟩
    rw [List.map_cons, List.cons_append]
    exact ((insS_perm s (took x)).append_left _).trans List.perm_middle
theorem insL_tooks (l : List En) : insL l = tooks l := by
  obtain ⟨h1, h2⟩ := fold_ins l [] List.Pairwise.nil
  rw [List.append_nil] at h2
  exact up_ext (h2.trans (sortI_perm _).symm) h1 (sortI_up _)

/-- When one begins or ends: of one time the beginnings first. -/
abbrev Pt := Int × Int
def ltP (a b : Pt) : Bool := decide (a.1 < b.1 ∨ a.1 = b.1 ∧ a.2 < b.2)
def ptOf (x : En) : List Pt := if x.be ≤ x.en then [(x.be, -1), (x.en, 1)] else []
def pts (l : List En) : List Pt := l.flatMap ptOf
theorem pts_snoc (l : List En) (x : En) : pts (l ++ [x]) = pts l ++ ptOf x := by unfold pts; simp
theorem pts_len (l : List En) : (pts l).length ≤ 2 * l.length := by
  induction l with
  | nil => simp [pts]
  | cons x l ih =>
    unfold pts at ih ⊢
    rw [List.flatMap_cons, List.length_append, List.length_cons]
    have : (ptOf x).length ≤ 2 := by unfold ptOf; split <;> simp
    omega
def sortP (l : List Pt) : List Pt := l.mergeSort (fun x y => !ltP y x)
theorem sortP_perm (l : List Pt) : (sortP l).Perm l := List.mergeSort_perm l _
theorem sortP_up (l : List Pt) : (sortP l).Pairwise (fun a b => ltP b a = false) := by
  have := List.pairwise_mergeSort (le := fun (x y : Pt) => !ltP y x) (fun a b c h1 h2 => by unfold ltP at *; simp at *; omega) (fun a b => by unfold ltP; simp; omega) l
  exact this.imp (fun h => by simpa using h)
theorem sortP_ext {a b : List Pt} (h : a.Perm b) : sortP a = sortP b :=
  List.Perm.eq_of_pairwise (le := fun x y => ltP y x = false) (fun a b _ _ h1 h2 => by
    unfold ltP at h1 h2
    simp at h1 h2
    ext <;> omega) (sortP_up a) (sortP_up b) ((sortP_perm a).trans (h.trans (sortP_perm b).symm))
def sweep : List Pt → Int → Int → Int
  | [], n, m => m
  | p :: l, n, m => sweep l (n - p.2) (max m (n - p.2))
def overL (l : List En) : Int := sweep (sortP (pts l)) 0 0
theorem overL_perm {l m : List En} (h : l.Perm m) : overL l = overL m := by
  unfold overL
  rw [sortP_ext (show (pts l).Perm (pts m) from h.flatMap_right ptOf)]

/-- How often a number can be halved. -/
def bitsN (n : Nat) : Nat := if h : n = 0 then 0 else bitsN (n / 2) + 1
termination_by n
decreasing_by omega
theorem bitsN_pos {n : Nat} (h : 0 < n) : bitsN n = bitsN (n / 2) + 1 := by
  conv => lhs; unfold bitsN
  rw [dif_neg (by omega)]
theorem bitsN_zero : bitsN 0 = 0 := by unfold bitsN; rw [dif_pos rfl]
theorem bitsN_le : ∀ (k n : Nat), n < 2 ^ k → bitsN n ≤ k
  | 0, n, h => by
    have : n = 0 := by simpa using h
    subst this
    rw [bitsN_zero]
    exact Nat.le_refl _
  | k + 1, n, h => by
    by_cases h0 : n = 0
    · subst h0; rw [bitsN_zero]; omega
    · rw [bitsN_pos (by omega)]
      have := bitsN_le k (n / 2) (by rw [Nat.pow_succ] at h; omega)
      omega
def bits (t : Int) : Nat := bitsN t.toNat
theorem bits_small {x : En} (h : EB x) : bits (took x) ≤ 21 := by
  unfold bits took
  obtain ⟨h1, h2, h3, h4⟩ := h
  exact bitsN_le 21 _ (by omega)
/-- One more at a place of a list that is made so long. -/
def incAt (s : List Int) (n : Nat) : List Int := if n < s.length then s.set n (s.getD n 0 + 1) else s ++ List.replicate (n - s.length) 0 ++ [1]
def barsL (l : List En) : List Int := l.foldl (fun s x => incAt s (bits (took x))) []
theorem barsL_snoc (l : List En) (x : En) : barsL (l ++ [x]) = incAt (barsL l) (bits (took x)) := by unfold barsL; rw [List.foldl_append]; rfl
theorem incAt_len (s : List Int) (n : Nat) : (incAt s n).length = max s.length (n + 1) := by
  unfold incAt
  split
  · simp; omega
  · simp; omega
theorem incAt_get (s : List Int) (n k : Nat) : (incAt s n).getD k 0 = s.getD k 0 + if k = n then 1 else 0 := by
  unfold incAt
  simp only [List.getD_eq_getElem?_getD]
  split
  · rename_i h
    rw [List.getElem?_set]
    by_cases e : n = k
    · subst e
      simp [h]
    · rw [if_neg e, if_neg (fun h => e h.symm), Int.add_zero]
  · rename_i h
    by_cases e : k = n
    · subst e
      rw [if_pos rfl, List.getElem?_append_right (by simp; omega)]
      simp only [List.length_append, List.length_replicate]
      rw [show k - (s.length + (k - s.length)) = 0 by omega, List.getElem?_eq_none (by omega : s.length ≤ k)]
      rfl
    · rw [if_neg e, Int.add_zero]
      by_cases h1 : k < s.length
      · rw [List.append_assoc, List.getElem?_append_left h1]
      · rw [List.getElem?_eq_none (by omega : s.length ≤ k)]
        by_cases h2 : k < n
        · rw [List.getElem?_append_left (by simp; omega), List.getElem?_append_right (by omega), List.getElem?_replicate, if_pos (by omega)]
          rfl
        · rw [List.getElem?_eq_none (by simp; omega)]
theorem fold_bars_get (k : Nat) : ∀ (l : List En) (s : List Int), (l.foldl (fun s x => incAt s (bits (took x))) s).getD k 0 = s.getD k 0 + ((l.filter (fun x => bits (took x) == k)).length : Int)
  | [], s => by simp
  | x :: l, s => by
    rw [List.foldl_cons, fold_bars_get k l, incAt_get, List.filter_cons]
    by_cases e : bits (took x) = k
    · simp [e]; omega
    · have : ¬ k = bits (took x) := fun h => e h.symm
      simp [e, this]
theorem fold_bars_len : ∀ (l : List En) (s : List Int), (l.foldl (fun s x => incAt s (bits (took x))) s).length = l.foldr (fun x m => max m (bits (took x) + 1)) s.length
  | [], s => rfl
  | x :: l, s => by
    rw [List.foldl_cons, fold_bars_len l, incAt_len, List.foldr_cons]
    have : ∀ (l : List En) (a b : Nat), l.foldr (fun x m => max m (bits (took x) + 1)) (max a b) = max (l.foldr (fun x m => max m (bits (took x) + 1)) a) b := by
      intro l a b
      induction l with
      | nil => rfl
      | cons y l ih => rw [List.foldr_cons, List.foldr_cons, ih]; omega
    rw [this]
theorem foldr_max_perm {l m : List En} (h : l.Perm m) (a : Nat) : l.foldr (fun x m => max m (bits (took x) + 1)) a = m.foldr (fun x m => max m (bits (took x) + 1)) a := by
  induction h with
  | nil => rfl
  | cons x _ ih => rw [List.foldr_cons, List.foldr_cons, ih]
  | swap x y l => simp only [List.foldr_cons]; omega
  | trans _ _ h1 h2 => exact h1.trans h2
theorem getD_ext {a b : List Int} (hl : a.length = b.length) (h : ∀ k, a.getD k 0 = b.getD k 0) : a = b := by
  refine List.ext_getElem hl fun i h1 h2 => ?_
  have := h i
  simp only [List.getD_eq_getElem?_getD, List.getElem?_eq_getElem h1, List.getElem?_eq_getElem h2] at this
  exact this
theorem barsL_perm {l m : List En} (h : l.Perm m) : barsL l = barsL m := by
  refine getD_ext ?_ fun k => ?_
  · unfold barsL
    rw [fold_bars_len, fold_bars_len, foldr_max_perm h]
  · unfold barsL
    rw [fold_bars_get, fold_bars_get, (h.filter _).length_eq]
theorem fold_bars_le {m : Nat} : ∀ (l : List En) (s : List Int), (∀ x ∈ l, bits (took x) < m) → s.length ≤ m → (l.foldl (fun s x => incAt s (bits (took x))) s).length ≤ m
  | [], s, _, h => h
  | x :: l, s, hx, h => by
    rw [List.foldl_cons]
    refine fold_bars_le l _ (fun y hy => hx y (List.mem_cons_of_mem _ hy)) ?_
    rw [incAt_len]
    have := hx x (List.mem_cons_self ..)
    omega
theorem barsL_len {l : List En} (h : ∀ x ∈ l, EB x) : (barsL l).length ≤ 22 :=
  fold_bars_le l [] (fun x hx => by have := bits_small (h x hx); omega) (by simp)
end Go.Proofs.YtiahnlaplkeiaaaDoor.St

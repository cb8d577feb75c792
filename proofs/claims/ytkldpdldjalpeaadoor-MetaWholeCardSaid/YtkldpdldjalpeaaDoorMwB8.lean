/-
  An argument that is a slice of ints: what it reads as. No program in sight.
  A world that meets the row's listed variable.
  A clock's ticks, by several: each number once, rising for each. No program in sight.
  Ticks' answers, all together: each number once, as many as there were. No program in sight.
  MetaTicks, the walk.
  Writers, one version behind the other, and readers: what is read goes with its version. No program in sight.
  MetaWhole, the walk.
-/
import Derived.Test.YtkldpdldjalpeaaDoorMwB7
import Derived.Test.YtkldpdldjalpeaaDoorProg
import Derived.Test.YtkldpdldjalpeaaDoorMwB0
import Derived.Test.YtkldpdldjalpeaaDoorRows
import Derived.LaidMore
import Derived.LaidHandle
import Derived.Stop.Joined
import Derived.Deep.Cut
set_option linter.unusedVariables false
namespace Go.Proofs.YtkldpdldjalpeaaDoor
open Go.RowKit Go.Deep Go.WideShapes Go.ChangeShapes
section
variable {H : Type} {enc : TypeId × Value → H} {W : World} {base b0 : Nat} {spare : Nat → Bool} {held : Bool} {v : Value} {d : DataW H} {ps : List MemPlace} {r : Reach}
set_option maxRecDepth 100000 in
theorem ints6_of (hok : Value.okWide Tryd.prog W r b0 22 v) (h : DataW.Trod enc Tryd.prog W base spare held 22 v d ps) :
    ∃ (L : List Int) (A : Option Addr) (c : Nat), v = .slice A L.length c ∧ L.length ≤ 9223372036854775807 ∧ Src W 1 (.slice A L.length c) L.length (L.map (Value.int .i64)) := by
  obtain ⟨L, A, c, h1, h2, h3, h4, h6⟩ := rd_arg Tryd.underlying22 (reads_int Tryd.underlying3 (by kernel_rfl)) hok h
  have hf : flat (encI .i64) L = L.map (Value.int .i64) := by
    clear h1 h2 h4 h6 h3
    induction L with
    | nil => rfl
    | cons a L ih => rw [flat_cons, ih]; rfl
  refine ⟨L, A, c, h1, by simp only [maxLen] at h3; omega, ?_⟩
  have h5 : Src W 1 v L.length (flat (encI .i64) L) := h4
  rw [hf, h1] at h5
  exact h5
end
end Go.Proofs.YtkldpdldjalpeaaDoor

namespace Go.Proofs.YtkldpdldjalpeaaDoor
open Go.ChangeShapes Go.WideShapes Go.ChangeAt Go.RowKit
theorem in_u64 {n : Int} (h : (Lit.int .u64 n).wf = true) : 0 ≤ n ∧ n ≤ 18446744073709551615 := by
  simp only [Lit.wf, Bool.and_eq_true, decide_eq_true_eq] at h
  have h1 : IntKind.u64.min = 0 := by decide
  have h2 : IntKind.u64.max = 18446744073709551615 := by decide
  rw [h1, h2] at h
  exact h
end Go.Proofs.YtkldpdldjalpeaaDoor
namespace Go.Proofs.YtkldpdldjalpeaaDoor.DoorKit
open Go.ChangeShapes Go.WideShapes Go.ChangeAt Go.RowKit

theorem own : ownKnob Tryd.prog.godebug = none := by kernel_rfl
theorem laidOut : laidOutB Tryd.prog = true := by kernel_rfl
theorem door_met (os : Os) (args : Array Value) : laidMetH Tryd.prog [("errors.errorType", Rows.laid_errors_errorType)] ((World.doorLaid Tryd.prog 400 os).forCall (fun _ _ => 0) ⟨#[], args, []⟩).memory :=
  laidMetH_of_parts3 (fuel := 8) (laidMet_nil _ _) (by kernel_rfl) (by kernel_rfl)
end Go.Proofs.YtkldpdldjalpeaaDoor.DoorKit

namespace Go.Proofs.YtkldpdldjalpeaaDoor.Th

/-- Who got which tick. -/
def IK (n t : Nat) (s : List Nat) (B : BS) : Prop := B = B1 (s.length : Nat) 0 10 ∧ (∀ x ∈ s, x < n) ∧ ∀ i, s.count i ≤ t
def RK (i : Nat) (s s' : List Nat) : Prop := ∃ r, s' = s ++ r ∧ i ∉ r
theorem rk_refl (i : Nat) (s : List Nat) : RK i s s := ⟨[], by simp, by simp⟩
theorem rk_trans (i : Nat) (s s' s'' : List Nat) (h : RK i s s') (k : RK i s' s'') : RK i s s'' := by
  obtain ⟨r, rfl, h⟩ := h
  obtain ⟨q, rfl, k⟩ := k
  exact ⟨r ++ q, by simp, by simp [h, k]⟩
theorem rk_count {i : Nat} {s s' : List Nat} (h : RK i s s') : s'.count i = s.count i := by
  obtain ⟨r, rfl, h⟩ := h
  rw [List.count_append, List.count_eq_zero_of_not_mem h]
  omega
theorem count_len : ∀ (n : Nat) (s : List Nat) (t : Nat), (∀ x ∈ s, x < n) → (∀ i, s.count i ≤ t) → s.length ≤ n * t
  | 0, s, t, h, _ => by
    have : s = [] := List.eq_nil_iff_forall_not_mem.2 fun x hx => by have := h x hx; omega
    subst this
    simp
  | n + 1, s, t, h, hc => by
    have h1 := count_len n (s.filter (fun x => x != n)) t (fun x hx => by
      simp only [List.mem_filter, bne_iff_ne] at hx
      have := h x hx.1
      omega) (fun i => Nat.le_trans (List.Sublist.count_le i List.filter_sublist) (hc i))
    have h2 : s.length = (s.filter (fun x => x != n)).length + s.count n := by
      clear h hc h1
      induction s with
      | nil => rfl
      | cons x s ih =>
        rw [List.filter_cons, List.count_cons, List.length_cons]
        by_cases hx : x = n
        · subst hx; simp; omega
        · have : (x != n) = true := by simpa using hx
          have e : (x == n) = false := by simpa using hx
          simp only [this, if_true, List.length_cons, e]
          simp
          omega
    have := hc n
    rw [h2, Nat.add_mul]
    omega
/-- Answers of ticks: rising, each its own. -/
def tkOk (i : Nat) (s : List Nat) (l : List An) : Prop :=
  (∀ a ∈ l, a.err = 12 ∨ (a.err = 0 ∧ ∃ k : Nat, a.n = (k : Int) + 1 ∧ s[k]? = some i)) ∧
  ((l.filter (fun a => a.err == 0)).map (·.n)).Pairwise (· < ·) ∧ (l.filter (fun a => a.err == 0)).length = s.count i
theorem tkOk.rel {i : Nat} {s s' : List Nat} {l : List An} (h : tkOk i s l) (hr : RK i s s') : tkOk i s' l := by
  refine ⟨fun a ha => ?_, h.2.1, by rw [h.2.2, rk_count hr]⟩
  rcases h.1 a ha with h1 | ⟨h1, k, h2, h3⟩
  · exact .inl h1
  · obtain ⟨r, rfl, _⟩ := hr
    exact .inr ⟨h1, k, h2, by rw [List.getElem?_append_left (List.getElem?_eq_some_iff.1 h3).1]; exact h3⟩
def tkQ (i : Nat) (l : List An) (a : An) (s : List Nat) : Prop := tkOk i s (l ++ [a])
theorem tk_err {i : Nat} {s : List Nat} {l : List An} (h : tkOk i s l) : tkOk i s (l ++ [⟨12, 0, 0⟩]) := by
  refine ⟨fun a ha => ?_, ?_, ?_⟩
  · rcases List.mem_append.1 ha with ha | ha
    · exact h.1 a ha
    · simp at ha; subst ha; exact .inl rfl
  · simpa using h.2.1
  · simpa using h.2.2
theorem tk_one {n t i : Nat} {l : List An} (hi : i < n) (hn : n * t ≤ 1000) (hl : l.length < t) : ∀ k s, tkOk i s l → Safe (IK n t) RK i (tkQ i l) (tickT 1 k) s
  | 0, s, h => tk_err h
  | k + 1, s, h => by
    rintro s1 hr1 B ⟨rfl, hb, hc⟩
    have h1 := h.rel hr1
    refine ⟨s1, fun _ _ => rk_refl _ _, ⟨rfl, hb, hc⟩, ?_⟩
    rw [b1_load_clock]
    have hlen := count_len n s1 t hb hc
    have hu : u64 ((s1.length : Int) + 1) = s1.length + 1 := by unfold u64; omega
    have hs : s64 ((s1.length : Int) + 1) = s1.length + 1 := by unfold s64; omega
    simp only [hu, hs]
    rintro s2 hr2 B ⟨rfl, hb2, hc2⟩
    have h2 := h1.rel hr2
    by_cases he : (s2.length : Int) = s1.length
    · have e : s2 = s1 := by
        obtain ⟨r, rfl, _⟩ := hr2
        have hr : r = [] := List.eq_nil_of_length_eq_zero (by rw [List.length_append] at he; omega)
        subst hr
        simp
      subst e
      refine ⟨s2 ++ [i], fun j hj => ⟨[i], rfl, by simpa using hj⟩, ⟨?_, ?_, fun j => ?_⟩, ?_⟩
      · rw [b1_cas_clock, if_pos rfl]; simp
      · intro x hx
        rcases List.mem_append.1 hx with hx | hx
        · exact hb2 x hx
        · simp at hx; subst hx; exact hi
      · rw [List.count_append]
        by_cases hj : i = j
        · subst hj
          have := h2.2.2
          have := List.length_filter_le (fun a : An => a.err == 0) l
          simp
          omega
        · have : ([i] : List Nat).count j = 0 := by simp [hj]
          have := hc2 j
          omega
      · rw [b1_cas_clock]
        simp only [beq_self_eq_true, if_true]
        refine ⟨fun a ha => ?_, ?_, ?_⟩
        · rcases List.mem_append.1 ha with ha | ha
          · rcases h2.1 a ha with h3 | ⟨h3, q, h4, h5⟩
            · exact .inl h3
            · exact .inr ⟨h3, q, h4, by rw [List.getElem?_append_left (List.getElem?_eq_some_iff.1 h5).1]; exact h5⟩
          · simp at ha; subst ha
            exact .inr ⟨rfl, s2.length, rfl, by simp⟩
        · simp only [List.filter_append, List.map_append]
          rw [List.pairwise_append]
          refine ⟨h2.2.1, by simp, ?_⟩
          intro x hx y hy
          simp at hy
          subst hy
          obtain ⟨a, ha, rfl⟩ := List.mem_map.1 hx
          simp only [List.mem_filter, beq_iff_eq] at ha
          rcases h2.1 a ha.1 with h3 | ⟨h3, q, h4, h5⟩
          · omega
          · have := (List.getElem?_eq_some_iff.1 h5).1
            omega
        · have := h2.2.2
          simp only [List.filter_append, List.length_append, List.count_append, this]
          simp
    · refine ⟨s2, fun _ _ => rk_refl _ _, ⟨?_, hb2, hc2⟩, ?_⟩
      · rw [b1_cas_clock, if_neg he]
      · rw [b1_cas_clock]
        have : ((s2.length : Int) == s1.length) = false := by simpa using he
        simp only [this, Bool.false_eq_true, if_false]
        exact tk_one hi hn hl k s2 h2
theorem tk_body {n t i : Nat} (hi : i < n) (hn : n * t ≤ 1000) : ∀ k l s, l.length + k = t → tkOk i s l → Safe (IK n t) RK i (fun l s => tkOk i s l ∧ l.length = t) (bodyT 1 3 (List.replicate k ⟨2, 0, 0, 0, 0⟩) l) s
  | 0, l, s, hk, h => ⟨h, by omega⟩
  | k + 1, l, s, hk, h => by
    rw [List.replicate_succ]
    unfold bodyT
    rw [if_neg (by simp)]
    refine Safe.bind (Q := tkQ i l) (tk_one hi hn (by omega) 8 s h) ?_
    intro a s' ha
    rw [if_neg (by rcases ha.1 a (by simp) with h | ⟨h, _⟩ <;> omega)]
    exact tk_body hi hn k _ s' (by simp; omega) ha
theorem tk_fine {i : Nat} {s : List Nat} {l : List An} (h : tkOk i s l) : Fine l := fun a ha => by
  rcases h.1 a ha with h | ⟨h, _⟩ <;> omega
/-- All who tick, in whichever order. -/
theorem ticks_whole {n t : Nat} (hn : n * t ≤ 1000) (ht : t ≤ 20) (picks : List Nat) :
    ∃ (as_ : List (List An)) (s : List Nat), wholeT 500 (List.replicate n (bodyT 1 3 (List.replicate t ⟨2, 0, 0, 0, 0⟩) [])) (B1 0 0 10) picks
      = (as_.map (fun a => (⟨.ret a, true⟩ : TS (List An))), B1 (s.length : Nat) 0 10) ∧ as_.length = n ∧ (∀ x ∈ s, x < n) ∧ s.length ≤ n * t ∧ ∀ i a, as_[i]? = some a → tkOk i s a := by
  obtain ⟨as_, s, h1, h2, h3, h4⟩ := whole_safe (I := IK n t) (Rel := RK) (Q := fun i l s => tkOk i s l ∧ l.length = t) (D := 17 * t) ⟨rk_refl, rk_trans, fun i a s s' hr h => ⟨h.1.rel hr, h.2⟩⟩ (n := 500) (by omega) (ps := List.replicate n (bodyT 1 3 (List.replicate t ⟨2, 0, 0, 0, 0⟩) [])) (B := B1 0 0 10) (s := []) ⟨rfl, by simp, by simp⟩ (by
    intro i p hp
    rw [List.getElem?_replicate] at hp
    split at hp
    · next hi =>
      injection hp with hp
      subst hp
      exact ⟨tk_body hi hn t [] [] (by simp) ⟨by simp, by simp, by simp⟩, by simpa using dep_body 1 3 (List.replicate t ⟨2, 0, 0, 0, 0⟩) []⟩
    · cases hp) picks
  exact ⟨as_, s, Prod.ext h1 h3.1, by simpa using h2, h3.2.1, count_len n s t h3.2.1 h3.2.2, fun i a ha => (h4 i a ha).1⟩
end Go.Proofs.YtkldpdldjalpeaaDoor.Th

namespace Go.Proofs.YtkldpdldjalpeaaDoor.Th

/-- The numbers of those that were done. -/
def succL (l : List An) : List Int := (l.filter (fun a => a.err == 0)).map (·.n)
theorem succL_append (l m : List An) : succL (l ++ m) = succL l ++ succL m := by simp [succL]
theorem succL_one (a : An) : succL [a] = if a.err = 0 then [a.n] else [] := by
  unfold succL
  by_cases h : a.err = 0 <;> simp [h]
theorem tk_len {i : Nat} {s : List Nat} {l : List An} (h : tkOk i s l) : (succL l).length = s.count i := by
  unfold succL
  rw [List.length_map]
  exact h.2.2
theorem tk_mem {i : Nat} {s : List Nat} {l : List An} (h : tkOk i s l) {m : Int} (hm : m ∈ succL l) : ∃ k : Nat, m = (k : Int) + 1 ∧ s[k]? = some i := by
  unfold succL at hm
  obtain ⟨a, ha, rfl⟩ := List.mem_map.1 hm
  simp only [List.mem_filter, beq_iff_eq] at ha
  rcases h.1 a ha.1 with h1 | ⟨_, k, h2, h3⟩
  · omega
  · exact ⟨k, h2, h3⟩
theorem tk_nodup {i : Nat} {s : List Nat} {l : List An} (h : tkOk i s l) : (succL l).Nodup := h.2.1.imp fun hab => by omega
theorem count_sum : ∀ (n : Nat) (s : List Nat), (∀ x ∈ s, x < n) → ((List.range n).map fun i => s.count i).sum = s.length
  | 0, s, h => by
    have : s = [] := List.eq_nil_iff_forall_not_mem.2 fun x hx => by have := h x hx; omega
    subst this
    rfl
  | n + 1, s, h => by
    have h1 := count_sum n (s.filter (fun x => x != n)) (fun x hx => by
      simp only [List.mem_filter, bne_iff_ne] at hx
      have := h x hx.1
      omega)
    have h2 : s.length = (s.filter (fun x => x != n)).length + s.count n := by
      clear h h1
      induction s with
      | nil => rfl
      | cons x s ih =>
        rw [List.filter_cons, List.count_cons, List.length_cons]
        by_cases hx : x = n
        · subst hx; simp; omega
        · have : (x != n) = true := by simpa using hx
          have e : (x == n) = false := by simpa using hx
          simp only [this, if_true, List.length_cons, e]
          simp
          omega
    rw [List.range_succ, List.map_append, List.sum_append, h2, ← h1]
    congr 1
    · congr 1
      apply List.map_congr_left
      intro i hi
      have : i ≠ n := by have := List.mem_range.1 hi; omega
      rw [List.count_filter (by simpa using this)]
/-- All of them. -/
theorem ticks_all {n : Nat} {s : List Nat} {as_ : List (List An)} (hl : as_.length = n) (hs : ∀ x ∈ s, x < n) (h : ∀ (i : Nat) a, as_[i]? = some a → tkOk i s a) :
    (as_.flatMap succL).Nodup ∧ (as_.flatMap succL).length = s.length ∧ ∀ m ∈ as_.flatMap succL, 1 ≤ m ∧ m ≤ s.length := by
  refine ⟨?_, ?_, fun m hm => ?_⟩
  · clear hl hs
    have key : ∀ (l : List (List An)) (k : Nat), (∀ (i : Nat) a, l[i]? = some a → tkOk (k + i) s a) → (l.flatMap succL).Nodup ∧ ∀ m ∈ l.flatMap succL, ∃ q j : Nat, k ≤ j ∧ m = (q : Int) + 1 ∧ s[q]? = some j := by
      intro l
      induction l with
      | nil => intro k _; simp
      | cons a l ih =>
        intro k hk
        have ha := hk 0 a rfl
        obtain ⟨i1, i2⟩ := ih (k + 1) (fun i b hb => by have := hk (i + 1) b (by simpa using hb); rwa [show k + (i + 1) = k + 1 + i by omega] at this)
        rw [List.flatMap_cons]
        refine ⟨List.nodup_append.2 ⟨tk_nodup ha, i1, fun x hx y hy e => ?_⟩, fun m hm => ?_⟩
        · obtain ⟨q, e1, e2⟩ := tk_mem ha hx
          obtain ⟨q', j, e3, e4, e5⟩ := i2 y hy
          have : q = q' := by omega
          subst this
          rw [e2] at e5
          injection e5 with e5
          omega
        · rcases List.mem_append.1 hm with hm | hm
          · obtain ⟨q, e1, e2⟩ := tk_mem ha hm
            exact ⟨q, k, Nat.le_refl _, e1, by simpa using e2⟩
          · obtain ⟨q, j, e3, e4, e5⟩ := i2 m hm
            exact ⟨q, j, by omega, e4, e5⟩
    exact (key as_ 0 (fun i a ha => by rw [Nat.zero_add]; exact h i a ha)).1
  · rw [List.length_flatMap, ← count_sum n s hs]
    congr 1
    apply List.ext_getElem?
    intro i
    simp only [List.getElem?_map]
    by_cases hi : i < n
    · have hi' : i < as_.length := by omega
      rw [List.getElem?_eq_getElem hi', List.getElem?_range hi]
      simp only [Option.map_some]
      rw [tk_len (h i _ (List.getElem?_eq_getElem hi'))]
    · rw [List.getElem?_eq_none (by omega), List.getElem?_eq_none (by simp; omega)]
      rfl
  · obtain ⟨a, ha, hm⟩ := List.mem_flatMap.1 hm
    obtain ⟨i, hi⟩ := List.getElem?_of_mem ha
    obtain ⟨k, e1, e2⟩ := tk_mem (h i a hi) hm
    have := (List.getElem?_eq_some_iff.1 e2).1
    omega
/-- The last one so far. -/
def wasL (l : List An) : Int := (succL l).getLast?.getD 0
theorem was_next {i : Nat} {s : List Nat} {l m : List An} {a : An} (h : tkOk i s (l ++ a :: m)) (ha : a.err = 0) : wasL l < a.n := by
  have h2 := h.2.1
  have h1 : succL (l ++ a :: m) = succL l ++ a.n :: succL m := by
    rw [succL_append]
    congr 1
    unfold succL
    rw [List.filter_cons, if_pos (by simpa using ha), List.map_cons]
  have h2 : (succL (l ++ a :: m)).Pairwise (· < ·) := h.2.1
  rw [h1] at h2
  have h3 := (List.pairwise_append.1 h2).2.2
  unfold wasL
  cases hg : (succL l).getLast? with
  | none =>
    rcases h.1 a (by simp) with h4 | ⟨_, k, h4, _⟩
    · omega
    · simp; omega
  | some x =>
    simp
    exact h3 x (List.mem_of_getLast? hg) a.n (by simp)
theorem was_snoc {l : List An} {a : An} : wasL (l ++ [a]) = if a.err = 0 then a.n else wasL l := by
  unfold wasL
  rw [succL_append, succL_one]
  by_cases h : a.err = 0
  · rw [if_pos h, if_pos h]; simp
  · rw [if_neg h, if_neg h]; simp
end Go.Proofs.YtkldpdldjalpeaaDoor.Th

namespace Go.Proofs.YtkldpdldjalpeaaDoor.Th
def tkC (t : Nat) : List Cl := List.replicate t ⟨2, 0, 0, 0, 0⟩
def tkQQ (t : Nat) (i : Nat) (l : List An) (s : List Nat) : Prop := tkOk i s l ∧ l.length = t
theorem tk_relok (t : Nat) : RelOk RK (tkQQ t) := ⟨rk_refl, rk_trans, fun i a s s' hr h => ⟨h.1.rel hr, h.2⟩⟩
theorem tk_good {n t : Nat} (hn : n * t ≤ 1000) : ∃ s, Sys (IK n t) RK (tkQQ t) (17 * t) ((((List.replicate n (tkC t)).map fun cs => (⟨bodyT 1 3 cs [], false⟩ : TS (List An)))), B1 0 0 10) s := by
  have := sys_init (I := IK n t) (Rel := RK) (Q := tkQQ t) (D := 17 * t) (ps := List.replicate n (bodyT 1 3 (tkC t) [])) (B := B1 0 0 10) (s := []) ⟨rfl, by simp, by simp⟩ (by
    intro i p hp
    rw [List.getElem?_replicate] at hp
    split at hp
    · next hi =>
      injection hp with hp
      subst hp
      exact ⟨tk_body hi hn t [] [] (by simp) ⟨by simp, by simp, by simp⟩, by simpa [tkC] using dep_body 1 3 (tkC t) []⟩
    · cases hp)
  rw [List.map_replicate] at this ⊢
  exact ⟨_, this⟩
theorem tk_sgo (n t : Nat) : (∀ (x : List (TS (List An)) × BS) k, (∃ s, Sys (IK n t) RK (tkQQ t) (17 * t) x s) → ∃ s, Sys (IK n t) RK (tkQQ t) (17 * t) (sysStep x.1 x.2 k) s) ∧
    (∀ (x : List (TS (List An)) × BS) (i : Nat) u a, (∃ s, Sys (IK n t) RK (tkQQ t) (17 * t) x s) → x.1[i]? = some u → u.p = .ret a → Fine a) ∧ ∀ (x : List (TS (List An)) × BS), (∃ s, Sys (IK n t) RK (tkQQ t) (17 * t) x s) → (1, 1) ∈ x.2.sz ∧ (3, 2) ∈ x.2.sz := by
  refine ⟨fun x k ⟨s, h⟩ => h.step (tk_relok t) k, fun x i u a ⟨s, h⟩ ht hp => ?_, fun x ⟨s, h⟩ => ?_⟩
  · have := h.safe i u ht
    rw [hp] at this
    exact tk_fine this.1
  · obtain ⟨h1, _⟩ := h.inv
    rw [h1]
    show (1, 1) ∈ [(1, 1), (3, 2)] ∧ (3, 2) ∈ [(1, 1), (3, 2)]
    simp
/-- How often each number was met. -/
def metL (N : Nat) (P : List Int) : List Int := (List.range (N + 1)).map fun (m : Nat) => ((P.count (m : Int) : Nat) : Int)
theorem last_exec {d : Nat} (hd : d ≤ 24) : ∃ n B', exec n (bodyT 1 3 [⟨1, 0, 0, 0, 0⟩] []) (B1 (d : Nat) 0 10) = some ([⟨0, 0, (d : Int)⟩], B') := by
  have := exec_cons (x := ⟨1, 0, 0, 0, 0⟩) (r := []) (l := []) (by simp) (exec_now (c := d) (w := 0) (v := 10)) (by simp) (exec_nil (l := [⟨0, 0, s64 d⟩]))
  rw [show s64 (d : Int) = d by unfold s64; omega] at this
  exact ⟨_, _, this⟩
theorem metL_len (N : Nat) (P : List Int) : (metL N P).length = N + 1 := by simp [metL]
theorem metL_get {N k : Nat} {P : List Int} (hk : k ≤ N) : (metL N P)[k]? = some ((P.count (k : Int) : Nat) : Int) := by
  unfold metL
  rw [List.getElem?_map, List.getElem?_range (by omega)]
  rfl
theorem metL_nil (N : Nat) : metL N [] = List.replicate (N + 1) 0 := by
  apply List.ext_getElem?
  intro i
  by_cases hi : i ≤ N
  · rw [metL_get hi, List.getElem?_replicate, if_pos (by omega)]
    rfl
  · rw [List.getElem?_eq_none (by rw [metL_len]; omega), List.getElem?_eq_none (by simp; omega)]
theorem metL_put {N k : Nat} {P : List Int} (hk : k ≤ N) : metL N (P ++ [(k : Int)]) = (metL N P).set k (((P.count (k : Int) : Nat) : Int) + 1) := by
  apply List.ext_getElem?
  intro i
  by_cases hi : i ≤ N
  · rw [metL_get hi, List.getElem?_set]
    by_cases e : k = i
    · subst e
      rw [if_pos rfl, if_pos (by rw [metL_len]; omega), List.count_append]
      simp
    · rw [if_neg e, metL_get hi, List.count_append]
      have : ([(k : Int)] : List Int).count (i : Int) = 0 := List.count_eq_zero_of_not_mem (by simp; omega)
      rw [this]
      rfl
  · rw [List.getElem?_eq_none (by rw [metL_len]; omega), List.getElem?_eq_none (by rw [List.length_set, metL_len]; omega)]
end Go.Proofs.YtkldpdldjalpeaaDoor.Th
namespace Go.Proofs.YtkldpdldjalpeaaDoor
open Go.RowKit Th
attribute [local go_sem] litStep_value

theorem madeMet (n : Nat) : (madeCells #[Value.int .i64 0] n).toList = (List.replicate n (0 : Int)).map (Value.int .i64) := by
  apply List.ext_getElem
  · simp [madeCells]
  · intro i h1 h2
    simp [madeCells, Nat.mod_one]
theorem own_madeMet (w : World) (B n : Nat) (hB : B ≤ w.heap.size) (hn : n ≤ 1000000) : (w.alloc (.cells (madeCells #[Value.int .i64 0] n) 3)).ownsRow B 3 1 (.slice (some ⟨w.heap.size, 0, none⟩) n n) n ((List.replicate n (0 : Int)).map (Value.int .i64)) := by
  refine ⟨by simp, .inr ⟨w.heap.size, n, _, rfl, hB, Blk.new w _ _, Nat.le_refl _, by simp only [maxLen]; omega, by simp [size_madeCells], ?_⟩⟩
  rw [madeMet, List.take_of_length_le (by simp)]
theorem int_info : (Tryd.prog.info? 3).map (fun i => (i.zero, i.size, i.bytes)) = some (some (.int .i64 0), 1, 8) := by kernel_rfl
set_option maxRecDepth 20000 in
set_option maxHeartbeats 8000000 in
theorem law_ticks (nn tt : Int) (A : Option Addr) (np cp : Nat) (ps : List Int) (w : World) (hP : Src w 1 (.slice A np cp) np (ps.map (Value.int .i64))) (hnp : ps.length = np) (hmax : np ≤ 9223372036854775807) :
    Calls Tryd.prog 5 #[.int .i64 nn, .int .i64 tt, .slice A np cp] w fun e w' => e = .returned (.bool true) ∧ Upd [] w w' := by
  have hr : -4 < nn.tmod 4 ∧ nn.tmod 4 < 4 := ⟨Int.lt_tmod_of_pos nn (by omega), Int.tmod_lt_of_pos nn (by omega)⟩
  have hr2 : -7 < tt.tmod 7 ∧ tt.tmod 7 < 7 := ⟨Int.lt_tmod_of_pos tt (by omega), Int.tmod_lt_of_pos tt (by omega)⟩
  have HP := Lib.hid hP
  have HNP := Lib.hid hnp
  have hnp0 : (0 : Int) ≤ np ∧ (np : Int) ≤ 9223372036854775807 := by omega
  clear hP hnp hmax
  go_enter Tryd.func5, Tryd.ntmps5
  go_wp2_with fail
  refine (scene_ok 1 (by omega) w).mono ?_
  rintro e w1 ⟨F, kb, rfl, h1, h2, h3, h4, h5, h6⟩
  have H1 := Lib.hid h1
  have H2 : Hid (Blk w1 kb 24 #[.int .u64 3]) := Lib.hid h2
  have H3 := Lib.hid h3
  have H4 : Hid ((∀ x ∈ F.l, w.heap.size ≤ x) ∧ w.heap.size ≤ kb ∧ kb ∉ F.l) := Lib.hid ⟨h4, h5, h6⟩
  clear h1 h2 h3 h4 h5 h6 hr hr2
  obtain ⟨n, hn, hn2⟩ : ∃ n : Nat, 1 + nn.tmod 4 % 4 = n ∧ 1 ≤ n ∧ n ≤ 4 := ⟨(1 + nn.tmod 4 % 4).toNat, by omega, by omega, by omega⟩
  obtain ⟨t, ht, ht2⟩ : ∃ t : Nat, (tt.tmod 7 + 7) % 7 = t ∧ t ≤ 6 := ⟨((tt.tmod 7 + 7) % 7).toNat, by omega, by omega⟩
  rw [hn, ht]
  have HN : Hid (1 ≤ n ∧ n ≤ 4 ∧ t ≤ 6) := Lib.hid ⟨hn2.1, hn2.2, ht2⟩
  have hn3 : (1 : Int) ≤ n ∧ (n : Int) ≤ 4 := by omega
  have ht3 : (t : Int) ≤ 6 := by omega
  clear hn hn2 ht ht2
  by_cases hlong : 100 < np
  · have hl : (100 : Int) < np := by omega
    clear hlong
    go_wp2_with fail
    refine (malive_ok w1).mono ?_
    rintro e wg ⟨rfl, ug⟩
    have UG := Lib.hid (H3.out.trans ug)
    clear ug
    go_wp2_with fail
    go_ret
    exact ⟨rfl, UG.out⟩
  · have hl : ¬ (100 : Int) < np := by omega
    have HL : Hid (np ≤ 100) := Lib.hid (by omega)
    clear hlong
    go_wp2_with fail
    go_loopw [10, 11, 12, 57] (fun u10 u11 u12 u57 wr => ∃ (i : Nat) (svs : List Value), u11 = .int .i64 i ∧ i ≤ n ∧ Hid (Lst w1 wr u10 (List.replicate i (tkC t)) svs)) (fun _ u _ _ _ => n - (intOf u).toNat)
    case atStart => exact ⟨0, [], rfl, by omega, Lib.hid (Lst.nil w1)⟩
    case round =>
      obtain ⟨i, svs, rfl, hi, KL⟩ := hrel
      by_cases hlt : i < n
      · have hii : (i : Int) < n := by omega
        have HI := Lib.hid hlt
        clear hi hlt
        go_wp2_with fail
        go_loopw [12, 57] (fun u12 u57 wx => ∃ j : Nat, u57 = .int .i64 j ∧ j ≤ t ∧ Hid (Upd [] wr wx ∧ Ow ClE 31 wx w1.heap.size u12 (tkC j) ∧ ∀ b, u12.ownBlock = some b → wr.heap.size ≤ b)) (fun _ u _ => t - (intOf u).toNat)
        case atStart => exact ⟨0, rfl, by omega, Lib.hid ⟨.refl _ _, Ow.nil _ _ _ _, by simp [Value.ownBlock]⟩⟩
        case round =>
          obtain ⟨j, rfl, hj, KX⟩ := hrel
          rename World => wx
          by_cases hlt : j < t
          · have hji : (j : Int) < t := by omega
            have HJ := Lib.hid hlt
            clear hj hlt
            go_wp2_with (at_builtin; refine stoppedM ?_)
            refine Lib.hid ?_
            have hh : (tkC j).length = j := by simp [tkC]
            refine wpList_app _ (by rfl) (.tmp 59) (.tmp 61) _ (by rfl) call_elem u12 _ (by rfl) (by rfl) (KX.out.2.1.upd0 ((Upd.refl [] wx).alloc _)) (.of_blk (Blk.new wx _ _) (m := 1) 1 rfl) (flat_cells (E := ClE) (L := [⟨2, 0, 0, 0, 0⟩])) (by have := HN.out; have := HJ.out; simp only [maxLen, hh]; omega) (by have := HN.out; have := HJ.out; rw [hh]; omega) (by have := (KL.out.up.trans KX.out.1).size; simp; omega) ?_
            intro v5 w5 o5 u5 b5
            have X5 : Hid (Upd [] wr w5 ∧ Ow ClE 31 w5 w1.heap.size v5 (tkC (j + 1)) ∧ ∀ b, v5.ownBlock = some b → wr.heap.size ≤ b) := Lib.hid (by
              refine ⟨(KX.out.1.alloc _).trans' u5 (fun x hx => .inr (KX.out.2.2 x (by simpa using hx))), ?_, fun b hb => ?_⟩
              · unfold Ow
                rw [show tkC (j + 1) = tkC j ++ [⟨2, 0, 0, 0, 0⟩] from List.replicate_succ', flat_append, List.length_append]
                exact o5
              · rcases b5 with b5 | b5
                · exact KX.out.2.2 b (b5 ▸ hb)
                · rw [b5] at hb
                  injection hb with hb
                  have := KX.out.1.size
                  simp at hb
                  omega)
            clear o5 u5 b5 hh
            go_wp2_with fail
            go_round
            case rel => exact ⟨j + 1, by simp, by have := HJ.out; omega, X5⟩
            case measure => have := HJ.out; simp [intOf]; omega
          · have hji : ¬ ((j : Int) < t) := by omega
            have hjt : j = t := by omega
            have hh : (tkC t).length = t := by simp [tkC]
            have K := KX.out
            rw [hjt] at K
            obtain ⟨Ax, nx, hax, _, _⟩ := K.2.1.form
            rw [hh] at hax
            have XX := Lib.hid K
            subst hax
            clear hj hlt hh K
            go_wp2_with (at_builtin; refine stoppedM ?_)
            refine Lib.hid ?_
            have hrl : (List.replicate i (tkC t)).length = i := by simp
            have hL := (KL.out.upd0 XX.out.1)
            refine wpList_app _ (by rfl) (.tmp 64) (.tmp 66) _ (by rfl) calls_elem u10 _ (by rfl) (by rfl) (hL.upd0 ((Upd.refl [] wx).alloc _)).ow (.of_blk (Blk.new wx _ _) (m := 1) 1 rfl) (by intro u hu; simp at hu; subst hu; rfl) (by have := HN.out; have := HI.out; simp only [maxLen, hrl]; omega) (by have := HN.out; have := HI.out; rw [hrl]; omega) (by have := hL.up.size; simp; omega) ?_
            intro v5 w5 o5 u5 b5
            have L5 : Hid (Lst w1 w5 v5 (List.replicate (i + 1) (tkC t)) (svs ++ [.slice Ax t nx])) := Lib.hid (by
              rw [List.replicate_succ']
              exact (hL.upd0 ((Upd.refl [] wx).alloc _)).add (XX.out.2.1.upd0 ((Upd.refl [] wx).alloc _)) o5 u5)
            clear o5 u5 b5 hrl hL
            go_wp2_with fail
            go_round
            case rel => exact ⟨i + 1, _, by simp, by have := HI.out; omega, L5⟩
            case measure => have := HI.out; simp [intOf]; omega
      · have hii : ¬ ((i : Int) < n) := by omega
        have hin : i = n := by omega
        subst hin
        clear hi hlt
        have hN : i * t ≤ 24 := Nat.le_trans (Nat.mul_le_mul HN.out.2.1 HN.out.2.2) (by decide)
        obtain ⟨as_, s, hw, hal, hsx, hsl, htk⟩ := ticks_whole (n := i) (t := t) (by omega) (by have := HN.out; omega) (ps.map (pickI i))
        obtain ⟨g1, g2, g3⟩ := tk_sgo i t
        have hlen : (List.replicate i (tkC t)).length = i := by simp
        have hbm : ((List.replicate i (tkC t)).map fun cs => bodyT 1 3 cs []) = List.replicate i (bodyT 1 3 (List.replicate t ⟨2, 0, 0, 0, 0⟩) []) := by rw [List.map_replicate]; rfl
        have HRUN : Hid (Calls Tryd.prog 9 #[.pointer (some ⟨F.b0, 0, none⟩), .int .u64 1, .slice (some ⟨kb, 0, none⟩) 1 1, u10, .slice A np cp] wr fun e w' => ∃ av, e = .returned (.tuple #[av, .bool true]) ∧ RunP as_ F (B1 (s.length : Nat) 0 10) kb 3 (callB kb svs) wr av w') := Lib.hid (by
          have := run_lst (Good := fun x => ∃ s, Th.Sys (IK i t) RK (tkQQ t) (17 * t) x s) kb (List.replicate i (tkC t)) svs ps as_ u10 (.slice A np cp) w1 wr H1.out KL.out (by rw [hlen]; have := HN.out; omega) (by
            intro cs hcs
            have hcs := (List.mem_replicate.1 hcs).2
            subst hcs
            exact ⟨by simp [tkC]; have := HN.out; omega, fun x hx => by rw [(List.mem_replicate.1 hx).2]; simp [OkC]⟩) H2.out H4.out.2.2 (fun W hW => by
            rw [HNP.out]
            exact HP.out.upd0 (H3.out.trans' hW (fun x hx => .inr (by
              rcases List.mem_append.1 hx with hx | hx
              · exact H4.out.1 x hx
              · rcases List.mem_cons.1 hx with rfl | hx
                · exact H4.out.2.1
                · have := (KL.out.lt x hx).1; have := H3.out.size; omega)))) (by rw [HNP.out]; exact HL.out) ⟨fun x k h => g1 x k h, fun x i t a h ht hp hb => hb (g2 x i t a h ht hp), fun x h => g3 x h⟩ (tk_good (by omega)) (by rw [hlen]; exact hal) (fun k u hu => by
            rw [hbm, hlen] at hu
            rw [show B1 0 0 10 = BN 1 from rfl] at hw
            rw [hw] at hu
            simp only [List.getElem?_map, Option.map_eq_some_iff] at hu
            obtain ⟨q, hq, rfl⟩ := hu
            exact ⟨q, hq, rfl⟩)
          rw [hbm, hlen] at this
          rw [show B1 0 0 10 = BN 1 from rfl] at hw
          rw [hw] at this
          exact this)
        obtain ⟨hnd, hsum, hrng⟩ := ticks_all hal hsx htk
        have HT : Hid (as_.length = i ∧ (∀ (k : Nat) a, as_[k]? = some a → tkOk k s a) ∧ (as_.flatMap succL).Nodup ∧ (as_.flatMap succL).length = s.length ∧ (∀ m ∈ as_.flatMap succL, 1 ≤ m ∧ m ≤ s.length) ∧ s.length ≤ i * t) := Lib.hid ⟨hal, htk, hnd, hsum, hrng, hsl⟩
        obtain ⟨N, hNN⟩ : ∃ N : Nat, N = i * t := ⟨_, rfl⟩
        have HNN : Hid (N = i * t ∧ N ≤ 24) := Lib.hid ⟨hNN, by omega⟩
        have hmul : (i : Int) * t = N := by rw [hNN]; simp
        have hN24 : (0 : Int) ≤ N ∧ (N : Int) ≤ 24 := by omega
        clear hw g1 g2 g3 hlen hbm hal hsx hsl htk hnd hsum hrng hN hNN
        go_wp2_with fail
        refine HRUN.out.mono ?_
        rintro e w2 ⟨rv, rfl, F', vs, q1, q2, q3, q4, q5, q6, q7, q8, q9⟩
        have U2 : Hid (Upd [] w w2) := Lib.hid ((H3.out.trans KL.out.up).trans' q3 (fun x hx => .inr (by
          rcases List.mem_append.1 hx with hx | hx
          · exact H4.out.1 x hx
          · rcases List.mem_cons.1 hx with rfl | hx
            · exact H4.out.2.1
            · have := (KL.out.lt x hx).1; have := H3.out.size; omega)))
        have Q : Hid (BSt w2 F' (B1 (s.length : Nat) 0 10) ∧ F'.b0 = F.b0 ∧ (∀ x ∈ F'.l, w.heap.size ≤ x) ∧ kb ∉ F'.l ∧ Blk w2 kb 24 #[.int .u64 3]) := Lib.hid ⟨q1, q2, fun x hx => by
          rcases q4 x hx with hx | hx
          · rcases List.mem_append.1 hx with hx | hx
            · exact H4.out.1 x hx
            · rcases List.mem_cons.1 hx with rfl | hx
              · exact H4.out.2.1
              · have := (KL.out.lt x hx).1; have := H3.out.size; omega
          · have := H3.out.size; have := KL.out.up.size; omega, q5, q6⟩
        rw [HT.out.1] at q7 q8
        have QV : Hid (vs.length = i ∧ ∀ (k : Nat) v a, vs[k]? = some v → as_[k]? = some a → Ow AnE 38 w2 0 v a) := Lib.hid ⟨q8, q9⟩
        obtain ⟨g0, c0, rfl⟩ : ∃ g cap, rv = .slice (some ⟨g, 0, none⟩) i cap := by
          obtain ⟨g, cap, _, e, _⟩ := own_form q7 (by have := HN.out; omega)
          exact ⟨g, cap, e⟩
        have QO := Lib.hid q7
        clear q1 q2 q3 q4 q5 q6 q7 q8 q9
        obtain ⟨i0, hi0, hz0, hz1, hz2⟩ := info_parts int_info
        have hmk : ∀ W : World, (Instr.makeSlice 22 (.int .i64 ((N : Int) + 1)) (.int .i64 ((N : Int) + 1))).run Tryd.prog W = .ok (.slice (some ⟨W.heap.size, 0, none⟩) (N + 1) (N + 1)) (W.alloc (.cells (madeCells #[Value.int .i64 0] (N + 1)) 3)) := fun W => by
          have h := run_make (P := Tryd.prog) W 22 3 i0 _ Tryd.underlying22 hi0 hz0 .i64 .i64 ((N : Int) + 1) ((N : Int) + 1) (by omega) (by omega) (by rw [hz2]; omega) (by omega)
          rw [hz1, show ((N : Int) + 1).toNat = N + 1 by omega] at h
          simpa [Value.cells] using h
        clear hi0 hz0 hz1 hz2
        obtain ⟨q, hq⟩ : ∃ q, q = w2.heap.size := ⟨_, rfl⟩
        have HQ := Lib.hid hq
        go_upto_region 20 with fail
        obtain ⟨w3, hw3⟩ : ∃ w3, w3 = w2.alloc (Obj.cells (madeCells #[Value.int .i64 0] (N + 1)) 3) := ⟨_, rfl⟩
        have M3 : Hid (w3.ownsRow q 3 1 (.slice (some ⟨q, 0, none⟩) (N + 1) (N + 1)) (N + 1) ((metL N []).map (Value.int .i64))) := Lib.hid (by rw [hw3, metL_nil, hq]; exact own_madeMet w2 _ (N + 1) (Nat.le_refl _) (by omega))
        have U3 : Hid (Upd [] w2 w3) := Lib.hid (by rw [hw3]; exact (Upd.refl _ _).alloc _)
        have S3 : Hid (q < w3.heap.size) := Lib.hid (by rw [hw3, hq]; simp)
        rw [← hw3, ← hq]
        clear hw3 hq hmk
        go_wp2_with fail
        go_loopw [16, 18, 19, 21, 86, 92] (fun u16 u18 u19 u21 u86 u92 wx => ∃ k : Nat, u86 = .int .i64 k ∧ k ≤ i ∧ u16 = .int .i64 (((as_.take k).flatMap succL).length : Nat) ∧ Hid (wx.ownsRow q 3 1 (.slice (some ⟨q, 0, none⟩) (N + 1) (N + 1)) (N + 1) ((metL N ((as_.take k).flatMap succL)).map (Value.int .i64))) ∧ Hid (Upd [q] w3 wx)) (fun _ _ _ _ u _ _ => i - (intOf u).toNat)
        case atStart => exact ⟨0, rfl, by omega, by simp, by simpa using M3, Lib.hid (.refl _ _)⟩
        case round =>
          obtain ⟨k, rfl, hk, rfl, M4, U4⟩ := hrel
          rename World => wx
          by_cases hlt : k < i
          · have hki : (k : Int) < i := by omega
            obtain ⟨v0, hv0⟩ : ∃ v, vs[k]? = some v := ⟨_, List.getElem?_eq_getElem (by rw [QV.out.1]; exact hlt)⟩
            obtain ⟨a, ha⟩ : ∃ a, as_[k]? = some a := ⟨_, List.getElem?_eq_getElem (by rw [HT.out.1]; exact hlt)⟩
            have hov := QV.out.2 k v0 a hv0 ha
            obtain ⟨Av, ca, hvf, hca, hcm⟩ := hov.form
            have UW : Upd [] w2 wx := U3.out.trans' U4.out (fun x hx => .inr (by have := HQ.out; simp at hx; omega))
            have QO4 := own_upd0 QO.out UW
            have ce := own_cell QO4 k _ hv0
            have HOV := Lib.hid (hvf ▸ hov)
            have HA := Lib.hid ha
            obtain ⟨na, hna⟩ : ∃ na, na = a.length := ⟨_, rfl⟩
            rw [← hna] at hvf hca
            subst hvf
            have hnm : (na : Int) ≤ 9223372036854775807 := by simp only [maxLen] at hcm; omega
            have HNA := Lib.hid hna
            have HK := Lib.hid hlt
            obtain ⟨P, hP⟩ : ∃ P, P = (as_.take k).flatMap succL := ⟨_, rfl⟩
            have HP' := Lib.hid hP
            rw [← hP] at M4 ⊢
            clear hP hk hlt hv0 hov ha hna UW QO4 hca hcm
            go_wp2_with fail
            go_loopw [16, 19, 21, 92] (fun u16 u19 u21 u92 wy => ∃ j : Nat, u92 = .int .i64 j ∧ j ≤ na ∧ u19 = .int .i64 (wasL (a.take j)) ∧ u16 = .int .i64 ((P ++ succL (a.take j)).length : Nat) ∧ Hid (wy.ownsRow q 3 1 (.slice (some ⟨q, 0, none⟩) (N + 1) (N + 1)) (N + 1) ((metL N (P ++ succL (a.take j))).map (Value.int .i64))) ∧ Hid (Upd [q] w3 wy)) (fun _ _ _ u _ => na - (intOf u).toNat)
            case atStart => exact ⟨0, rfl, by omega, rfl, by simp [succL], by simpa [succL] using M4, U4⟩
            case round =>
              obtain ⟨j, rfl, hj, rfl, rfl, M5, U5⟩ := hrel
              rename World => wy
              by_cases hlt : j < na
              · have hjn : (j : Int) < na := by omega
                obtain ⟨⟨x1, x2, x3⟩, hx⟩ : ∃ x, a[j]? = some x := ⟨_, List.getElem?_eq_getElem (by rw [← HNA.out]; exact hlt)⟩
                obtain ⟨ga, cb, _, hv, _⟩ := own_form HOV.out (by rw [← HNA.out]; omega)
                injection hv with hv1 hv2 hv3
                subst hv1
                have hov : Ow AnE 38 wy 0 (.slice (some ⟨ga, 0, none⟩) a.length ca) a := HOV.out.upd0 (U3.out.trans' U5.out (fun x hx => .inr (by have := HQ.out; simp at hx; omega)))
                have c1 : wy.cell? ⟨ga, j * 3, none⟩ = some (.int .i64 x1) := hov.at_ hx 0 _ rfl
                have c2 : wy.cell? ⟨ga, j * 3 + 1, none⟩ = some (.int .u64 x2) := hov.at_ hx 1 _ rfl
                have c3 : wy.cell? ⟨ga, j * 3 + 2, none⟩ = some (.int .i64 x3) := hov.at_ hx 2 _ rfl
                have gal : ga < wy.heap.size := (own_lt hov (b := ga) rfl).2
                have hql : q < wy.heap.size := Nat.lt_of_lt_of_le S3.out U5.out.size
                have htk := HT.out.2.1 k a HA.out
                have hsp : a = a.take j ++ ⟨x1, x2, x3⟩ :: a.drop (j + 1) := by
                  obtain ⟨hl', he⟩ := List.getElem?_eq_some_iff.1 hx
                  rw [← he, List.getElem_cons_drop, List.take_append_drop]
                have htk1 : a.take (j + 1) = a.take j ++ [⟨x1, x2, x3⟩] := by rw [List.take_add_one, hx]; rfl
                have hwn : x1 = 0 → wasL (a.take j) < x3 := fun h0 => was_next (a := ⟨x1, x2, x3⟩) (hsp ▸ htk) h0
                have hwz : wasL (a.take (j + 1)) = if x1 = 0 then x3 else wasL (a.take j) := by rw [htk1, was_snoc]
                have hsz : P ++ succL (a.take (j + 1)) = if x1 = 0 then (P ++ succL (a.take j)) ++ [x3] else P ++ succL (a.take j) := by
                  rw [htk1, succL_append, succL_one]
                  by_cases h0 : x1 = 0
                  · simp [h0]
                  · simp [h0]
                have hpre : ∃ r, as_.flatMap succL = (P ++ succL (a.take (j + 1))) ++ r := by
                  obtain ⟨hl', he⟩ := List.getElem?_eq_some_iff.1 HA.out
                  refine ⟨succL (a.drop (j + 1)) ++ (as_.drop (k + 1)).flatMap succL, ?_⟩
                  conv => lhs; rw [← List.take_append_drop k as_, ← List.getElem_cons_drop hl', he, List.flatMap_append, ← HP'.out, List.flatMap_cons]
                  conv => lhs; rw [← List.take_append_drop (j + 1) a]
                  rw [succL_append]
                  simp
                have hall := HT.out.2.2.2.2.1
                have hlen : (P ++ succL (a.take (j + 1))).length ≤ 24 := by
                  obtain ⟨r, hr⟩ := hpre
                  have := congrArg List.length hr
                  rw [HT.out.2.2.2.1, List.length_append] at this
                  have := HT.out.2.2.2.2.2
                  have := HNN.out
                  omega
                have hmem : ∀ m ∈ P ++ succL (a.take (j + 1)), (1 : Int) ≤ m ∧ m ≤ N := fun m hm => by
                  obtain ⟨r, hr⟩ := hpre
                  have := hall m (by rw [hr]; exact List.mem_append_left _ hm)
                  have := HT.out.2.2.2.2.2
                  have := HNN.out
                  omega
                have herr : x1 = 12 ∨ x1 = 0 := by
                  rcases htk.1 ⟨x1, x2, x3⟩ (by rw [hsp]; simp) with h | ⟨h, _⟩
                  · exact .inl h
                  · exact .inr h
                have HJ := Lib.hid hlt
                rcases herr with h0 | h0
                · subst h0
                  rw [if_neg (by decide)] at hwz hsz
                  have HW := Lib.hid hwz
                  have HS := Lib.hid hsz
                  clear hj hlt hx hov htk hsp htk1 hwn hwz hsz hpre hall hlen hmem
                  go_wp2_with fail
                  go_round
                  case rel => exact ⟨j + 1, by simp, by have := HJ.out; omega, by rw [HW.out], by rw [HS.out], by rw [HS.out]; exact Lib.hid (own_upd0 M5.out ((Upd.refl _ _).alloc _)), Lib.hid (U5.out.alloc _)⟩
                  case measure => have := HJ.out; simp [intOf]; omega
                · subst h0
                  rw [if_pos rfl] at hwz hsz
                  rw [hsz] at hlen hmem
                  have hw := hwn rfl
                  obtain ⟨m, rfl⟩ : ∃ m : Nat, x3 = m := ⟨x3.toNat, by have := hmem x3 (by simp); omega⟩
                  have hm1 : (1 : Int) ≤ m ∧ (m : Int) ≤ N := hmem m (by simp)
                  generalize wasL (a.take j) = ws at hw ⊢
                  have hwl : ¬ ((m : Int) ≤ ws) := by omega
                  obtain ⟨T, hT⟩ : ∃ T, T = P ++ succL (a.take j) := ⟨_, rfl⟩
                  rw [← hT] at M5 hsz hlen ⊢
                  rw [List.length_append] at hlen
                  obtain ⟨d, hd⟩ : ∃ d, d = T.length := ⟨_, rfl⟩
                  have hd3 : (d : Int) ≤ 24 := by simp at hlen; omega
                  rw [← hd]
                  obtain ⟨c, hc⟩ : ∃ c, c = T.count (m : Int) := ⟨_, rfl⟩
                  have hc3 : (c : Int) ≤ 24 := by have := List.count_le_length (a := (m : Int)) (l := T); omega
                  have f2 : wy.cell? ⟨q, m, none⟩ = some (.int .i64 c) := own_cell M5.out m _ (by rw [List.getElem?_map, metL_get (by omega), hc]; rfl)
                  have f3 : wy.frozen? ⟨q, m, none⟩ = false := own_frozen M5.out m
                  have k0 : decide ((m : Int) < 0) = false := by simp
                  have k1 : decide (N + 1 ≤ m) = false := by simp; omega
                  have HW := Lib.hid hwz
                  have HS := Lib.hid hsz
                  have HT2 : Hid (d = T.length ∧ c = T.count (m : Int) ∧ m ≤ N) := Lib.hid ⟨hd, hc, by omega⟩
                  have hdk : ¬ ((m : Int) > N) := by omega
                  clear hj hlt hx hov htk hsp htk1 hwn hwz hsz hpre hall hlen hmem hT hd hc hw
                  go_wp2_with fail
                  go_round
                  case rel => exact ⟨j + 1, by simp, by have := HJ.out; omega, by rw [HW.out], by rw [HS.out, List.length_append, ← HT2.out.1]; simp, by rw [HS.out, metL_put HT2.out.2.2, ← HT2.out.2.1, List.map_set]; exact Lib.hid (own_upd0 (own_set M5.out m _) ((Upd.refl _ _).alloc _)), Lib.hid ((U5.out.setCell (.inl (by simp)) _).alloc _)⟩
                  case measure => have := HJ.out; simp [intOf]; omega
              · have hjn : ¬ ((j : Int) < na) := by omega
                have hjj : j = na := by omega
                subst hjj
                rw [List.take_of_length_le (by rw [HNA.out]; exact Nat.le_refl _)] at M5 ⊢
                have hfl : P ++ succL a = (as_.take (k + 1)).flatMap succL := by
                  rw [List.take_add_one, HA.out, List.flatMap_append, ← HP'.out]
                  simp
                rw [hfl] at M5 ⊢
                clear hj hlt hfl
                go_wp2_with fail
                go_round
                case rel => exact ⟨k + 1, by simp, by have := HK.out; omega, rfl, M5, U5⟩
                case measure => have := HK.out; simp [intOf]; omega
          · have hki : ¬ ((k : Int) < i) := by omega
            have hkk : k = i := by omega
            subst hkk
            rw [List.take_of_length_le (by rw [HT.out.1]; exact Nat.le_refl _), HT.out.2.2.2.1] at ⊢
            rw [List.take_of_length_le (by rw [HT.out.1]; exact Nat.le_refl _)] at M4
            have UW : Hid (Upd [] w2 wx) := Lib.hid (U3.out.trans' U4.out (fun x hx => .inr (by have := HQ.out; simp at hx; omega)))
            obtain ⟨d, hd⟩ : ∃ d, d = s.length := ⟨_, rfl⟩
            rw [← hd]
            have HD : Hid (d = s.length ∧ d ≤ 24) := Lib.hid ⟨hd, by have := HT.out.2.2.2.2.2; have := HNN.out; omega⟩
            have hd3 : (d : Int) ≤ 24 := by have := HD.out; omega
            clear hk hlt hd
            go_wp2_with fail
            go_loopw [23, 131] (fun u23 u131 wy => ∃ j : Nat, u131 = .int .i64 j ∧ j ≤ N + 1 ∧ wy = wx) (fun _ u _ => N + 1 - (intOf u).toNat)
            case atStart => exact ⟨0, rfl, by omega, rfl⟩
            case round =>
              obtain ⟨j, rfl, hj, rfl⟩ := hrel
              rename World => wy
              by_cases hlt : j < N + 1
              · have hjn : (j : Int) < (N : Int) + 1 := by omega
                obtain ⟨c, hc⟩ : ∃ c, c = (as_.flatMap succL).count (j : Int) := ⟨_, rfl⟩
                have hc1 : c ≤ 1 := hc ▸ List.nodup_iff_count.1 HT.out.2.2.1 _
                have f2 : wy.cell? ⟨q, j, none⟩ = some (.int .i64 c) := own_cell M4.out j _ (by rw [List.getElem?_map, metL_get (by omega), hc]; rfl)
                have hc2 : ¬ ((c : Int) > 1) := by omega
                have HJ := Lib.hid hlt
                clear hj hlt hc
                go_wp2_with fail
                go_round
                case rel => exact ⟨j + 1, by simp, by have := HJ.out; omega, by trivial⟩
                case measure => have := HJ.out; simp [intOf]; omega
              · have hjn : ¬ ((j : Int) < (N : Int) + 1) := by omega
                clear hj hlt
                go_wp2_with fail
                rw [← Q.out.2.1]
                obtain ⟨wz, hwz⟩ : ∃ wz, wz = wy.alloc (Obj.cells #[.int .i64 1, .int .i64 0, .int .i64 0, .int .i64 0, .int .u64 0] 31) := ⟨_, rfl⟩
                have UYY : Hid (Upd [] wy wz) := Lib.hid (by rw [hwz]; exact (Upd.refl _ _).alloc _)
                have SY : Hid (wz.heap.size = wy.heap.size + 1) := Lib.hid (by rw [hwz]; simp)
                have CY : Hid (Ow ClE 31 wz 0 (.slice (some ⟨wy.heap.size, 0, none⟩) 1 1) [⟨1, 0, 0, 0, 0⟩]) := Lib.hid (by rw [hwz]; exact ow_lit (Blk.new _ _ _) rfl rfl (by simp [maxLen]))
                rw [← hwz]
                clear hwz
                have ul : Upd [] wz (wz.alloc (Obj.cells #[.slice (some ⟨wy.heap.size, 0, none⟩) 1 1] 32)) := (Upd.refl _ _).alloc _
                have QB := Q.out.1.upd UW.out (by simp)
                have hFl : ∀ x ∈ F'.l, x < wy.heap.size := QB.lt
                obtain ⟨m, B', hex⟩ := last_exec (d := d) (by have := HD.out; omega)
                rw [← HD.out.1] at QB
                refine (run1_ok kb (wy.heap.size + 1) m [⟨1, 0, 0, 0, 0⟩] _ [⟨0, 0, (d : Int)⟩] _ (QB.upd (UYY.out.trans ul) (by simp)) (CY.out.upd0 ul) (Blk.newAt _ _ SY.out) ((Q.out.2.2.2.2.upd UW.out (by simp)).upd (UYY.out.trans ul) (by simp)) Q.out.2.2.2.1 (fun b hb hm => by simp [Value.ownBlock] at hb; subst hb; have := hFl _ hm; omega) (fun hm => by have := hFl _ hm; omega) (by simp [OkC]) (show ∀ q ∈ [(1, 1), (3, 2)], q ∈ [(1, 1), (3, 2)] by simp) hex (by unfold Fine; simp)).mono ?_
                rintro e we ⟨rv, rfl, F2, vs2, q1, q2, q3, q4, q5, q6, q7, q8, q9⟩
                obtain ⟨v0, rfl⟩ : ∃ v0, vs2 = [v0] := by
                  match vs2, q8 with
                  | [v0], _ => exact ⟨v0, rfl⟩
                have VE := Lib.hid (q9 0 v0 _ rfl rfl).rd
                have UE : Hid (Upd [] w we) := Lib.hid (((U2.out.trans UW.out).trans (UYY.out.trans ul)).trans' q3 (fun x hx => .inr (by
                  have hsz := (U2.out.trans UW.out).size
                  simp only [callB, List.mem_append, List.mem_cons, List.flatMap_cons, List.flatMap_nil, List.append_nil] at hx
                  rcases hx with hx | rfl | hx
                  · exact Q.out.2.2.1 x hx
                  · exact H4.out.2.1
                  · simp [Value.ownBlock] at hx; omega)))
                obtain ⟨g1, c1, rfl⟩ : ∃ g cap, rv = .slice (some ⟨g, 0, none⟩) 1 cap := by
                  obtain ⟨g, cap, _, e, _⟩ := own_form q7 (by simp)
                  exact ⟨g, cap, e⟩
                have c0 : we.cell? ⟨g1, 0, none⟩ = some v0 := own_cell q7 0 v0 rfl
                have g0l : g1 < we.heap.size := (own_lt q7 (b := g1) rfl).2
                clear q1 q2 q3 q4 q5 q6 q7 q8 q9 ul hFl hex QB
                go_wp2_with fail
                refine (asame_ok [⟨0, 0, (d : Int)⟩] _ _ _ (VE.out.upd0 ((Upd.refl [] _).alloc _)) (ow_lit (n := 1) (Blk.new we _ _) rfl rfl (by simp [maxLen])).rd (by simp)).mono ?_
                rintro e wf ⟨rfl, uf⟩
                have UF := Lib.hid (UE.out.trans (((Upd.refl _ _).alloc _).trans uf))
                clear uf
                go_wp2_with fail
                refine (malive_ok wf).mono ?_
                rintro e wg ⟨rfl, ug⟩
                have UG := Lib.hid (UF.out.trans ug)
                clear ug
                go_wp2_with fail
                go_ret
                exact ⟨rfl, UG.out⟩
end Go.Proofs.YtkldpdldjalpeaaDoor

namespace Go.Proofs.YtkldpdldjalpeaaDoor.Th

/-- How far all writers are: three steps each: locked, its value there, its version there. -/
def wW (g : Nat) : Int := if g % 3 = 0 then pk ⟨(g / 3 : Nat), 0, false, false⟩ else pk ⟨(g / 3 : Nat), (g / 3 : Nat) + 1, true, false⟩
def vlN (v : Nat) : Int := if v = 0 then 10 else 100 * v
def vW (g : Nat) : Int := if g % 3 = 2 then vlN (g / 3 + 1) else vlN (g / 3)
def IW (m : Nat) (g : Nat) (B : BS) : Prop := B = B1 0 (wW g) (vW g) ∧ g ≤ 3 * m
def RW (i : Nat) (g g' : Nat) : Prop := g ≤ g' ∧ (g / 3 = i ∧ g % 3 ≠ 0 → g' = g)
theorem rw_refl (i g : Nat) : RW i g g := ⟨Nat.le_refl _, fun _ => rfl⟩
theorem rw_trans (i g g' g'' : Nat) (h : RW i g g') (k : RW i g' g'') : RW i g g'' :=
  ⟨Nat.le_trans h.1 k.1, fun e => by have := h.2 e; subst this; exact k.2 e⟩
theorem wW_un {g : Nat} (h : g ≤ 9) : unp (wW g) = if g % 3 = 0 then ⟨(g / 3 : Nat), 0, false, false⟩ else ⟨(g / 3 : Nat), (g / 3 : Nat) + 1, true, false⟩ := by
  unfold wW
  split
  · exact unp_pk ⟨by simp only; omega, by simp only; omega, by simp, by simp⟩
  · exact unp_pk ⟨by simp only; omega, by simp only; omega, by simp only; omega, by simp only; omega⟩
theorem wW_inj {g g' : Nat} (h : g ≤ 9) (h' : g' ≤ 9) (e : wW g = wW g') (h0 : g % 3 = 0) : g' % 3 = 0 ∧ g / 3 = g' / 3 := by
  have h1 := wW_un h
  have h2 := wW_un h'
  rw [e, h2, if_pos h0] at h1
  by_cases h3 : g' % 3 = 0
  · rw [if_pos h3] at h1
    injection h1 with h1
    exact ⟨h3, by omega⟩
  · rw [if_neg h3] at h1
    injection h1 with _ _ h1
    cases h1

/-! The writer. -/
def lockQ (i : Nat) (a : An) (g : Nat) : Prop := (a.err = 0 ∧ g = 3 * i + 1) ∨ a.err = 12
theorem wr_lock {m i : Nat} (hm : m ≤ 3) (hi : i < m) : ∀ n g, Safe (IW m) RW i (lockQ i) (turnT 3 i (lockTo ((i + 1 : Nat) : Int)) n) g
  | 0, g => .inr rfl
  | n + 1, g => by
    rintro g1 hr1 B ⟨rfl, hg1⟩
    refine ⟨g1, fun _ _ => rw_refl _ _, ⟨rfl, hg1⟩, ?_⟩
    rw [b1_load_meta]
    simp only
    have hu := wW_un (g := g1) (by omega)
    by_cases hc : (unp (wW g1)).ch = true ∨ (unp (wW g1)).ver ≠ (i : Int)
    · rw [if_pos hc]; exact .inr rfl
    · rw [if_neg hc]
      have h0 : g1 % 3 = 0 ∧ g1 / 3 = i := by
        rw [hu] at hc
        split at hc
        · next h => exact ⟨h, by simp at hc; omega⟩
        · simp at hc
      have hu' : unp (wW g1) = ⟨(i : Nat), 0, false, false⟩ := by rw [hu, if_pos h0.1, h0.2]
      have hne : ¬ (lockTo ((i + 1 : Nat) : Int) (unp (wW g1)) = unp (wW g1)) := by rw [hu']; simp [lockTo]
      rw [if_neg hne]
      have hpk : pk (unp (wW g1)) = wW g1 := by
        rw [hu']; unfold wW; rw [if_pos h0.1, h0.2]
      have hto : pk (lockTo ((i + 1 : Nat) : Int) (unp (wW g1))) = wW (g1 + 1) := by
        rw [hu']
        unfold wW lockTo
        rw [if_neg (by omega), show (g1 + 1) / 3 = i by omega]
        rfl
      rw [hpk, hto]
      rintro g2 hr2 B ⟨rfl, hg2⟩
      by_cases he : wW g2 = wW g1
      · have hg : g2 = g1 := by
          have := wW_inj (g := g1) (g' := g2) (by omega) (by omega) he.symm h0.1
          omega
        subst hg
        refine ⟨g2 + 1, fun j hj => ⟨by omega, fun e => by omega⟩, ⟨?_, by omega⟩, ?_⟩
        · rw [b1_cas_meta, if_pos he]
          unfold vW
          rw [if_neg (by omega), if_neg (by omega), show (g2 + 1) / 3 = g2 / 3 by omega]
        · rw [b1_cas_meta]
          simp only [he, beq_self_eq_true, if_true]
          exact .inl ⟨rfl, by omega⟩
      · refine ⟨g2, fun _ _ => rw_refl _ _, ⟨?_, hg2⟩, ?_⟩
        · rw [b1_cas_meta, if_neg he]
        · rw [b1_cas_meta]
          have : (wW g2 == wW g1) = false := by simpa using he
          simp only [this, Bool.false_eq_true, if_false]
          exact wr_lock hm hi n g2
theorem wr_commit {m i : Nat} (hm : m ≤ 3) (hi : i < m) : Safe (IW m) RW i (fun a _ => a.err = 0) (commitT 3 ((100 * (i + 1) : Nat) : Int) ((i + 1 : Nat) : Int)) (3 * i + 1) := by
  rintro g1 hr1 B ⟨rfl, hg1⟩
  have := hr1.2 ⟨by omega, by omega⟩
  subst this
  refine ⟨3 * i + 1, fun _ _ => rw_refl _ _, ⟨rfl, hg1⟩, ?_⟩
  rw [b1_load_meta]
  have hu := wW_un (g := 3 * i + 1) (by omega)
  rw [if_neg (by omega)] at hu
  simp only [hu, Bool.true_eq_false, if_false]
  rintro g2 hr2 B ⟨rfl, hg2⟩
  have := hr2.2 ⟨by omega, by omega⟩
  subst this
  refine ⟨3 * i + 2, fun j hj => ⟨by omega, fun e => by omega⟩, ⟨?_, by omega⟩, ?_⟩
  · rw [b1_store_val]
    have h1 : wW (3 * i + 2) = wW (3 * i + 1) := by
      unfold wW
      rw [if_neg (by omega), if_neg (by omega), show (3 * i + 2) / 3 = (3 * i + 1) / 3 by omega]
    have h2 : vW (3 * i + 2) = ((100 * (i + 1) : Nat) : Int) := by
      unfold vW vlN
      rw [if_pos (by omega), show (3 * i + 2) / 3 = i by omega, if_neg (by omega)]
      omega
    rw [h1, h2]
  · rintro g3 hr3 B ⟨rfl, hg3⟩
    have := hr3.2 ⟨by omega, by omega⟩
    subst this
    refine ⟨3 * i + 3, fun j hj => ⟨by omega, fun e => by omega⟩, ⟨?_, by omega⟩, rfl⟩
    rw [b1_store_meta]
    have h1 : wW (3 * i + 3) = pk ⟨((i + 1 : Nat) : Int), 0, false, false⟩ := by
      unfold wW
      rw [if_pos (by omega), show (3 * i + 3) / 3 = i + 1 by omega]
    have h2 : vW (3 * i + 3) = vW (3 * i + 2) := by
      unfold vW
      rw [if_neg (by omega), if_pos (by omega), show (3 * i + 3) / 3 = (3 * i + 2) / 3 + 1 by omega]
    rw [h1, h2]
def wrC (i : Nat) : List Cl := [⟨5, 0, i, (i + 1 : Nat), 0⟩, ⟨9, 0, 0, 0, 0⟩, ⟨6, 0, (i + 1 : Nat), 0, (100 * (i + 1) : Nat)⟩]
theorem wr_safe {m i : Nat} (hm : m ≤ 3) (hi : i < m) : Safe (IW m) RW i (fun l _ => Fine l) (bodyT 1 3 (wrC i) []) 0 := by
  unfold wrC bodyT
  rw [if_neg (by simp)]
  refine Safe.bind (Q := lockQ i) (wr_lock hm hi 8 0) ?_
  rintro a g h
  rw [if_neg (by rcases h with ⟨h, _⟩ | h <;> omega)]
  unfold bodyT
  rcases h with ⟨h, rfl⟩ | h
  · rw [if_neg (by simp [h])]
    show Safe _ _ _ _ (bodyT 1 3 [⟨6, 0, (i + 1 : Nat), 0, (100 * (i + 1) : Nat)⟩] _) _
    unfold bodyT
    rw [if_neg (by simp)]
    have hf : Fine (([] : List An) ++ [a] ++ [⟨0, 0, 0⟩]) := by intro b hb; simp at hb; rcases hb with rfl | rfl <;> simp [h]
    refine Safe.bind (wr_commit hm hi) fun b s hb => ?_
    rw [if_neg (by omega)]
    intro d hd
    rcases List.mem_append.1 hd with hd | hd
    · exact hf d hd
    · simp at hd; subst hd; omega
  · rw [if_pos (by simp [h])]
    intro d hd
    simp at hd
    subst hd
    omega

/-! The reader. -/
def rdOne (was : Int) (a : An) : Bool := a.err == 12 || (a.err == 0 && a.val == (if a.n = 0 then 10 else 100 * a.n) && !(a.n < was))
def rdLast (was : Int) : List An → Int
  | [] => was
  | a :: l => rdLast (if a.err = 12 then was else a.n) l
def rdOk (was : Int) : List An → Bool
  | [] => true
  | a :: l => rdOne was a && rdOk (if a.err = 12 then was else a.n) l
theorem rdOk_snoc : ∀ (l : List An) (was : Int) (a : An), rdOk was (l ++ [a]) = (rdOk was l && rdOne (rdLast was l) a)
  | [], was, a => by simp [rdOk, rdLast]
  | b :: l, was, a => by simp only [List.cons_append, rdOk, rdLast]; rw [rdOk_snoc l]; rw [Bool.and_assoc]
theorem rdLast_snoc : ∀ (l : List An) (was : Int) (a : An), rdLast was (l ++ [a]) = if a.err = 12 then rdLast was l else a.n
  | [], was, a => rfl
  | b :: l, was, a => by simp only [List.cons_append, rdLast]; exact rdLast_snoc l _ a
def rdQ (was : Int) (a : An) (g : Nat) : Prop := a.err = 12 ∨ (a.err = 0 ∧ ∃ v : Nat, a.n = v ∧ a.val = vlN v ∧ was ≤ v ∧ 3 * v ≤ g)
theorem rd_loop {m i : Nat} (hm : m ≤ 3) {was : Int} : ∀ n g g0, m + 1 ≤ n + g0 / 3 → g0 ≤ g → g0 ≤ 3 * m → was ≤ ((g0 / 3 : Nat) : Int) → Safe (IW m) RW i (rdQ was) (readL 3 n (wW g0)) g
  | 0, g, g0, hn, _, h0m, _ => by omega
  | n + 1, g, g0, hn, h0, h0m, hw => by
    unfold readL
    have hu := wW_un (g := g0) (by omega)
    by_cases hp : g0 % 3 = 0
    · rw [if_pos hp] at hu
      rw [hu]
      simp only [Bool.false_eq_true, if_false]
      rintro g1 hr1 B ⟨rfl, hg1⟩
      refine ⟨g1, fun _ _ => rw_refl _ _, ⟨rfl, hg1⟩, ?_⟩
      rw [b1_load_val]
      rintro g2 hr2 B ⟨rfl, hg2⟩
      refine ⟨g2, fun _ _ => rw_refl _ _, ⟨rfl, hg2⟩, ?_⟩
      rw [b1_load_meta]
      simp only
      have l1 := hr1.1
      have l2 := hr2.1
      by_cases he : wW g2 = wW g0
      · rw [if_pos he]
        have := wW_inj (g := g0) (g' := g2) (by omega) (by omega) he.symm hp
        have e2 : g2 = g0 := by omega
        have e1 : g1 = g0 := by omega
        subst e2
        subst e1
        refine .inr ⟨rfl, g1 / 3, rfl, ?_, hw, by omega⟩
        show vW g1 = _
        unfold vW
        rw [if_neg (by omega)]
      · rw [if_neg he]
        by_cases hp2 : g2 % 3 = 0
        · exact rd_loop hm n g2 g2 (by
            have : g2 ≠ g0 := fun e => he (by rw [e])
            omega) (Nat.le_refl _) hg2 (by omega)
        · obtain ⟨n, rfl⟩ : ∃ k, n = k + 1 := ⟨n - 1, by omega⟩
          unfold readL
          have hu2 := wW_un (g := g2) (by omega)
          rw [if_neg hp2] at hu2
          rw [hu2]
          exact .inl rfl
    · rw [if_neg hp] at hu
      rw [hu]
      exact .inl rfl
theorem rd_one {m i : Nat} (hm : m ≤ 3) {was : Int} {g : Nat} (hw : was ≤ ((g / 3 : Nat) : Int)) : Safe (IW m) RW i (rdQ was) (readT 3) g := by
  rintro g1 hr1 B ⟨rfl, hg1⟩
  refine ⟨g1, fun _ _ => rw_refl _ _, ⟨rfl, hg1⟩, ?_⟩
  rw [b1_load_meta]
  have := hr1.1
  exact rd_loop hm 7 g1 g1 (by omega) (Nat.le_refl _) hg1 (by omega)
def QR (l : List An) (g : Nat) : Prop := rdOk 0 l = true ∧ rdLast 0 l ≤ ((g / 3 : Nat) : Int)
theorem rd_body {m i : Nat} (hm : m ≤ 3) : ∀ n l g, QR l g → Safe (IW m) RW i QR (bodyT 1 3 (List.replicate n ⟨3, 0, 0, 0, 0⟩) l) g
  | 0, l, g, h => h
  | n + 1, l, g, h => by
    rw [List.replicate_succ]
    unfold bodyT
    rw [if_neg (by simp)]
    refine Safe.bind (Safe.frame (P := fun g => QR l g) (fun s s' hr hq => ⟨hq.1, by have := hr.1; have := hq.2; omega⟩) (fun s s' hr hq => ⟨hq.1, by have := (hr (i + 1) (by omega)).1; have := hq.2; omega⟩) (rd_one hm h.2) h) ?_
    rintro a g' ⟨ha, hq⟩
    rw [if_neg (by rcases ha with h | ⟨h, _⟩ <;> omega)]
    refine rd_body hm n _ g' ⟨?_, ?_⟩
    · rw [rdOk_snoc, hq.1, Bool.true_and]
      unfold rdOne
      rcases ha with ha | ⟨h0, v, h1, h2, h3, h4⟩
      · simp [ha]
      · simp only [h0, h1, h2]
        unfold vlN
        by_cases hv : v = 0
        · subst hv; simp; omega
        · simp [hv]; omega
    · rw [rdLast_snoc]
      rcases ha with ha | ⟨h0, v, h1, h2, h3, h4⟩
      · rw [if_pos ha]; exact hq.2
      · rw [if_neg (by omega), h1]; omega
theorem rdOk_fine : ∀ (l : List An) (was : Int), rdOk was l = true → Fine l
  | [], _, _ => by intro a ha; simp at ha
  | b :: l, was, h => by
    simp only [rdOk, Bool.and_eq_true] at h
    intro a ha
    rcases List.mem_cons.1 ha with rfl | ha
    · have := h.1
      unfold rdOne at this
      simp only [Bool.or_eq_true, beq_iff_eq, Bool.and_eq_true] at this
      omega
    · exact rdOk_fine l _ h.2 a ha
def QW (m : Nat) (i : Nat) (l : List An) (g : Nat) : Prop := Fine l ∧ (m ≤ i → QR l g)
theorem rwo (m : Nat) : RelOk RW (QW m) where
  refl := rw_refl
  trans := rw_trans
  post i a s s' hr h := ⟨h.1, fun hi => ⟨(h.2 hi).1, by have := hr.1; have := (h.2 hi).2; omega⟩⟩
/-- All writers and readers, in whichever order. -/
theorem whole_ok {m k : Nat} (hm : m ≤ 3) (picks : List Nat) :
    ∃ (as_ : List (List An)) (B' : BS), wholeT 500 ((List.range m).map (fun i => bodyT 1 3 (wrC i) []) ++ List.replicate k (bodyT 1 3 (List.replicate 3 ⟨3, 0, 0, 0, 0⟩) [])) (B1 0 0 10) picks
      = (as_.map (fun a => (⟨.ret a, true⟩ : TS (List An))), B') ∧ as_.length = m + k ∧ ∀ i a, m ≤ i → as_[i]? = some a → rdOk 0 a = true := by
  obtain ⟨as_, s, h1, h2, h3, h4⟩ := whole_safe (I := IW m) (Q := QW m) (D := 51) (rwo m) (n := 500) (by omega) (ps := (List.range m).map (fun i => bodyT 1 3 (wrC i) []) ++ List.replicate k (bodyT 1 3 (List.replicate 3 ⟨3, 0, 0, 0, 0⟩) [])) (B := B1 0 0 10) (s := 0) ⟨rfl, by omega⟩ (by
    intro i p hp
    by_cases hi : i < m
    · rw [List.getElem?_append_left (by simpa using hi), List.getElem?_map, List.getElem?_range hi] at hp
      simp only [Option.map_some, Option.some.injEq] at hp
      subst hp
      exact ⟨(wr_safe hm hi).mono (fun a s' h => ⟨h, fun hk => by omega⟩), dep_body 1 3 (wrC i) []⟩
    · rw [List.getElem?_append_right (by simpa using hi)] at hp
      rw [List.getElem?_replicate] at hp
      have hp : some (bodyT 1 3 (List.replicate 3 ⟨3, 0, 0, 0, 0⟩) []) = some p := by
        split at hp
        · exact hp
        · cases hp
      injection hp with hp
      subst hp
      exact ⟨(rd_body hm 3 [] 0 ⟨rfl, by simp [rdLast]⟩).mono (fun a s' h => ⟨rdOk_fine a 0 h.1, fun _ => h⟩), dep_body 1 3 (List.replicate 3 ⟨3, 0, 0, 0, 0⟩) []⟩) picks
  refine ⟨as_, _, Prod.ext h1 rfl, by simpa using h2, fun i a hi ha => ((h4 i a ha).2 hi).1⟩
end Go.Proofs.YtkldpdldjalpeaaDoor.Th

namespace Go.Proofs.YtkldpdldjalpeaaDoor.Th
def rdC : List Cl := List.replicate 3 ⟨3, 0, 0, 0, 0⟩
/-- The calls of all. -/
def whC (m k : Nat) : List (List Cl) := (List.range m).map wrC ++ List.replicate k rdC
theorem whC_len (m k : Nat) : (whC m k).length = m + k := by simp [whC]
def whP (m k : Nat) : List (Pg (List An)) := (List.range m).map (fun i => bodyT 1 3 (wrC i) []) ++ List.replicate k (bodyT 1 3 (List.replicate 3 ⟨3, 0, 0, 0, 0⟩) [])
theorem whC_map (m k : Nat) : ((whC m k).map fun cs => bodyT 1 3 cs []) = whP m k := by
  unfold whC whP
  rw [List.map_append, List.map_map, List.map_replicate]
  rfl
theorem wh_hs {m k : Nat} (hm : m ≤ 3) : ∀ (i : Nat) p, (whP m k)[i]? = some p → Safe (IW m) RW i (QW m i) p 0 ∧ Dep p 51 := by
  intro i p hp
  unfold whP at hp
  by_cases hi : i < m
  · rw [List.getElem?_append_left (by simpa using hi), List.getElem?_map, List.getElem?_range hi] at hp
    simp only [Option.map_some, Option.some.injEq] at hp
    subst hp
    exact ⟨(wr_safe hm hi).mono (fun a s' h => ⟨h, fun hk => by omega⟩), dep_body 1 3 (wrC i) []⟩
  · rw [List.getElem?_append_right (by simpa using hi)] at hp
    rw [List.getElem?_replicate] at hp
    have hp : some (bodyT 1 3 (List.replicate 3 ⟨3, 0, 0, 0, 0⟩) []) = some p := by
      split at hp
      · exact hp
      · cases hp
    injection hp with hp
    subst hp
    exact ⟨(rd_body hm 3 [] 0 ⟨rfl, by simp [rdLast]⟩).mono (fun a s' h => ⟨rdOk_fine a 0 h.1, fun _ => h⟩), dep_body 1 3 (List.replicate 3 ⟨3, 0, 0, 0, 0⟩) []⟩
theorem wh_good {m k : Nat} (hm : m ≤ 3) : ∃ s, Sys (IW m) RW (QW m) 51 (((whC m k).map fun cs => (⟨bodyT 1 3 cs [], false⟩ : TS (List An))), B1 0 0 10) s := by
  have := sys_init (I := IW m) (Rel := RW) (Q := QW m) (D := 51) (ps := whP m k) (B := B1 0 0 10) (s := 0) ⟨rfl, by omega⟩ (wh_hs hm)
  rw [← whC_map, List.map_map] at this
  exact ⟨_, this⟩
theorem wh_sgo (m : Nat) : (∀ (x : List (TS (List An)) × BS) k, (∃ s, Sys (IW m) RW (QW m) 51 x s) → ∃ s, Sys (IW m) RW (QW m) 51 (sysStep x.1 x.2 k) s) ∧
    (∀ (x : List (TS (List An)) × BS) (i : Nat) u a, (∃ s, Sys (IW m) RW (QW m) 51 x s) → x.1[i]? = some u → u.p = .ret a → Fine a) ∧ ∀ (x : List (TS (List An)) × BS), (∃ s, Sys (IW m) RW (QW m) 51 x s) → (1, 1) ∈ x.2.sz ∧ (3, 2) ∈ x.2.sz := by
  refine ⟨fun x k ⟨s, h⟩ => h.step (rwo m) k, fun x i u a ⟨s, h⟩ ht hp => ?_, fun x ⟨s, h⟩ => ?_⟩
  · have := h.safe i u ht
    rw [hp] at this
    exact this.1
  · obtain ⟨h1, _⟩ := h.inv
    rw [h1]
    show (1, 1) ∈ [(1, 1), (3, 2)] ∧ (3, 2) ∈ [(1, 1), (3, 2)]
    simp
theorem whC_app1 (i : Nat) : whC i 0 ++ [wrC i] = whC (i + 1) 0 := by simp [whC, List.range_succ]
theorem whC_app2 (i j : Nat) : whC i j ++ [rdC] = whC i (j + 1) := by unfold whC; rw [List.replicate_succ', List.append_assoc]
theorem rdOk_append : ∀ (l : List An) (was : Int) (m : List An), rdOk was (l ++ m) = (rdOk was l && rdOk (rdLast was l) m)
  | [], was, m => by simp [rdOk, rdLast]
  | b :: l, was, m => by simp only [List.cons_append, rdOk, rdLast]; rw [rdOk_append l]; rw [Bool.and_assoc]
theorem rd_bounds : ∀ (l : List An) (was : Int), rdOk was l = true → was ≤ rdLast was l ∧ ∀ x ∈ l, x.err = 12 ∨ (was ≤ x.n ∧ x.n ≤ rdLast was l)
  | [], was, _ => ⟨Int.le_refl _, by simp⟩
  | b :: l, was, h => by
    simp only [rdOk, Bool.and_eq_true] at h
    obtain ⟨h1, h2⟩ := h
    obtain ⟨h3, h4⟩ := rd_bounds l _ h2
    unfold rdOne at h1
    simp only [Bool.or_eq_true, beq_iff_eq, Bool.and_eq_true, Bool.not_eq_true', decide_eq_false_iff_not] at h1
    simp only [rdLast]
    by_cases he : b.err = 12
    · rw [if_pos he] at h3 h4 ⊢
      refine ⟨h3, fun x hx => ?_⟩
      rcases List.mem_cons.1 hx with rfl | hx
      · exact .inl he
      · exact h4 x hx
    · rw [if_neg he] at h3 h4 ⊢
      have hb : was ≤ b.n := by rcases h1 with h1 | h1 <;> omega
      refine ⟨by omega, fun x hx => ?_⟩
      rcases List.mem_cons.1 hx with rfl | hx
      · exact .inr ⟨hb, h3⟩
      · rcases h4 x hx with h | h
        · exact .inl h
        · exact .inr ⟨by omega, h.2⟩
/-- All of them: what the law asks for, and no number above three. -/
theorem whole_ok2 {m k : Nat} (hm : m ≤ 3) (picks : List Nat) :
    ∃ (as_ : List (List An)) (B' : BS), wholeT 500 (whP m k) (B1 0 0 10) picks = (as_.map (fun a => (⟨.ret a, true⟩ : TS (List An))), B') ∧ as_.length = m + k ∧ ∀ i a, m ≤ i → as_[i]? = some a → rdOk 0 a = true ∧ ∀ x ∈ a, x.err = 12 ∨ (0 ≤ x.n ∧ x.n ≤ 3) := by
  obtain ⟨as_, s, h1, h2, h3, h4⟩ := whole_safe (I := IW m) (Q := QW m) (D := 51) (rwo m) (n := 500) (by omega) (ps := whP m k) (B := B1 0 0 10) (s := 0) ⟨rfl, by omega⟩ (wh_hs hm) picks
  refine ⟨as_, _, Prod.ext h1 rfl, by simpa [whP] using h2, fun i a hi ha => ?_⟩
  obtain ⟨h5, h6⟩ := (h4 i a ha).2 hi
  refine ⟨h5, fun x hx => ?_⟩
  have := h3.2
  rcases (rd_bounds a 0 h5).2 x hx with h | h
  · exact .inl h
  · exact .inr ⟨h.1, by omega⟩
end Go.Proofs.YtkldpdldjalpeaaDoor.Th
namespace Go.Proofs.YtkldpdldjalpeaaDoor
open Go.RowKit Th
attribute [local go_sem] litStep_value

set_option maxRecDepth 20000 in
set_option maxHeartbeats 8000000 in
theorem law_whole (nn kk : Int) (A : Option Addr) (np cp : Nat) (ps : List Int) (w : World) (hP : Src w 1 (.slice A np cp) np (ps.map (Value.int .i64))) (hnp : ps.length = np) (hmax : np ≤ 9223372036854775807) :
    Calls Tryd.prog 3 #[.int .i64 nn, .int .i64 kk, .slice A np cp] w fun e w' => e = .returned (.bool true) ∧ Upd [] w w' := by
  have hr : -3 < nn.tmod 3 ∧ nn.tmod 3 < 3 := ⟨Int.lt_tmod_of_pos nn (by omega), Int.tmod_lt_of_pos nn (by omega)⟩
  have hr2 : -3 < kk.tmod 3 ∧ kk.tmod 3 < 3 := ⟨Int.lt_tmod_of_pos kk (by omega), Int.tmod_lt_of_pos kk (by omega)⟩
  have HP := Lib.hid hP
  have HNP := Lib.hid hnp
  have hnp0 : (0 : Int) ≤ np ∧ (np : Int) ≤ 9223372036854775807 := by omega
  clear hP hnp hmax
  go_enter Tryd.func3, Tryd.ntmps3
  go_wp2_with fail
  refine (scene_ok 1 (by omega) w).mono ?_
  rintro e w1 ⟨F, kb, rfl, h1, h2, h3, h4, h5, h6⟩
  have H1 := Lib.hid h1
  have H2 : Hid (Blk w1 kb 24 #[.int .u64 3]) := Lib.hid h2
  have H3 := Lib.hid h3
  have H4 : Hid ((∀ x ∈ F.l, w.heap.size ≤ x) ∧ w.heap.size ≤ kb ∧ kb ∉ F.l) := Lib.hid ⟨h4, h5, h6⟩
  clear h1 h2 h3 h4 h5 h6 hr hr2
  obtain ⟨m, hn, hn2⟩ : ∃ n : Nat, 1 + nn.tmod 3 % 3 = n ∧ 1 ≤ n ∧ n ≤ 3 := ⟨(1 + nn.tmod 3 % 3).toNat, by omega, by omega, by omega⟩
  obtain ⟨r, ht, ht2⟩ : ∃ t : Nat, 1 + kk.tmod 3 % 3 = t ∧ 1 ≤ t ∧ t ≤ 3 := ⟨(1 + kk.tmod 3 % 3).toNat, by omega, by omega, by omega⟩
  rw [hn, ht]
  have HN : Hid (1 ≤ m ∧ m ≤ 3 ∧ 1 ≤ r ∧ r ≤ 3) := Lib.hid ⟨hn2.1, hn2.2, ht2.1, ht2.2⟩
  have hn3 : (1 : Int) ≤ m ∧ (m : Int) ≤ 3 := by omega
  have ht3 : (1 : Int) ≤ r ∧ (r : Int) ≤ 3 := by omega
  clear hn hn2 ht ht2
  by_cases hlong : 100 < np
  · have hl : (100 : Int) < np := by omega
    clear hlong
    go_wp2_with fail
    refine (malive_ok w1).mono ?_
    rintro e wg ⟨rfl, ug⟩
    have UG := Lib.hid (H3.out.trans ug)
    clear ug
    go_wp2_with fail
    go_ret
    exact ⟨rfl, UG.out⟩
  · have hl : ¬ (100 : Int) < np := by omega
    have HL : Hid (np ≤ 100) := Lib.hid (by omega)
    clear hlong
    go_wp2_with fail
    go_loopw [10, 11] (fun u10 u11 wr => ∃ (i : Nat) (svs : List Value), u11 = .int .i64 i ∧ i ≤ m ∧ Hid (Lst w1 wr u10 (whC i 0) svs)) (fun _ u _ => m - (intOf u).toNat)
    case atStart => exact ⟨0, [], rfl, by omega, Lib.hid (Lst.nil w1)⟩
    case round =>
      obtain ⟨i, svs, rfl, hi, KL⟩ := hrel
      by_cases hlt : i < m
      · have hii : (i : Int) < m := by omega
        have HI := Lib.hid hlt
        clear hi hlt
        go_wp2_with (at_builtin; refine stoppedM ?_)
        refine Lib.hid ?_
        obtain ⟨wc, hwc⟩ : ∃ wc, wc = wr.alloc (Obj.cells #[.int .i64 5, .int .i64 0, .int .i64 i, .int .i64 ((i : Int) + 1), .int .u64 0, .int .i64 9, .int .i64 0, .int .i64 0, .int .i64 0, .int .u64 0, .int .i64 6, .int .i64 0, .int .i64 ((i : Int) + 1), .int .i64 0, .int .u64 (100 * ((i : Int) + 1))] 31) := ⟨_, rfl⟩
        have UC : Hid (Upd [] wr wc) := Lib.hid (by rw [hwc]; exact (Upd.refl _ _).alloc _)
        have SC : Hid (wc.heap.size = wr.heap.size + 1) := Lib.hid (by rw [hwc]; simp)
        have OC : Hid (Ow ClE 31 wc w1.heap.size (.slice (some ⟨wr.heap.size, 0, none⟩) 3 3) (wrC i)) := Lib.hid (by rw [hwc]; exact ow_lit' (Blk.new _ _ _) rfl rfl (by simp [maxLen]) KL.out.up.size)
        rw [← hwc]
        clear hwc
        have ul : Upd [] wc (wc.alloc (Obj.cells #[.slice (some ⟨wr.heap.size, 0, none⟩) 3 3] 32)) := (Upd.refl _ _).alloc _
        have hL := KL.out.upd0 (UC.out.trans ul)
        have hLL := whC_len i 0
        refine wpList_app _ (by rfl) (.tmp 53) (.tmp 67) _ (by rfl) calls_elem u10 _ (by rfl) (by rfl) hL.ow (.of_blk (Blk.newAt _ _ SC.out) (m := 1) 1 rfl) (by intro u hu; simp at hu; subst hu; rfl) (by have := HN.out; have := HI.out; simp [maxLen, hLL]; omega) (by have := HN.out; have := HI.out; rw [hLL]; omega) (Nat.le_trans (KL.out.up.trans UC.out).size (by simp)) ?_
        intro v5 w5 o5 u5 b5
        have L5 : Hid (Lst w1 w5 v5 (whC (i + 1) 0) (svs ++ [.slice (some ⟨wr.heap.size, 0, none⟩) 3 3])) := Lib.hid (by
          have := hL.add (OC.out.upd0 ul) o5 u5
          rwa [whC_app1] at this)
        clear o5 u5 b5 ul hL hLL
        go_wp2_with fail
        go_round
        case rel => exact ⟨i + 1, _, by simp, by have := HI.out; omega, L5⟩
        case measure => have := HI.out; simp [intOf]; omega
      · have hii : ¬ ((i : Int) < m) := by omega
        have him : i = m := by omega
        subst him
        have KL0 := KL
        clear hi hlt KL
        go_wp2_with fail
        go_loopw [10, 12] (fun u10 u12 wr => ∃ (j : Nat) (svs : List Value), u12 = .int .i64 j ∧ j ≤ r ∧ Hid (Lst w1 wr u10 (whC i j) svs)) (fun _ u _ => r - (intOf u).toNat)
        case atStart => exact ⟨0, svs, rfl, by omega, KL0⟩
        case round =>
          clear KL0
          obtain ⟨j, svs, rfl, hj, KL⟩ := hrel
          by_cases hlt : j < r
          · have hjj : (j : Int) < r := by omega
            have HJ := Lib.hid hlt
            clear hj hlt
            go_wp2_with (at_builtin; refine stoppedM ?_)
            refine Lib.hid ?_
            obtain ⟨wc, hwc⟩ : ∃ wc, wc = wr.alloc (Obj.cells #[.int .i64 3, .int .i64 0, .int .i64 0, .int .i64 0, .int .u64 0, .int .i64 3, .int .i64 0, .int .i64 0, .int .i64 0, .int .u64 0, .int .i64 3, .int .i64 0, .int .i64 0, .int .i64 0, .int .u64 0] 31) := ⟨_, rfl⟩
            have UC : Hid (Upd [] wr wc) := Lib.hid (by rw [hwc]; exact (Upd.refl _ _).alloc _)
            have SC : Hid (wc.heap.size = wr.heap.size + 1) := Lib.hid (by rw [hwc]; simp)
            have OC : Hid (Ow ClE 31 wc w1.heap.size (.slice (some ⟨wr.heap.size, 0, none⟩) 3 3) rdC) := Lib.hid (by rw [hwc]; exact ow_lit' (Blk.new _ _ _) rfl rfl (by simp [maxLen]) KL.out.up.size)
            rw [← hwc]
            clear hwc
            have ul : Upd [] wc (wc.alloc (Obj.cells #[.slice (some ⟨wr.heap.size, 0, none⟩) 3 3] 32)) := (Upd.refl _ _).alloc _
            have hL := KL.out.upd0 (UC.out.trans ul)
            have hLL := whC_len i j
            refine wpList_app _ (by rfl) (.tmp 74) (.tmp 79) _ (by rfl) calls_elem u10 _ (by rfl) (by rfl) hL.ow (.of_blk (Blk.newAt _ _ SC.out) (m := 1) 1 rfl) (by intro u hu; simp at hu; subst hu; rfl) (by have := HN.out; have := HJ.out; simp [maxLen, hLL]; omega) (by have := HN.out; have := HJ.out; rw [hLL]; omega) (Nat.le_trans (KL.out.up.trans UC.out).size (by simp)) ?_
            intro v5 w5 o5 u5 b5
            have L5 : Hid (Lst w1 w5 v5 (whC i (j + 1)) (svs ++ [.slice (some ⟨wr.heap.size, 0, none⟩) 3 3])) := Lib.hid (by
              have := hL.add (OC.out.upd0 ul) o5 u5
              rwa [whC_app2] at this)
            clear o5 u5 b5 ul hL hLL
            go_wp2_with fail
            go_round
            case rel => exact ⟨j + 1, _, by simp, by have := HJ.out; omega, L5⟩
            case measure => have := HJ.out; simp [intOf]; omega
          · have hjj : ¬ ((j : Int) < r) := by omega
            have hjr : j = r := by omega
            subst hjr
            clear hj hlt
            obtain ⟨as_, B', hw, hal, hok⟩ := whole_ok2 (m := i) (k := j) HN.out.2.1 (ps.map (pickI (i + j)))
            obtain ⟨g1, g2, g3⟩ := wh_sgo i
            have hlen := whC_len i j
            have hbm := whC_map i j
            have HRUN : Hid (Calls Tryd.prog 9 #[.pointer (some ⟨F.b0, 0, none⟩), .int .u64 1, .slice (some ⟨kb, 0, none⟩) 1 1, u10, .slice A np cp] wr fun e w' => ∃ av, e = .returned (.tuple #[av, .bool true]) ∧ RunP as_ F B' kb 3 (callB kb svs) wr av w') := Lib.hid (by
              have := run_lst (Good := fun x => ∃ s, Th.Sys (IW i) RW (QW i) 51 x s) kb (whC i j) svs ps as_ u10 (.slice A np cp) w1 wr H1.out KL.out (by rw [hlen]; have := HN.out; omega) (by
                intro cs hcs
                have hN := HN.out
                rcases List.mem_append.1 hcs with hcs | hcs
                · obtain ⟨k, hk, rfl⟩ := List.mem_map.1 hcs
                  have hk := List.mem_range.1 hk
                  exact ⟨by simp [wrC], fun x hx => by
                    simp only [wrC, List.mem_cons, List.not_mem_nil, or_false] at hx
                    rcases hx with rfl | rfl | rfl
                    · exact ⟨by simp, fun _ => by simp only; omega, by simp⟩
                    · exact ⟨by simp, by simp, by simp⟩
                    · exact ⟨by simp, by simp, fun _ => ⟨by simp only; omega, by simp only; omega⟩⟩⟩
                · have hcs := (List.mem_replicate.1 hcs).2
                  subst hcs
                  exact ⟨by simp [rdC], fun x hx => by rw [(List.mem_replicate.1 hx).2]; simp [OkC]⟩) H2.out H4.out.2.2 (fun W hW => by
                rw [HNP.out]
                exact HP.out.upd0 (H3.out.trans' hW (fun x hx => .inr (by
                  rcases List.mem_append.1 hx with hx | hx
                  · exact H4.out.1 x hx
                  · rcases List.mem_cons.1 hx with rfl | hx
                    · exact H4.out.2.1
                    · have := (KL.out.lt x hx).1; have := H3.out.size; omega)))) (by rw [HNP.out]; exact HL.out) ⟨fun x k h => g1 x k h, fun x i t a h ht hp hb => hb (g2 x i t a h ht hp), fun x h => g3 x h⟩ (wh_good HN.out.2.1) (by rw [hlen]; exact hal) (fun k u hu => by
                rw [hbm, hlen] at hu
                rw [show B1 0 0 10 = BN 1 from rfl] at hw
                rw [hw] at hu
                simp only [List.getElem?_map, Option.map_eq_some_iff] at hu
                obtain ⟨q, hq, rfl⟩ := hu
                exact ⟨q, hq, rfl⟩)
              rw [hbm, hlen] at this
              rw [show B1 0 0 10 = BN 1 from rfl] at hw
              rw [hw] at this
              exact this)
            have HT : Hid (as_.length = i + j ∧ ∀ (k : Nat) a, i ≤ k → as_[k]? = some a → rdOk 0 a = true ∧ ∀ x ∈ a, x.err = 12 ∨ (0 ≤ x.n ∧ x.n ≤ 3)) := Lib.hid ⟨hal, hok⟩
            clear hw g1 g2 g3 hlen hbm hal hok
            go_wp2_with fail
            refine HRUN.out.mono ?_
            rintro e w2 ⟨rv, rfl, F', vs, q1, q2, q3, q4, q5, q6, q7, q8, q9⟩
            have U2 : Hid (Upd [] w w2) := Lib.hid ((H3.out.trans KL.out.up).trans' q3 (fun x hx => .inr (by
              rcases List.mem_append.1 hx with hx | hx
              · exact H4.out.1 x hx
              · rcases List.mem_cons.1 hx with rfl | hx
                · exact H4.out.2.1
                · have := (KL.out.lt x hx).1; have := H3.out.size; omega)))
            rw [HT.out.1] at q7 q8
            have QV : Hid (vs.length = i + j ∧ ∀ (k : Nat) v a, vs[k]? = some v → as_[k]? = some a → Ow AnE 38 w2 0 v a) := Lib.hid ⟨q8, q9⟩
            obtain ⟨g0, c0, rfl, hc0, hc1⟩ : ∃ g cap, rv = .slice (some ⟨g, 0, none⟩) (i + j) cap ∧ i + j ≤ cap ∧ cap ≤ maxLen := by
              obtain ⟨g, cap, _, e, _⟩ := own_form q7 (by have := HN.out; omega)
              obtain ⟨A', c', e', h1, h2⟩ := own_slice q7
              rw [e] at e'
              injection e' with _ _ e'
              exact ⟨g, cap, e, e' ▸ h1, e' ▸ h2⟩
            have QO := Lib.hid q7
            clear q1 q2 q3 q4 q5 q6 q7 q8 q9
            have hc2 : (i : Int) ≤ c0 ∧ (c0 : Int) ≤ 9223372036854775807 := by simp only [maxLen] at hc1; omega
            go_wp2_with fail
            go_loopw [16, 17, 19, 20, 96, 102] (fun u16 u17 u19 u20 u96 u102 wx => ∃ k : Nat, u96 = .int .i64 k ∧ k ≤ j ∧ Hid (Upd [] w2 wx)) (fun _ _ _ _ u _ _ => j - (intOf u).toNat)
            case atStart => exact ⟨0, rfl, by omega, Lib.hid (.refl _ _)⟩
            case round =>
              obtain ⟨k, rfl, hk, U4⟩ := hrel
              rename World => wx
              by_cases hlt : k < j
              · have hki : (k : Int) < j := by omega
                obtain ⟨v0, hv0⟩ : ∃ v, vs[i + k]? = some v := ⟨_, List.getElem?_eq_getElem (by rw [QV.out.1]; omega)⟩
                obtain ⟨a, ha⟩ : ∃ a, as_[i + k]? = some a := ⟨_, List.getElem?_eq_getElem (by rw [HT.out.1]; omega)⟩
                have hov := QV.out.2 (i + k) v0 a hv0 ha
                obtain ⟨Av, ca, hvf, hca, hcm⟩ := hov.form
                have QO4 := own_upd0 QO.out U4.out
                have ce := own_cell QO4 (i + k) _ hv0
                have HOV := Lib.hid (hvf ▸ hov)
                have HA := Lib.hid (HT.out.2 (i + k) a (by omega) ha)
                obtain ⟨na, hna⟩ : ∃ na, na = a.length := ⟨_, rfl⟩
                rw [← hna] at hvf hca
                subst hvf
                have hnm : (na : Int) ≤ 9223372036854775807 := by simp only [maxLen] at hcm; omega
                have HNA := Lib.hid hna
                have HK := Lib.hid hlt
                clear hk hlt hv0 hov ha hna QO4 hca hcm
                go_wp2_with fail
                go_loopw [17, 19, 20, 102] (fun u17 u19 u20 u102 wy => ∃ p : Nat, u102 = .int .i64 p ∧ p ≤ na ∧ u17 = .int .i64 (rdLast 0 (a.take p)) ∧ Hid (Upd [] w2 wy)) (fun _ _ _ u _ => na - (intOf u).toNat)
                case atStart => exact ⟨0, rfl, by omega, rfl, U4⟩
                case round =>
                  obtain ⟨p, rfl, hp, rfl, U5⟩ := hrel
                  rename World => wy
                  by_cases hlt : p < na
                  · have hjn : (p : Int) < na := by omega
                    obtain ⟨⟨x1, x2, x3⟩, hx⟩ : ∃ x, a[p]? = some x := ⟨_, List.getElem?_eq_getElem (by rw [← HNA.out]; exact hlt)⟩
                    obtain ⟨ga, cb, _, hv, _⟩ := own_form HOV.out (by rw [← HNA.out]; omega)
                    injection hv with hv1 hv2 hv3
                    subst hv1
                    have hov : Ow AnE 38 wy 0 (.slice (some ⟨ga, 0, none⟩) a.length ca) a := HOV.out.upd0 U5.out
                    have c1 : wy.cell? ⟨ga, p * 3, none⟩ = some (.int .i64 x1) := hov.at_ hx 0 _ rfl
                    have c2 : wy.cell? ⟨ga, p * 3 + 1, none⟩ = some (.int .u64 x2) := hov.at_ hx 1 _ rfl
                    have c3 : wy.cell? ⟨ga, p * 3 + 2, none⟩ = some (.int .i64 x3) := hov.at_ hx 2 _ rfl
                    have gal : ga < wy.heap.size := (own_lt hov (b := ga) rfl).2
                    have hsp : a = a.take p ++ ⟨x1, x2, x3⟩ :: a.drop (p + 1) := by
                      obtain ⟨hl', he⟩ := List.getElem?_eq_some_iff.1 hx
                      rw [← he, List.getElem_cons_drop, List.take_append_drop]
                    have htk1 : a.take (p + 1) = a.take p ++ [⟨x1, x2, x3⟩] := by rw [List.take_add_one, hx]; rfl
                    have hwz : rdLast 0 (a.take (p + 1)) = if x1 = 12 then rdLast 0 (a.take p) else x3 := by rw [htk1, rdLast_snoc]
                    have hok := HA.out.1
                    rw [hsp, rdOk_append] at hok
                    simp only [rdOk, rdOne, Bool.and_eq_true, Bool.or_eq_true, beq_iff_eq, Bool.not_eq_true', decide_eq_false_iff_not] at hok
                    have hok2 := hok.2.1
                    have hb := HA.out.2 ⟨x1, x2, x3⟩ (by rw [hsp]; simp)
                    simp only at hb
                    have HJ := Lib.hid hlt
                    by_cases h0 : x1 = 12
                    · subst h0
                      rw [if_pos rfl] at hwz
                      have HW := Lib.hid hwz
                      clear hp hlt hx hov hsp htk1 hwz hok hok2 hb
                      go_wp2_with fail
                      go_round
                      case rel => exact ⟨p + 1, by simp, by have := HJ.out; omega, by rw [HW.out], Lib.hid (U5.out.alloc _)⟩
                      case measure => have := HJ.out; simp [intOf]; omega
                    · rw [if_neg h0] at hwz
                      have hok3 := hok2.resolve_left h0
                      obtain ⟨⟨h1, h2⟩, h3⟩ := hok3
                      subst h1
                      have hb := hb.resolve_left h0
                      generalize rdLast 0 (a.take p) = ws at h3 ⊢
                      have HW := Lib.hid hwz
                      clear hp hlt hx hov hsp htk1 hwz hok hok2 h0
                      by_cases hz : x3 = 0
                      · subst hz
                        rw [if_pos rfl] at h2
                        subst h2
                        go_wp2_with fail
                        go_round
                        case rel => exact ⟨p + 1, by simp, by have := HJ.out; omega, by rw [HW.out], Lib.hid (U5.out.alloc _)⟩
                        case measure => have := HJ.out; simp [intOf]; omega
                      · rw [if_neg hz] at h2
                        subst h2
                        go_wp2_with fail
                        go_round
                        case rel => exact ⟨p + 1, by simp, by have := HJ.out; omega, by rw [HW.out], Lib.hid (U5.out.alloc _)⟩
                        case measure => have := HJ.out; simp [intOf]; omega
                  · have hjn : ¬ ((p : Int) < na) := by omega
                    clear hp hlt
                    go_wp2_with fail
                    go_round
                    case rel => exact ⟨k + 1, by simp, by have := HK.out; omega, U5⟩
                    case measure => have := HK.out; simp [intOf]; omega
              · have hki : ¬ ((k : Int) < j) := by omega
                clear hk hlt
                go_wp2_with fail
                refine (malive_ok wx).mono ?_
                rintro e wg ⟨rfl, ug⟩
                have UG := Lib.hid ((U2.out.trans U4.out).trans ug)
                clear ug
                go_wp2_with fail
                go_ret
                exact ⟨rfl, UG.out⟩
end Go.Proofs.YtkldpdldjalpeaaDoor

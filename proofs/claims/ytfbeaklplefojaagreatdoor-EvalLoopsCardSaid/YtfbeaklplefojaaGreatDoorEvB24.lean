/-
  eval.runner: all, of right statements.
  Right statements, as prog.Right says it and as a recursion says it.
  A whole of its own, the first of two, a loop: plainly. No program in sight.
  eval.end: how a transaction ends.
  model.State that is none.
-/
import Derived.Test.YtfbeaklplefojaaGreatDoorEvBsOneH
import Derived.Test.YtfbeaklplefojaaGreatDoorEvB13
import Derived.Test.YtfbeaklplefojaaGreatDoorEvBsRightWN
import Derived.Test.YtfbeaklplefojaaGreatDoorEvB4
set_option linter.unusedVariables false
namespace Go.Proofs.YtfbeaklplefojaaGreatDoor.Ev
open Go.RowKit Assoc MP

theorem one_right (ks : List Int) (k c reg ar an br bn : Int) (b e : List Stm) (hr : rightS ks (.mk k c reg ar an br bn b e) = true) (hb : AllC ks b) (he : AllC ks e) : OneC ks (.mk k c reg ar an br bn b e) := by
  intro H rb F vb ve r w h ht sb se hH
  have hf := right_facts hr
  rw [ev_mk]
  by_cases h9 : k = 9
  · subst h9
    rw [if_pos rfl]
    exact one_set c reg ar an br bn vb ve w hf h ht sb se hH
  rw [if_neg h9]
  by_cases h10 : k = 10
  · subst h10
    rw [if_pos rfl]
    exact one_add c reg ar an br bn vb ve w hf h ht sb se hH
  rw [if_neg h10]
  by_cases h11 : k = 11
  · subst h11
    rw [if_pos rfl]
    by_cases hv : valV r ar an < valV r br bn
    · rw [if_pos hv]
      exact one_then c reg ar an br bn vb ve w hf h ht sb se hH hb hv
    · rw [if_neg hv]
      exact one_else c reg ar an br bn vb ve w hf h ht sb se hH he hv
  rw [if_neg h11]
  by_cases h12 : k = 12
  · subst h12
    rw [if_pos rfl]
    exact one_loop c reg ar an br bn vb ve w hf h ht sb se hH hb
  rw [if_neg h12]
  by_cases h13 : k = 13
  · subst h13
    rw [if_pos rfl]
    exact one_atomic c reg ar an br bn vb ve w hf h ht sb se hH hb
  rw [if_neg h13]
  by_cases h14 : k = 14
  · subst h14
    rw [if_pos rfl]
    exact Gr.one_or c reg ar an br bn vb ve w hf h ht sb se hH hb he
  rw [if_neg h14]
  by_cases h15 : k = 15
  · subst h15
    rw [if_pos rfl]
    exact one_retry c reg ar an br bn vb ve w hf h ht sb se hH
  rw [if_neg h15]
  by_cases h16 : k = 16
  · subst h16
    rw [if_pos rfl]
    exact one_abort c reg ar an br bn vb ve w hf h ht sb se hH
  rw [if_neg h16]
  have h1 := hf.hk
  exact one_ask k c reg ar an br bn vb ve w hf h ht sb se hH (by omega)
mutual
theorem ones_right (ks : List Int) : ∀ x : Stm, rtS ks x = true → OneC ks x
  | .mk k c reg ar an br bn b e, h => by
    rw [rtS_mk, Bool.and_eq_true, Bool.and_eq_true] at h
    exact one_right ks k c reg ar an br bn b e h.1.1 (all_ok ks b (list_right ks b h.1.2)) (all_ok ks e (list_right ks e h.2))
theorem list_right (ks : List Int) : ∀ l : List Stm, rtL ks l = true → ∀ x ∈ l, OneC ks x
  | [], _, _, hx => by simp at hx
  | y :: l, h, x, hx => by
    rw [rtL_cons, Bool.and_eq_true] at h
    have h1 := ones_right ks y h.1
    have h2 := list_right ks l h.2
    rcases List.mem_cons.1 hx with e | hx
    · exact e ▸ h1
    · exact h2 x hx
end
/-- Right statements, done. -/
theorem all_right (ks : List Int) (l : List Stm) (h : rtL ks l = true) : AllC ks l := all_ok ks l (list_right ks l h)
end Go.Proofs.YtfbeaklplefojaaGreatDoor.Ev

namespace Go.Proofs.YtfbeaklplefojaaGreatDoor.Ev
open Go.RowKit

theorem walk_right (ks : List Int) : ∀ (L : List (Stm × Nat)) (n : Nat), (walkF (stepR ks) L (0, 0) n).2.1.1 = 0 → ∀ p ∈ L, rightS ks p.1 = true
  | [], _, _, p, hp => by simp at hp
  | (x, d) :: L, n, h, p, hp => by
    by_cases h1 : 100 < n + 1
    · have e : stepR ks (0, 0) (n + 1) d x = (false, (8, ((n + 1 : Nat) : Int))) := by unfold stepR; simp [h1]
      unfold walkF at h
      rw [e] at h
      simp at h
    · by_cases h2 : 8 < d
      · have e : stepR ks (0, 0) (n + 1) d x = (false, (10, ((n + 1 : Nat) : Int))) := by unfold stepR; simp [h1, h2]
        unfold walkF at h
        rw [e] at h
        simp at h
      · cases h3 : rightS ks x with
        | false =>
          have e : stepR ks (0, 0) (n + 1) d x = (false, (9, ((n + 1 : Nat) : Int))) := by unfold stepR; simp [h1, h2, h3]
          unfold walkF at h
          rw [e] at h
          simp at h
        | true =>
          have e : stepR ks (0, 0) (n + 1) d x = (true, (0, 0)) := by unfold stepR; simp [h1, h2, h3]
          unfold walkF at h
          rw [e] at h
          simp only at h
          rcases List.mem_cons.1 hp with e | hp
          · subst e; exact h3
          · exact walk_right ks L (n + 1) h p hp
mutual
theorem rtS_lines (ks : List Int) : ∀ (x : Stm) (d : Nat), (∀ p ∈ x.lines d, rightS ks p.1 = true) → rtS ks x = true
  | .mk k c reg ar an br bn b e, d, h => by
    rw [line_mk] at h
    have hb := rtL_lines ks b (d + 1)
    have he := rtL_lines ks e (d + 1)
    rw [rtS_mk, Bool.and_eq_true, Bool.and_eq_true]
    exact ⟨⟨h _ (List.mem_cons_self ..), hb fun p hp => h p (List.mem_cons_of_mem _ (List.mem_append_left _ hp))⟩, he fun p hp => h p (List.mem_cons_of_mem _ (List.mem_append_right _ hp))⟩
theorem rtL_lines (ks : List Int) : ∀ (l : List Stm) (d : Nat), (∀ p ∈ linesOf d l, rightS ks p.1 = true) → rtL ks l = true
  | [], _, _ => rtL_nil ks
  | x :: l, d, h => by
    have hx := rtS_lines ks x d
    have hl := rtL_lines ks l d
    rw [lines_cons] at h
    rw [rtL_cons, Bool.and_eq_true]
    exact ⟨hx fun p hp => h p (List.mem_append_left _ hp), hl fun p hp => h p (List.mem_append_right _ hp)⟩
end
theorem rt_of_right {ks : List Int} {l : List Stm} (h : (rightR ks l).1 = 0) : rtL ks l = true := rtL_lines ks l 1 (walk_right ks _ _ h)
end Go.Proofs.YtfbeaklplefojaaGreatDoor.Ev

namespace Go.Proofs.YtfbeaklplefojaaGreatDoor.Ev
open Assoc MP

def r0 (s : MS) : RS := ⟨s, [0, 0, 0, 0, 0, 0, 0, 0, 0], [], 0⟩
def endC (n : Int) : Int := if n = 0 then 1 else if n = 5 then 0 else n
/-- What Run answers: the error's number, the end, what is told, what there is behind it. -/
def errE (s : MS) (l : List Stm) : Int := if (rightR s.K l).1 ≠ 0 then (rightR s.K l).1 else if (evL l (r0 s)).2 = 5 then 8 else 0
def endE (s : MS) (l : List Stm) : Int := if errE s l = 0 then endC (evL l (r0 s)).2 else 0
def toldE (s : MS) (l : List Stm) : List Int := if errE s l = 0 then (evL l (r0 s)).1.told else []
def finE (s : MS) (l : List Stm) : MS := if (evL l (r0 s)).2 = 0 then (evL l (r0 s)).1.s else s
def Cod (n : Int) : Prop := n = 0 ∨ n = 2 ∨ n = 3 ∨ n = 4 ∨ n = 5
theorem cod_iter {f : RS → RS × Int} (h : ∀ r, Cod (f r).2) : ∀ n r, Cod (iterR f n r).2
  | 0, r => .inl rfl
  | n + 1, r => by
    unfold iterR
    split
    · exact cod_iter h n _
    · exact h r
theorem cod_ask (k c reg ar an br bn : Int) (r : RS) : Cod (askR k c reg ar an br bn r).2 := by
  unfold askR
  repeat' split
  all_goals first | exact .inl rfl | exact .inr (.inr (.inr (.inr rfl)))
mutual
theorem cod_ev : ∀ (x : Stm) (r : RS), Cod (ev x r).2
  | .mk k c reg ar an br bn b e, r => by
    have hb := cod_evL b
    have he := cod_evL e
    rw [ev_mk]
    split
    · exact .inl rfl
    split
    · exact .inl rfl
    split
    · split
      · exact hb r
      · exact he r
    split
    · exact cod_iter hb _ _
    split
    · split
      · exact .inl rfl
      · exact hb r
    split
    · split
      · exact he _
      · exact hb r
    split
    · exact .inr (.inr (.inl rfl))
    split
    · exact .inr (.inl rfl)
    exact cod_ask ..
theorem cod_evL : ∀ (l : List Stm) (r : RS), Cod (evL l r).2
  | [], r => by rw [evL_nil]; exact .inl rfl
  | x :: l, r => by
    have hx := cod_ev x
    have hl := cod_evL l
    rw [evL_cons]
    split
    · exact .inr (.inr (.inr (.inl rfl)))
    split
    · exact hl _
    · exact hx _
end
section
variable {s : MS} {l p q : List Stm}
theorem err_zero (h : errE s l = 0) : (rightR s.K l).1 = 0 ∧ (evL l (r0 s)).2 ≠ 5 := by
  unfold errE at h
  split at h
  · rename_i h1; exact absurd h h1
  · rename_i h1
    split at h
    · omega
    · rename_i h2; exact ⟨by simpa using h1, h2⟩
theorem end_four (h : errE s l = 0) (h4 : endE s l ≠ 4) : (evL l (r0 s)).2 ≠ 4 := by
  intro e
  unfold endE at h4
  rw [if_pos h, e] at h4
  exact h4 rfl
theorem end_iff (h : errE s l = 0) (n : Int) (hn : n = 2 ∨ n = 3) : endE s l = n ↔ (evL l (r0 s)).2 = n := by
  have hc := cod_evL l (r0 s)
  have h5 := (err_zero h).2
  unfold endE endC
  rw [if_pos h]
  rcases hc with e | e | e | e | e <;> rw [e] <;> simp <;> omega
/-- One statement alone. -/
theorem evL_one (x : Stm) (s : MS) : evL [x] (r0 s) = ev x (up (r0 s) 1) := by
  rw [evL_cons, if_neg (by simp [r0])]
  have e : ({ r0 s with steps := (r0 s).steps + 1 } : RS) = up (r0 s) 1 := rfl
  rw [e]
  split
  · rename_i h0
    rw [evL_nil]
    exact Prod.ext rfl h0.symm
  · rfl
/-- Two that end alike answer alike. -/
theorem alike {m : List Stm} {d : Nat} (h : errE s l = 0) (h' : errE s m = 0) (e : evL m (r0 s) = (up (evL l (r0 s)).1 d, (evL l (r0 s)).2)) : endE s m = endE s l ∧ toldE s m = toldE s l ∧ finE s m = finE s l := by
  unfold endE toldE finE
  rw [if_pos h, if_pos h', if_pos h, if_pos h', e]
  exact ⟨rfl, rfl, rfl⟩
theorem atomic_law (h : errE s p = 0) (h' : errE s [.mk 13 0 0 0 0 0 0 p []] = 0) (a4 : endE s p ≠ 4) (b4 : endE s [.mk 13 0 0 0 0 0 0 p []] ≠ 4) :
    (endE s p = 2 → endE s [.mk 13 0 0 0 0 0 0 p []] = 1 ∧ toldE s [.mk 13 0 0 0 0 0 0 p []] = toldE s p ∧ finE s [.mk 13 0 0 0 0 0 0 p []] = s) ∧
    (endE s p ≠ 2 → endE s [.mk 13 0 0 0 0 0 0 p []] = endE s p ∧ toldE s [.mk 13 0 0 0 0 0 0 p []] = toldE s p ∧ finE s [.mk 13 0 0 0 0 0 0 p []] = finE s p) := by
  have y4 := end_four h' b4
  have eY : evL [.mk 13 0 0 0 0 0 0 p []] (r0 s) = if (evL p (up (r0 s) 1)).2 = 2 then ({ (evL p (up (r0 s) 1)).1 with s := (up (r0 s) 1).s }, 0) else evL p (up (r0 s) 1) := by
    rw [evL_one, ev_mk, if_neg (by decide), if_neg (by decide), if_neg (by decide), if_neg (by decide), if_pos rfl]
  have z4 : (evL p (up (r0 s) 1)).2 ≠ 4 := by
    intro e
    rw [eY, if_neg (by omega)] at y4
    exact y4 e
  have ez := shift_evL p (r0 s) 1 z4
  have i2 := end_iff h 2 (.inl rfl)
  refine ⟨fun h2 => ?_, fun h2 => ?_⟩
  · have x2 := i2.1 h2
    rw [if_pos (by rw [ez]; exact x2), ez] at eY
    unfold endE toldE finE
    rw [if_pos h', if_pos h', if_pos h, eY]
    exact ⟨rfl, rfl, rfl⟩
  · have x2 : (evL p (r0 s)).2 ≠ 2 := fun e => h2 (i2.2 e)
    rw [if_neg (by rw [ez]; exact x2), ez] at eY
    exact alike h h' eY
theorem or_ev (x : List Stm) : evL [.mk 14 0 0 0 0 0 0 x q] (r0 s) = if (evL x (up (r0 s) 1)).2 = 3 then evL q { up (r0 s) 1 with steps := (evL x (up (r0 s) 1)).1.steps } else evL x (up (r0 s) 1) := by
  rw [evL_one, ev_mk, if_neg (by decide), if_neg (by decide), if_neg (by decide), if_neg (by decide), if_neg (by decide), if_pos rfl]
theorem steps_up (n : Nat) : ({ up (r0 s) 1 with steps := n } : RS) = up (r0 s) n := by
  unfold up r0
  simp only [Nat.zero_add]
theorem retry_ev (r : RS) : evL [.mk 15 0 0 0 0 0 0 [] []] r = if 1000 ≤ r.steps then (r, 4) else ({ r with steps := r.steps + 1 }, 3) := by
  have e : ∀ x : RS, ev (.mk 15 0 0 0 0 0 0 [] []) x = (x, 3) := fun x => by
    rw [ev_mk, if_neg (by decide), if_neg (by decide), if_neg (by decide), if_neg (by decide), if_neg (by decide), if_neg (by decide), if_pos rfl]
  rw [evL_cons, e]
  split
  · rfl
  · exact if_neg (fun h => by simp at h)
theorem or_law (h : errE s p = 0) (h' : errE s q = 0) (hc : errE s [.mk 14 0 0 0 0 0 0 (p ++ [.mk 15 0 0 0 0 0 0 [] []]) q] = 0) (hd : errE s [.mk 14 0 0 0 0 0 0 p q] = 0)
    (a4 : endE s p ≠ 4) (c4 : endE s [.mk 14 0 0 0 0 0 0 (p ++ [.mk 15 0 0 0 0 0 0 [] []]) q] ≠ 4) (d4 : endE s [.mk 14 0 0 0 0 0 0 p q] ≠ 4) :
    (endE s p = 2 → endE s [.mk 14 0 0 0 0 0 0 (p ++ [.mk 15 0 0 0 0 0 0 [] []]) q] = 2 ∧ endE s [.mk 14 0 0 0 0 0 0 p q] = 2) ∧
    (endE s p ≠ 2 → endE s [.mk 14 0 0 0 0 0 0 (p ++ [.mk 15 0 0 0 0 0 0 [] []]) q] = endE s q ∧ toldE s [.mk 14 0 0 0 0 0 0 (p ++ [.mk 15 0 0 0 0 0 0 [] []]) q] = toldE s q ∧ finE s [.mk 14 0 0 0 0 0 0 (p ++ [.mk 15 0 0 0 0 0 0 [] []]) q] = finE s q) ∧
    (endE s p = 3 → endE s [.mk 14 0 0 0 0 0 0 p q] = endE s q ∧ toldE s [.mk 14 0 0 0 0 0 0 p q] = toldE s q ∧ finE s [.mk 14 0 0 0 0 0 0 p q] = finE s q) ∧
    (endE s p ≠ 2 → endE s p ≠ 3 → endE s [.mk 14 0 0 0 0 0 0 p q] = endE s p ∧ toldE s [.mk 14 0 0 0 0 0 0 p q] = toldE s p ∧ finE s [.mk 14 0 0 0 0 0 0 p q] = finE s p) := by
  have x4 := end_four h a4
  have yc := end_four hc c4
  have yd := end_four hd d4
  have eC := or_ev (s := s) (q := q) (p ++ [.mk 15 0 0 0 0 0 0 [] []])
  have eD := or_ev (s := s) (q := q) p
  have z4 : (evL p (up (r0 s) 1)).2 ≠ 4 := by
    intro e
    rw [eD, if_neg (by omega)] at yd
    exact yd e
  have ez := shift_evL p (r0 s) 1 z4
  have i2 := end_iff h 2 (.inl rfl)
  have i3 := end_iff h 3 (.inr rfl)
  have qq : ∀ n (m : List Stm), errE s m = 0 → evL m (r0 s) = evL q { up (r0 s) 1 with steps := n } → (evL m (r0 s)).2 ≠ 4 → endE s m = endE s q ∧ toldE s m = toldE s q ∧ finE s m = finE s q := by
    intro n m hm e h4
    rw [steps_up] at e
    rw [e] at h4
    have := shift_evL q (r0 s) n h4
    exact alike h' hm (e.trans this)
  rw [evL_append] at eC
  have hcod := cod_evL p (r0 s)
  have x5 := (err_zero h).2
  have n20 : ¬ ((2 : Int) = 0) := by decide
  have n23 : ¬ ((2 : Int) = 3) := by decide
  have n43 : ¬ ((4 : Int) = 3) := by decide
  have n30 : ¬ ((3 : Int) = 0) := by decide
  refine ⟨fun h2 => ?_, fun h2 => ?_, fun h3 => ?_, fun h2 h3 => ?_⟩
  · have x2 := i2.1 h2
    rw [ez] at eC eD
    simp only [x2, if_neg n20, if_neg n23] at eC eD
    unfold endE endC
    rw [if_pos hc, if_pos hd, eC, eD]
    exact ⟨rfl, rfl⟩
  · have x2 : (evL p (r0 s)).2 ≠ 2 := fun e => h2 (i2.2 e)
    rcases hcod with e | e | e | e | e
    · rw [ez] at eC
      simp only [e, if_pos (rfl : (0 : Int) = 0)] at eC
      rw [retry_ev] at eC
      by_cases hs : 1000 ≤ (up (evL p (r0 s)).1 1).steps
      · simp only [if_pos hs, if_neg n43] at eC
        rw [eC] at yc
        exact absurd rfl yc
      · simp only [if_neg hs, if_pos (rfl : (3 : Int) = 3)] at eC
        exact qq _ _ hc eC yc
    · exact absurd e x2
    · rw [ez] at eC
      simp only [e, if_neg n30, if_pos (rfl : (3 : Int) = 3)] at eC
      exact qq _ _ hc eC yc
    · exact absurd e x4
    · exact absurd e x5
  · have x3 := i3.1 h3
    rw [if_pos (by rw [ez]; exact x3)] at eD
    exact qq _ _ hd eD yd
  · have x3 : (evL p (r0 s)).2 ≠ 3 := fun e => h3 (i3.2 e)
    rw [if_neg (by rw [ez]; exact x3), ez] at eD
    exact alike h hd eD
/-- So often, one behind the other. -/
def timesL (p : List Stm) : Nat → List Stm
  | 0 => []
  | n + 1 => timesL p n ++ p
theorem iter_snoc (f : RS → RS × Int) : ∀ n r, iterR f (n + 1) r = if (iterR f n r).2 = 0 then f (iterR f n r).1 else iterR f n r
  | 0, r => by
    show (if (f r).2 = 0 then iterR f 0 (f r).1 else f r) = _
    have e : (if (iterR f 0 r).2 = 0 then f (iterR f 0 r).1 else iterR f 0 r) = f r := if_pos rfl
    rw [e]
    split
    · rename_i h; exact Prod.ext rfl h.symm
    · rfl
  | n + 1, r => by
    show (if (f r).2 = 0 then iterR f (n + 1) (f r).1 else f r) = _
    have e : iterR f (n + 1) r = if (f r).2 = 0 then iterR f n (f r).1 else f r := rfl
    rw [e]
    by_cases h : (f r).2 = 0
    · rw [if_pos h, if_pos h, iter_snoc f n]
    · rw [if_neg h, if_neg h, if_neg h]
theorem evL_times (p : List Stm) : ∀ n r, evL (timesL p n) r = iterR (evL p) n r
  | 0, r => evL_nil r
  | n + 1, r => by
    show evL (timesL p n ++ p) r = _
    rw [evL_append, iter_snoc, evL_times p n]
theorem loop_law {n : Nat} (h : errE s (timesL p n) = 0) (h' : errE s [.mk 12 0 0 0 n 0 0 p []] = 0) (b4 : endE s [.mk 12 0 0 0 n 0 0 p []] ≠ 4) :
    endE s [.mk 12 0 0 0 n 0 0 p []] = endE s (timesL p n) ∧ toldE s [.mk 12 0 0 0 n 0 0 p []] = toldE s (timesL p n) ∧ finE s [.mk 12 0 0 0 n 0 0 p []] = finE s (timesL p n) := by
  have y4 := end_four h' b4
  have eY : evL [.mk 12 0 0 0 n 0 0 p []] (r0 s) = iterR (evL p) n (up (r0 s) 1) := by
    rw [evL_one, ev_mk, if_neg (by decide), if_neg (by decide), if_neg (by decide), if_pos rfl, Int.toNat_natCast]
  rw [← evL_times] at eY
  rw [eY] at y4
  exact alike h h' (eY.trans (shift_evL _ _ _ y4))
end
end Go.Proofs.YtfbeaklplefojaaGreatDoor.Ev

namespace Go.Proofs.YtfbeaklplefojaaGreatDoor.Ev
open Go.RowKit

set_option maxRecDepth 100000 in
set_option maxHeartbeats 4000000 in
theorem end_ok {w : World} {u : Value} {n : Int} (h : StopV w u n) (hg : Typed w) :
    Calls Tryz.prog 26 #[u] w fun e w' => e = .returned (.int .i64 (endC n)) ∧ Upd [] w w' := by
  have UA : Hid (Upd [] w (w.alloc (.cells #[.pointer none] 106))) := Lib.hid ((Upd.refl [] w).alloc _)
  have TA : Hid (Typed (w.alloc (.cells #[.pointer none] 106))) := Lib.hid (hg.upd UA.out (by simp))
  have BT := Lib.hid (Blk.new w 106 #[.pointer none])
  rcases h with ⟨rfl, rfl⟩ | ⟨rfl, rfl⟩ | ⟨g, st, y, rfl, hb, hy⟩
  · clear hg
    go_enter Tryz.func26, Tryz.ntmps26
    go_wp2_with fail
    go_ret
    exact ⟨rfl, UA.out⟩
  · clear hg
    go_enter Tryz.func26, Tryz.ntmps26
    go_wp2_with fail
    refine (Stp.as_errno 8 w.heap.size _ TA.out).mono ?_
    rintro e w1 ⟨rfl, hw⟩
    have UW : Hid (Upd [] w w1) := Lib.hid (hw ▸ UA.out.trans (Stp.asWorld_upd _ _))
    clear hw
    go_wp2_with fail
    go_ret
    exact ⟨rfl, UW.out⟩
  · have HB := Lib.hid hb
    have HY := Lib.hid hy
    clear hg hb hy
    go_enter Tryz.func26, Tryz.ntmps26
    go_wp2_with fail
    refine (Stp.as_stop g w.heap.size _ TA.out BT.out).mono ?_
    rintro e w1 ⟨rfl, hw⟩
    have UX : Hid (Upd [] (w.alloc (.cells #[.pointer none] 106)) ((Stp.asWorld (w.alloc (.cells #[.pointer none] 106)) w.heap.size).alloc (.cells #[.pointer (some ⟨g, 0, none⟩)] 106))) := Lib.hid ((Stp.asWorld_upd _ _).alloc _)
    have UW : Hid (Upd [] w w1) := Lib.hid (by
      rw [hw]
      exact (UA.out.trans UX.out).setCell (.inr (Nat.le_refl _)) _)
    have e0 : w1.cell? ⟨w.heap.size, 0, none⟩ = some (.pointer (some ⟨g, 0, none⟩)) := by
      rw [hw]
      exact ((BT.out.upd UX.out (by simp)).set_eq (i := 0) rfl).cell 0
    have e1 : w1.cell? ⟨g, 1, none⟩ = some (.int .i64 y) := (HB.out.upd UW.out (by simp)).cell 1
    clear hw UX
    rcases HY.out with ⟨rfl, rfl⟩ | ⟨rfl, rfl⟩ | ⟨rfl, rfl⟩
    · go_wp2_with fail
      go_ret
      exact ⟨rfl, UW.out⟩
    · go_wp2_with fail
      go_ret
      exact ⟨rfl, UW.out⟩
    · go_wp2_with fail
      go_ret
      exact ⟨rfl, UW.out⟩
end Go.Proofs.YtfbeaklplefojaaGreatDoor.Ev

namespace Go.Proofs.YtfbeaklplefojaaGreatDoor
open Go.RowKit Assoc MP
attribute [local go_sem] litStep_value

set_option maxRecDepth 100000 in
theorem m_coll_nil (c : Int) (w : World) : Calls Tryz.prog 32 #[.pointer none, .int .i64 c] w fun e w' => e = .returned (.tuple #[.map none, .iface 63 (.int .i64 1)]) ∧ w = w' := by
  go_enter Tryz.func32, Tryz.ntmps32
  go_wp2_with fail
  go_ret2
  exact ⟨rfl, rfl⟩
set_option maxRecDepth 100000 in
theorem m_get_nil (c k : Int) (w : World) : Calls Tryz.prog 49 #[.pointer none, .int .i64 c, .int .i64 k] w fun e w' => e = .returned (.tuple #[.int .i64 0, .bool false, .iface 63 (.int .i64 1)]) ∧ w = w' := by
  skip
  go_enter Tryz.func49, Tryz.ntmps49
  go_wp2_with fail
  refine (m_coll_nil c w).mono ?_; rintro e w1 ⟨rfl, rfl⟩
  go_wp2_with fail
  go_ret3
  exact ⟨rfl, rfl⟩
set_option maxRecDepth 100000 in
theorem m_put_nil (c k v : Int) (w : World) : Calls Tryz.prog 52 #[.pointer none, .int .i64 c, .int .i64 k, .int .i64 v] w fun e w' => e = .returned (.iface 63 (.int .i64 1)) ∧ w = w' := by
  skip
  go_enter Tryz.func52, Tryz.ntmps52
  go_wp2_with fail
  refine (m_coll_nil c w).mono ?_; rintro e w1 ⟨rfl, rfl⟩
  go_wp2_with fail
  go_ret
  exact ⟨rfl, rfl⟩
set_option maxRecDepth 100000 in
theorem m_del_nil (c k : Int) (w : World) : Calls Tryz.prog 53 #[.pointer none, .int .i64 c, .int .i64 k] w fun e w' => e = .returned (.iface 63 (.int .i64 1)) ∧ w = w' := by
  skip
  go_enter Tryz.func53, Tryz.ntmps53
  go_wp2_with fail
  refine (m_coll_nil c w).mono ?_; rintro e w1 ⟨rfl, rfl⟩
  go_wp2_with fail
  go_ret
  exact ⟨rfl, rfl⟩
set_option maxRecDepth 100000 in
theorem m_size_nil (c : Int) (w : World) : Calls Tryz.prog 38 #[.pointer none, .int .i64 c] w fun e w' => e = .returned (.tuple #[.int .i64 0, .iface 63 (.int .i64 1)]) ∧ w = w' := by
  have ln0 : ∀ W, (Builtin.len_ #[77] 3 #[.map none]).run Tryz.prog W = .ok (.int .i64 0) W := fun W => by kernel_rfl
  go_enter Tryz.func38, Tryz.ntmps38
  go_wp2_with fail
  refine (m_coll_nil c w).mono ?_; rintro e w1 ⟨rfl, rfl⟩
  go_wp2_with fail
  go_ret2
  exact ⟨rfl, rfl⟩
set_option maxRecDepth 100000 in
theorem m_ordered_nil (c : Int) (w : World) : Calls Tryz.prog 76 #[.pointer none, .int .i64 c] w fun e w' => e = .returned (.tuple #[.slice none 0 0, .iface 63 (.int .i64 1)]) ∧ w = w' := by
  skip
  go_enter Tryz.func76, Tryz.ntmps76
  go_wp2_with fail
  refine (m_coll_nil c w).mono ?_; rintro e w1 ⟨rfl, rfl⟩
  go_wp2_with fail
  go_ret2
  exact ⟨rfl, rfl⟩
set_option maxRecDepth 100000 in
theorem m_ceil_nil (c k : Int) (w : World) : Calls Tryz.prog 55 #[.pointer none, .int .i64 c, .int .i64 k] w fun e w' => e = .returned (.tuple #[.int .i64 0, .bool false, .iface 63 (.int .i64 1)]) ∧ w = w' := by
  skip
  go_enter Tryz.func55, Tryz.ntmps55
  go_wp2_with fail
  refine (m_ordered_nil c w).mono ?_; rintro e w1 ⟨rfl, rfl⟩
  go_wp2_with fail
  go_ret3
  exact ⟨rfl, rfl⟩
set_option maxRecDepth 100000 in
theorem m_range_nil (c k v : Int) (w : World) : Calls Tryz.prog 57 #[.pointer none, .int .i64 c, .int .i64 k, .int .i64 v] w fun e w' => e = .returned (.tuple #[.int .i64 0, .iface 63 (.int .i64 1)]) ∧ w = w' := by
  skip
  go_enter Tryz.func57, Tryz.ntmps57
  go_wp2_with fail
  refine (m_ordered_nil c w).mono ?_; rintro e w1 ⟨rfl, rfl⟩
  go_wp2_with fail
  go_ret2
  exact ⟨rfl, rfl⟩
set_option maxRecDepth 100000 in
theorem m_list_nil (c : Int) (w : World) : Calls Tryz.prog 17 #[.pointer none, .int .i64 c] w fun e w' => e = .returned (.tuple #[.slice none 0 0, .iface 63 (.int .i64 1)]) ∧ w = w' := by
  skip
  go_enter Tryz.func17, Tryz.ntmps17
  go_wp2_with fail
  refine (m_coll_nil c w).mono ?_; rintro e w1 ⟨rfl, rfl⟩
  go_wp2_with fail
  go_ret2
  exact ⟨rfl, rfl⟩
theorem m_copy_nil (w : World) : Calls Tryz.prog 22 #[.pointer none] w fun e w' => e = .returned (.pointer none) ∧ w = w' := by
  go_enter Tryz.func22, Tryz.ntmps22
  go_wp2_with fail
  go_ret
  exact ⟨rfl, rfl⟩
theorem m_same_nil (w : World) : Calls Tryz.prog 12 #[.pointer none, .pointer none] w fun e w' => e = .returned (.bool true) ∧ w = w' := by
  go_enter Tryz.func12, Tryz.ntmps12
  go_wp2_with fail
  go_ret
  exact ⟨rfl, rfl⟩
theorem m_kinds_nil (w : World) : Calls Tryz.prog 24 #[.pointer none] w fun e w' => e = .returned (.slice none 0 0) ∧ w = w' := by
  go_enter Tryz.func24, Tryz.ntmps24
  go_wp2_with fail
  go_ret
  exact ⟨rfl, rfl⟩
end Go.Proofs.YtfbeaklplefojaaGreatDoor

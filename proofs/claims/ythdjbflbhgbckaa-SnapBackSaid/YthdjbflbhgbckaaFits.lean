/-
  Package snap: whether a turn fits; what its place makes of the list.
-/
import Derived.Test.YthdjbflbhgbckaaBackP
import Derived.Test.YthdjbflbhgbckaaDiff
import Derived.Test.YthdjbflbhgbckaaIns
import Derived.Test.YthdjbflbhgbckaaDel
set_option linter.unusedVariables false
namespace Go.Proofs.Ythdjbflbhgbckaa
open Go.RowKit Stab Snap
attribute [local go_sem] litStep_value

/-- At a place: ahead of it all keys are below, behind it above. -/
theorem split_here {r : PL} {i : Nat} {p : Int × Int} (h : r[i]? = some p) : r = r.take i ++ p :: r.drop (i + 1) := by
  obtain ⟨h1, h2⟩ := List.getElem?_eq_some_iff.1 h
  rw [← h2, ← List.drop_eq_getElem_cons h1, List.take_append_drop]
theorem FindAt.at_ {r : PL} {key : Int} {i : Nat} (h : FindAt r key i true) : ∃ v, r[i]? = some (key, v) := by
  obtain ⟨h1, h2⟩ := h.is.1 rfl
  rw [List.getD_eq_getElem?_getD, List.getElem?_eq_getElem h1] at h2
  exact ⟨(r[i]).2, by rw [List.getElem?_eq_getElem h1]; exact congrArg some (Prod.ext h2 rfl)⟩
theorem FindAt.del {r : PL} {key : Int} {i : Nat} (h : FindAt r key i true) (hs : Assoc.Srt r) : delL r i = Assoc.del r key := by
  obtain ⟨v, hv⟩ := h.at_
  have e := split_here hv
  have hs' := hs
  rw [e] at hs'
  have := del_at hs'
  rw [← e] at this
  exact this.symm
theorem FindAt.set {r : PL} {key : Int} {i : Nat} (h : FindAt r key i true) (hs : Assoc.Srt r) (v : Int) : r.set i (key, v) = Assoc.put r key v := by
  obtain ⟨v0, hv⟩ := h.at_
  have e := split_here hv
  have hs' := hs
  rw [e] at hs'
  have := put_over (v := v) hs'
  rw [← e] at this
  rw [List.set_eq_take_append_cons_drop, if_pos (List.getElem?_eq_some_iff.1 hv).1]
  exact this.symm
theorem FindAt.ins {r : PL} {key : Int} {i : Nat} (h : FindAt r key i false) (hs : Assoc.Srt r) (v : Int) : insL r i (key, v) = Assoc.put r key v := by
  have hsp : r.take i ++ r.drop i = r := List.take_append_drop i r
  have h0 := hs
  rw [← hsp] at h0
  obtain ⟨s1, s2, s3⟩ := srt_app_iff.1 h0
  have hlo : ∀ x ∈ r.take i, x.1 < key := fun x hx => by
    obtain ⟨j, hj, rfl⟩ := List.getElem_of_mem hx
    rw [List.length_take] at hj
    have := h.lo j (by omega)
    rw [List.getD_eq_getElem?_getD, List.getElem?_eq_getElem (by omega)] at this
    rw [List.getElem_take]
    exact this
  have hhi : ∀ x ∈ r.drop i, key < x.1 := fun x hx => by
    obtain ⟨j, hj, rfl⟩ := List.getElem_of_mem hx
    rw [List.length_drop] at hj
    rw [List.getElem_drop]
    have h1 := h.hi (i + j) (by omega) (by omega)
    rw [List.getD_eq_getElem?_getD, List.getElem?_eq_getElem (by omega)] at h1
    have h1' : key ≤ (r[i + j]).1 := h1
    rcases Int.lt_or_eq_of_le h1' with h2 | h2
    · exact h2
    · exfalso
      rcases Nat.eq_zero_or_pos j with rfl | hj0
      · have := h.is.2 ⟨by omega, by rw [List.getD_eq_getElem?_getD, List.getElem?_eq_getElem (by omega)]; exact h2.symm⟩
        cases this
      · have h3 := h.hi i (Nat.le_refl _) (by omega)
        rw [List.getD_eq_getElem?_getD, List.getElem?_eq_getElem (by omega)] at h3
        have h3' : key ≤ (r[i]).1 := h3
        have h4 := List.pairwise_iff_getElem.1 hs i (i + j) (by omega) (by omega) (by omega)
        have h4' : (r[i]).1 < (r[i + j]).1 := h4
        omega
  have hq : Assoc.Srt (r.take i ++ (key, v) :: r.drop i) := srt_app_iff.2 ⟨s1, List.pairwise_cons.2 ⟨hhi, s2⟩, fun x hx y hy => by
    rcases List.mem_cons.1 hy with rfl | hy
    · exact hlo x hx
    · exact s3 x hx y hy⟩
  have := put_at hq
  rw [hsp] at this
  exact this.symm
theorem flat_set {acc : PL} {i : Nat} {k o v : Int} (h : acc[i]? = some (k, o)) : (flat encPr acc).set (i * 2 + 1) (.int .i64 v) = flat encPr (acc.set i (k, v)) := by
  have hi := (List.getElem?_eq_some_iff.1 h).1
  have e := split_here h
  have hl : (flat encPr (acc.take i)).length = i * 2 := by rw [flat_len, List.length_take, Nat.min_eq_left (by omega)]; rfl
  have e2 : acc.set i (k, v) = acc.take i ++ (k, v) :: acc.drop (i + 1) := by rw [List.set_eq_take_append_cons_drop, if_pos hi]
  have e3 : flat encPr acc = flat encPr (acc.take i) ++ (.int .i64 k :: .int .i64 o :: flat encPr (acc.drop (i + 1))) := by
    conv => lhs; rw [e]
    rw [flat_append, flat_cons]
    rfl
  rw [e2, e3, flat_append, flat_cons, List.set_append_right _ _ (by omega), hl, show i * 2 + 1 - i * 2 = 1 by omega]
  rfl
def fitsB (r : PL) (t : Tn) : Bool :=
  if t.1 = 1 then !(Assoc.get r t.2.1).isSome
  else if t.1 = 2 ∨ t.1 = 3 then decide (Assoc.get r t.2.1 = some t.2.2.1)
  else false
theorem fits_step (r : PL) (t : Tn) : fitsB r t = (stepTn r t).isSome := by
  unfold fitsB stepTn
  by_cases k1 : t.1 = 1
  · rw [if_pos k1, if_pos k1]
    cases Assoc.get r t.2.1 <;> simp
  · rw [if_neg k1, if_neg k1]
    by_cases k2 : t.1 = 2
    · rw [if_pos (.inl k2), if_pos k2]
      by_cases h : Assoc.get r t.2.1 = some t.2.2.1
      · rw [if_pos h, decide_eq_true h]; rfl
      · rw [if_neg h, decide_eq_false h]; rfl
    · rw [if_neg k2]
      by_cases k3 : t.1 = 3
      · rw [if_pos (.inr k3), if_pos k3]
        by_cases h : Assoc.get r t.2.1 = some t.2.2.1
        · rw [if_pos h, decide_eq_true h]; rfl
        · rw [if_neg h, decide_eq_false h]; rfl
      · rw [if_neg (by simp [k2, k3]), if_neg k3]; rfl
set_option maxRecDepth 100000 in
set_option maxHeartbeats 2000000 in
theorem fits_ok (B sb : Nat) (r : PL) (t : Tn) (w : World) (h : SnapIs B sb w r) : Calls Try.prog 43 #[.pointer (some ⟨sb, 0, none⟩), .agg #[.int .i64 t.1, .int .i64 t.2.1, .int .i64 t.2.2.1, .int .i64 t.2.2.2]] w fun e w' => e = .returned (.bool (fitsB r t)) ∧ Upd [] w w' := by
  have A0 : Hid (Upd [] w (w.alloc (.cells #[.int .i64 t.1, .int .i64 t.2.1, .int .i64 t.2.2.1, .int .i64 t.2.2.2] 65))) := Lib.hid ((Upd.refl [] w).alloc _)
  have B0 : Hid (Blk (w.alloc (.cells #[.int .i64 t.1, .int .i64 t.2.1, .int .i64 t.2.2.1, .int .i64 t.2.2.2] 65)) w.heap.size 65 #[.int .i64 t.1, .int .i64 t.2.1, .int .i64 t.2.2.1, .int .i64 t.2.2.2]) := Lib.hid (Blk.new w _ _)
  have H := Lib.hid (h.upd0 A0.out)
  obtain ⟨tb, htb⟩ : ∃ tb, w.heap.size = tb := ⟨_, rfl⟩
  rw [htb] at B0
  clear h
  go_enter Try.func43, Try.ntmps43
  go_wp2_with fail
  generalize (w.alloc (.cells #[.int .i64 t.1, .int .i64 t.2.1, .int .i64 t.2.2.1, .int .i64 t.2.2.2] 65)) = w1 at *
  refine (s_get B sb r t.2.1 w1 H.out).mono ?_
  rintro e w2 ⟨rfl, u2⟩
  have U2 := Lib.hid (A0.out.trans u2)
  have B2 := Lib.hid (B0.out.upd u2 (by simp))
  have c0 : w2.cell? ⟨tb, 0, none⟩ = some (.int .i64 t.1) := B2.out.cell 0
  have c2 : w2.cell? ⟨tb, 2, none⟩ = some (.int .i64 t.2.2.1) := B2.out.cell 2
  clear u2 htb
  obtain ⟨og, hog⟩ : ∃ og, Assoc.get r t.2.1 = og := ⟨_, rfl⟩
  have HOG := Lib.hid hog
  rw [hog]
  clear hog
  by_cases k1 : t.1 = 1
  · have FV : Hid (fitsB r t = !og.isSome) := Lib.hid (by unfold fitsB; rw [if_pos k1, HOG.out])
    have d1 : (t.1 == 1) = true := by simpa using k1
    clear k1
    obtain ⟨ob, hob⟩ : ∃ ob, og.isSome = ob := ⟨_, rfl⟩
    have HOB := Lib.hid hob
    rw [hob]
    clear hob
    go_wp2_with fail
    go_ret
    exact ⟨by rw [FV.out, HOB.out]; rfl, U2.out⟩
  · have d1 : (t.1 == 1) = false := by simpa using k1
    by_cases k23 : t.1 = 2 ∨ t.1 = 3
    · have FV : Hid (fitsB r t = decide (og = some t.2.2.1)) := Lib.hid (by unfold fitsB; rw [if_neg k1, if_pos k23, HOG.out])
      rcases k23 with k2 | k2
      · have d2 : (t.1 == 2) = true := by simpa using k2
        clear k1 k2
        cases og with
        | none =>
          go_wp2_with fail
          go_ret
          exact ⟨by rw [FV.out]; rfl, U2.out⟩
        | some v =>
          obtain ⟨bv, hbv⟩ : ∃ bv, (v == t.2.2.1) = bv := ⟨_, rfl⟩
          have BV : Hid (decide ((some v : Option Int) = some t.2.2.1) = bv) := Lib.hid (by rw [← hbv]; simp [BEq.beq])
          go_wp2_with fail
          go_ret
          exact ⟨by rw [FV.out, BV.out]; rfl, U2.out⟩
      · have d2 : (t.1 == 2) = false := by simp [k2]
        have d3 : (t.1 == 3) = true := by simpa using k2
        clear k1 k2
        cases og with
        | none =>
          go_wp2_with fail
          go_ret
          exact ⟨by rw [FV.out]; rfl, U2.out⟩
        | some v =>
          obtain ⟨bv, hbv⟩ : ∃ bv, (v == t.2.2.1) = bv := ⟨_, rfl⟩
          have BV : Hid (decide ((some v : Option Int) = some t.2.2.1) = bv) := Lib.hid (by rw [← hbv]; simp [BEq.beq])
          go_wp2_with fail
          go_ret
          exact ⟨by rw [FV.out, BV.out]; rfl, U2.out⟩
    · have FV : Hid (fitsB r t = false) := Lib.hid (by unfold fitsB; rw [if_neg k1, if_neg k23])
      have d2 : (t.1 == 2) = false := by simp; intro e; exact k23 (.inl e)
      have d3 : (t.1 == 3) = false := by simp; intro e; exact k23 (.inr e)
      clear k1 k23
      go_wp2_with fail
      go_ret
      exact ⟨by rw [FV.out]; rfl, U2.out⟩
end Go.Proofs.Ythdjbflbhgbckaa

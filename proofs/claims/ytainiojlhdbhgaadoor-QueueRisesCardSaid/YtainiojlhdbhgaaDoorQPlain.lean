/-
  A queue's timers and the document's list in order: what each call does to both, plainly.
-/
import Derived.Test.YtainiojlhdbhgaaDoorQueue3
import Derived.Test.YtainiojlhdbhgaaDoorQueue4
import Derived.Test.YtainiojlhdbhgaaDoorQAlive
import Derived.Test.YtainiojlhdbhgaaDoorSortPlain
set_option linter.unusedVariables false
namespace Go.Proofs.YtainiojlhdbhgaaDoor
open HeapPlain

theorem ltT_tot : Tot ltT := ⟨ltT_irr, fun a b c h1 h2 => by
    unfold ltT at h1 h2 ⊢
    simp at h1 h2 ⊢
    omega, fun a b h => by
    unfold ltT
    simp only [Bool.or_eq_true, decide_eq_true_eq, Bool.and_eq_true, beq_iff_eq]
    have : a.wn ≠ b.wn ∨ a.id ≠ b.id := by
      rcases Decidable.em (a.wn = b.wn) with h1 | h1
      · exact .inr fun h2 => h (by cases a; cases b; simp_all)
      · exact .inl h1
    omega⟩
abbrev SrtT (S : List Tm) : Prop := S.Pairwise (fun a b => ltT a b = true)
abbrev idsT (S : List Tm) : List Int := S.map (·.id)
theorem idsT_get {S : List Tm} {i : Nat} (h : i < (idsT S).length) : (idsT S)[i] = (S[i]'(by simpa [idsT] using h)).id := by simp [idsT]
theorem ids_uniq {S : List Tm} (h : (idsT S).Nodup) {a b : Tm} (ha : a ∈ S) (hb : b ∈ S) (e : a.id = b.id) : a = b := by
  obtain ⟨i, hi, rfl⟩ := List.getElem_of_mem ha
  obtain ⟨j, hj, rfl⟩ := List.getElem_of_mem hb
  rcases Nat.lt_trichotomy i j with h1 | h1 | h1
  · exact absurd e (by have := List.pairwise_iff_getElem.1 h i j (by simpa [idsT] using hi) (by simpa [idsT] using hj) h1; rwa [idsT_get, idsT_get] at this)
  · subst h1; rfl
  · exact absurd e.symm (by have := List.pairwise_iff_getElem.1 h j i (by simpa [idsT] using hj) (by simpa [idsT] using hi) h1; rwa [idsT_get, idsT_get] at this)
theorem nodup_of_ids {S : List Tm} (h : (idsT S).Nodup) : S.Nodup := List.Pairwise.of_map (·.id) (fun _ _ h e => h (e ▸ rfl)) h
theorem hasT_mem {S : List Tm} {id : Int} : hasT S id = true ↔ ∃ x ∈ S, x.id = id := by
  unfold hasT
  rw [List.any_eq_true]
  simp
theorem hasT_not {S : List Tm} {id : Int} : hasT S id = false ↔ ∀ x ∈ S, x.id ≠ id := by
  unfold hasT
  rw [List.any_eq_false]
  simp
/-- Sorted, of whatever is in weak order with unlike IDs. -/
theorem strict_of {out : List Tm} (hn : (idsT out).Nodup) (h : out.Pairwise (fun a b => ltT b a = false)) : SrtT out := by
  have h2 := h.and (nodup_of_ids hn)
  refine h2.imp ?_
  rintro a b ⟨h1, h3⟩
  rcases ltT_tot.tri a b h3 with h | h
  · exact h
  · rw [h] at h1; cases h1

theorem push_srt {S : List Tm} {x : Tm} (hs : SrtT S) (h : hasT S x.id = false) : SrtT (insO ltT S x) := insO_pairwise ltT_tot hs fun hm => hasT_not.1 h x hm rfl
theorem push_perm {ts us S : List Tm} {x : Tm} (hp : ts.Perm S) (hu : us.Perm (x :: ts)) : us.Perm (insO ltT S x) := hu.trans ((hp.cons x).trans (insO_perm S x).symm)

/-- The place of an ID in a list; none. -/
def posS (S : List Tm) (id : Int) : Option Nat := S.findIdx? (fun t => t.id == id)
theorem posS_some {S : List Tm} {id : Int} {k : Nat} (h : posS S id = some k) : ∃ x, S[k]? = some x ∧ x.id = id := by
  unfold posS at h
  rw [List.findIdx?_eq_some_iff_getElem] at h
  obtain ⟨hk, h1, _⟩ := h
  exact ⟨S[k], List.getElem?_eq_getElem hk, by simpa using h1⟩
theorem posS_has {S : List Tm} {id : Int} : (posS S id).isSome = hasT S id := by
  cases h : posS S id with
  | none =>
    unfold posS at h
    rw [List.findIdx?_eq_none_iff] at h
    symm
    rw [Option.isSome_none, hasT_not]
    intro x hx
    simpa using h x hx
  | some k =>
    obtain ⟨x, h1, h2⟩ := posS_some h
    symm
    rw [Option.isSome_some, hasT_mem]
    exact ⟨x, List.mem_of_getElem? h1, h2⟩
theorem erase_perm {S : List Tm} {k : Nat} {x : Tm} (h : S[k]? = some x) : (x :: S.eraseIdx k).Perm S := by
  obtain ⟨hk, rfl⟩ := List.getElem?_eq_some_iff.1 h
  rw [List.eraseIdx_eq_take_drop_succ]
  have : S = S.take k ++ S[k] :: S.drop (k + 1) := by rw [← List.drop_eq_getElem_cons hk, List.take_append_drop]
  conv => rhs; rw [this]
  exact List.perm_middle.symm
theorem cancel_both {ts us S : List Tm} {id : Int} {k : Nat} (hn : (idsT S).Nodup) (hp : ts.Perm S) (hs : SrtT S) (hk : posS S id = some k) (hu : (ts.getD (atT ts id) default :: us).Perm ts) :
    us.Perm (S.eraseIdx k) ∧ SrtT (S.eraseIdx k) := by
  obtain ⟨x, hx, hid⟩ := posS_some hk
  have hh : hasT ts id = true := by rw [hasT_perm hp, ← posS_has, hk]; rfl
  have h1 := atT_at hh
  have e : ts.getD (atT ts id) default = x := by
    refine ids_uniq hn (hp.mem_iff.1 ?_) (List.mem_of_getElem? hx) (h1.2.trans hid.symm)
    rw [List.getD_eq_getElem?_getD, List.getElem?_eq_getElem h1.1]
    exact List.getElem_mem _
  rw [e] at hu
  exact ⟨((hu.trans hp).trans (erase_perm hx).symm).cons_inv, hs.sublist (List.eraseIdx_sublist ..)⟩
theorem set_perm {ts : List Tm} {k : Nat} {x y : Tm} (h : ts[k]? = some x) : (ts.set k y).Perm (y :: ts.eraseIdx k) := by
  obtain ⟨hk, rfl⟩ := List.getElem?_eq_some_iff.1 h
  rw [List.eraseIdx_eq_take_drop_succ, List.set_eq_take_append_cons_drop, if_pos hk]
  exact List.perm_middle
theorem move_both {ts us S : List Tm} {id wn : Int} {k : Nat} (hn : (idsT S).Nodup) (hp : ts.Perm S) (hs : SrtT S) (hk : posS S id = some k) (hu : us.Perm (ts.set (atT ts id) ⟨wn, id⟩)) :
    us.Perm (insO ltT (S.eraseIdx k) ⟨wn, id⟩) ∧ SrtT (insO ltT (S.eraseIdx k) ⟨wn, id⟩) := by
  have hh : hasT ts id = true := by rw [hasT_perm hp, ← posS_has, hk]; rfl
  have h1 := atT_at hh
  have hx : ts[atT ts id]? = some (ts.getD (atT ts id) default) := by rw [List.getD_eq_getElem?_getD, List.getElem?_eq_getElem h1.1]; rfl
  obtain ⟨h2, h3⟩ := cancel_both hn hp hs hk (us := ts.eraseIdx (atT ts id)) (erase_perm hx)
  obtain ⟨x, hxk, hid⟩ := posS_some hk
  refine ⟨push_perm h2 (hu.trans (set_perm hx)), push_srt h3 (hasT_not.2 fun z hz => ?_)⟩
  show z.id ≠ id
  intro e
  have hnd := ((erase_perm hxk).map (·.id)).nodup_iff.2 hn
  rw [List.map_cons, List.nodup_cons] at hnd
  exact hnd.1 (List.mem_map.2 ⟨z, hz, e.trans hid.symm⟩)
/-- What is due. -/
def dueT (S : List Tm) (now : Int) : List Tm := S.takeWhile (fun t => decide (t.wn ≤ now))
def restT (S : List Tm) (now : Int) : List Tm := S.dropWhile (fun t => decide (t.wn ≤ now))
theorem due_split (S : List Tm) (now : Int) : dueT S now ++ restT S now = S := List.takeWhile_append_dropWhile
theorem rest_high {S : List Tm} (hs : SrtT S) (now : Int) : ∀ b ∈ restT S now, now < b.wn := by
  intro b hb
  have hsp := due_split S now
  cases hd : restT S now with
  | nil => rw [hd] at hb; cases hb
  | cons c r =>
    have hc := dropWhile_head _ _ _ _ hd
    have hc' : now < c.wn := by simpa using hc
    rw [hd] at hb hsp
    rw [← hsp] at hs
    have hs := List.pairwise_append.1 hs
    rcases List.mem_cons.1 hb with rfl | hb
    · exact hc'
    · have := (List.pairwise_cons.1 hs.2.1).1 b hb
      unfold ltT at this
      simp at this
      omega
theorem due_both {ts out us S : List Tm} {now : Int} (hn : (idsT S).Nodup) (hp : ts.Perm S) (hs : SrtT S) (hu : (out ++ us).Perm ts) (hl : ∀ a ∈ out, a.wn ≤ now) (ho : out.Pairwise (fun a b => ltT b a = false)) (hr : ∀ b ∈ us, now < b.wn) :
    out = dueT S now ∧ us.Perm (restT S now) ∧ SrtT (restT S now) := by
  have hsp := due_split S now
  have hS := hs
  rw [← hsp] at hS
  have hS := List.pairwise_append.1 hS
  have hP : (out ++ us).Perm (dueT S now ++ restT S now) := by rw [hsp]; exact hu.trans hp
  have hlow : ∀ a ∈ dueT S now, a.wn ≤ now := fun a ha => by simpa using takeWhile_all _ _ _ ha
  have hhigh := rest_high hs now
  have f1 := hP.filter (fun t => decide (t.wn ≤ now))
  have f2 := hP.filter (fun t => decide (now < t.wn))
  rw [List.filter_append, List.filter_append] at f1 f2
  rw [List.filter_eq_self.2 (fun a ha => by simpa using hl a ha), List.filter_eq_nil_iff.2 (fun b hb => by have := hr b hb; simp; omega), List.filter_eq_self.2 (fun a ha => by simpa using hlow a ha), List.filter_eq_nil_iff.2 (fun b hb => by have := hhigh b hb; simp; omega), List.append_nil, List.append_nil] at f1
  rw [List.filter_eq_nil_iff.2 (fun a ha => by have := hl a ha; simp; omega), List.filter_eq_self.2 (fun b hb => by simpa using hr b hb), List.filter_eq_nil_iff.2 (fun a ha => by have := hlow a ha; simp; omega), List.filter_eq_self.2 (fun b hb => by simpa using hhigh b hb), List.nil_append, List.nil_append] at f2
  have hno : (idsT out).Nodup := by
    have h1 := ((hu.trans hp).map (·.id)).nodup_iff.2 hn
    rw [List.map_append, List.nodup_append] at h1
    exact h1.1
  exact ⟨sorted_uniq ltT_tot f1 (strict_of hno ho) hS.1, f2, hS.2.1⟩
end Go.Proofs.YtainiojlhdbhgaaDoor

/-
  A region that draws its order, where the order is forced in all that matters: what it does, it does as if in the order of the text. No program in sight.
-/
import Derived.Orders
import Derived.Tactics
import Derived.Laws.World
namespace Go.Proofs.YtiahnlaplkeiaaaDoor
open Go

/-- Operations that only compute, or read. -/
def lightOp : Op → Bool
  | .move _ | .assign _ | .pick .. | .load .. | .nilCheck _ | .binOp .. | .unOp .. | .fieldAddr .. | .field .. | .indexAddr .. | .index .. | .extract .. | .slice .. | .makeInterface .. | .lookup .. | .typeAssert .. | .convert .. | .makeFunc .. => true
  | .call { callee := .builtin .len, .. } | .call { callee := .builtin .cap, .. } | .call { callee := .builtin .min, .. } | .call { callee := .builtin .max, .. } => true
  | _ => false
/-- A copy that waits for nothing. -/
def isFloat (o : Oper) : Bool := (match o.op with | .move _ => true | _ => false) && o.guard.isNone && o.after.all (fun e => !Region.binds .any e)

/-- One light operation: it yields a value and leaves the world alone. -/
def litStep (r : Result Next) (w : World) (K : Value → Prop) : Prop :=
  match r with
  | .ok (.value v) w' => w' = w ∧ K v
  | _ => False
theorem litStep_value (v : Value) (w' w : World) (K : Value → Prop) : litStep (.ok (.value v) w') w K = (w' = w ∧ K v) := rfl

section
variable (P : Program) (ops : Array Oper) (Q : Exit → Act → World → Prop)
/-- These operations one behind the other. -/
def wpF : List Oper → Act → World → Prop
  | [], a, w => Q .normal a w
  | o :: l, a, w =>
    if Region.wanted o (yielded ops a.tmps) then (if lightOp o.op then litStep ((execOp a.eval o).run P w) w (fun v => wpF l (a.put o.dst v) w) else o.wp P a w (wpF l) Q) else wpF l (a.put o.dst undef) w
/-- The same by their numbers. -/
def wpI : List Nat → Act → World → Prop
  | [], a, w => Q .normal a w
  | i :: l, a, w => match ops[i]? with
    | none => False
    | some o => if Region.wanted o (yielded ops a.tmps) then (if lightOp o.op then litStep ((execOp a.eval o).run P w) w (fun v => wpI l (a.put o.dst v) w) else o.wp P a w (wpI l) Q) else wpI l (a.put o.dst undef) w
def dstOf (i : Nat) : Option Tmp := (ops[i]?).bind (·.dst)
def lookOf (i : Nat) : List Tmp := match ops[i]? with | some o => o.looksAt ops | none => []
def lightAt (i : Nat) : Bool := match ops[i]? with | some o => lightOp o.op | none => false
def depB (j x : Nat) : Bool := match ops[j]? with | some o => o.after.any (fun e => Region.binds .any e && e.on == x) | none => false
def depsBack (j : Nat) : Bool := match ops[j]? with | some o => o.after.all (fun e => !Region.binds .any e || decide (e.on < j)) | none => false
def pairOk (x j : Nat) : Bool :=
  (match dstOf ops x with | some d => (dstOf ops j != some d) && (!(lookOf ops j).contains d || depB ops j x) | none => true) &&
  (match dstOf ops j with | some d => !(lookOf ops x).contains d || depB ops j x | none => true)
/-- What is asked of the operations that are left when the copies are done. -/
def okR (R : List Nat) : Bool :=
  R.all (fun j => decide (j < ops.size) && depsBack ops j) &&
  R.all (fun h => lightAt ops h || R.all fun j => decide (j ≤ h) || R.any fun y => decide (h ≤ y) && depB ops j y) &&
  R.all (fun h => lightAt ops h || R.all fun x => decide (h ≤ x) || R.any fun y => decide (x < y) && decide (y ≤ h) && depB ops y x) &&
  R.all (fun j => !lightAt ops j || R.all fun x => !decide (x < j) || !lightAt ops x || pairOk ops x j)
def floats : List Nat := (List.range ops.size).filter fun i => ((ops[i]?).map isFloat).getD false
def others : List Nat := (List.range ops.size).filter fun i => !((ops[i]?).map isFloat).getD false
def markAll : List Nat → Array Bool → Array Bool
  | [], L => L
  | i :: l, L => markAll l (L.setIfInBounds i true)
def floatsOk : List Nat → Array Bool → Bool
  | [], _ => true
  | i :: l, L => (match ops[i]? with | some o => isFloat o | none => false) && Region.free .any ops L i && (Region.ready .any ops L).contains i && floatsOk l (L.setIfInBounds i true)
def forcedB : Bool := Region.noSelect ops && okR ops (others ops) && floatsOk ops (floats ops) (Array.replicate ops.size false)
end

section
variable {P : Program} {ops : Array Oper} {Q : Exit → Act → World → Prop}

theorem put_get_other {a : Act} {d : Option Tmp} {v : Value} {t : Tmp} (h : d ≠ some t) : (a.put d v).tmps[t]? = a.tmps[t]? := by
  cases d with
  | none => rfl
  | some e => simp only [Act.put]; rw [Array.getElem?_setIfInBounds_ne (fun he => h (by rw [he]))]
theorem put_size (a : Act) (d : Option Tmp) (v : Value) : (a.put d v).tmps.size = a.tmps.size := by
  cases d <;> simp [Act.put]
theorem put_get_same {a b : Act} {t : Tmp} {v : Value} (hs : a.tmps.size = b.tmps.size) : (a.put (some t) v).tmps[t]? = (b.put (some t) v).tmps[t]? := by
  simp only [Act.put, Array.getElem?_setIfInBounds_self]
  simp [hs]
def putX (ops : Array Oper) (V : Nat → Value) (X : Nat → Bool) : List Nat → Act → Act
  | [], a => a
  | i :: l, a => putX ops V X l (if X i then a.put (dstOf ops i) (V i) else a)
theorem putX_get {V : Nat → Value} {X Y : Nat → Bool} {t : Tmp} : ∀ (l : List Nat) (a b : Act), (∀ x ∈ l, dstOf ops x = some t → X x = Y x) → a.tmps[t]? = b.tmps[t]? → a.tmps.size = b.tmps.size → (putX ops V X l a).tmps[t]? = (putX ops V Y l b).tmps[t]?
  | [], _, _, _, h, _ => h
  | i :: l, a, b, hx, h, hs => by
    unfold putX
    refine putX_get l _ _ (fun x hm => hx x (List.mem_cons_of_mem _ hm)) ?_ ?_
    · by_cases hd : dstOf ops i = some t
      · rw [hx i (List.mem_cons_self ..) hd, hd]
        split
        · exact put_get_same hs
        · exact h
      · split <;> split <;> simp only [put_get_other hd, h]
    · split <;> split <;> simp only [put_size, hs]
theorem putX_congr {V V' : Nat → Value} {X Y : Nat → Bool} : ∀ (l : List Nat) (a : Act), (∀ x ∈ l, X x = Y x) → (∀ x ∈ l, V x = V' x) → putX ops V X l a = putX ops V' Y l a
  | [], _, _, _ => rfl
  | i :: l, a, hx, hv => by
    unfold putX
    rw [hx i (List.mem_cons_self ..), hv i (List.mem_cons_self ..)]
    exact putX_congr l _ (fun x hm => hx x (List.mem_cons_of_mem _ hm)) (fun x hm => hv x (List.mem_cons_of_mem _ hm))
theorem putX_none {V : Nat → Value} {X : Nat → Bool} : ∀ (l : List Nat) (a : Act), (∀ x ∈ l, X x = false) → putX ops V X l a = a
  | [], _, _ => rfl
  | i :: l, a, hx => by
    unfold putX
    rw [hx i (List.mem_cons_self ..)]
    exact putX_none l a fun x hm => hx x (List.mem_cons_of_mem _ hm)
theorem putX_out {V : Nat → Value} {X : Nat → Bool} {d : Option Tmp} {v : Value} : ∀ (l : List Nat) (a : Act), (∀ x ∈ l, ∀ t, d = some t → dstOf ops x ≠ some t) → putX ops V X l (a.put d v) = (putX ops V X l a).put d v
  | [], _, _ => rfl
  | i :: l, a, hx => by
    unfold putX
    split
    · rw [Act.put_comm a v (V i) (fun t ht => hx i (List.mem_cons_self ..) t ht)]
      exact putX_out l _ fun x hm => hx x (List.mem_cons_of_mem _ hm)
    · exact putX_out l _ fun x hm => hx x (List.mem_cons_of_mem _ hm)
theorem putX_add {V : Nat → Value} {X : Nat → Bool} {j : Nat} (hX : X j = false) : ∀ (l : List Nat) (a : Act), j ∈ l → l.Nodup → (∀ x ∈ l, x ≠ j → ∀ t, dstOf ops j = some t → dstOf ops x ≠ some t) →
    putX ops V (fun x => X x || x == j) l a = (putX ops V X l a).put (dstOf ops j) (V j)
  | [], _, hm, _, _ => by simp at hm
  | i :: l, a, hm, hn, hd => by
    rw [List.nodup_cons] at hn
    by_cases hij : i = j
    · subst hij
      unfold putX
      rw [hX]
      simp only [beq_self_eq_true, Bool.or_true, if_true, Bool.false_eq_true, if_false]
      rw [putX_congr (V' := V) (Y := X) l _ (fun x hx => by
        have : x ≠ i := fun e => hn.1 (e ▸ hx)
        simp [this]) (fun _ _ => rfl)]
      exact putX_out l a fun x hx t ht => hd x (List.mem_cons_of_mem _ hx) (fun e => hn.1 (e ▸ hx)) t ht
    · have hm' : j ∈ l := by
        rcases List.mem_cons.1 hm with h | h
        · exact absurd h.symm hij
        · exact h
      unfold putX
      rw [show (X i || i == j) = X i by simp [hij]]
      exact putX_add hX l _ hm' hn.2 fun x hx => hd x (List.mem_cons_of_mem _ hx)

/-- In the order of the text these light operations yield these values. -/
def segOK (P : Program) (ops : Array Oper) (w : World) (V : Nat → Value) (seg : List Nat) (a : Act) : Prop := ∀ j ∈ seg, ∀ o, ops[j]? = some o →
  (Region.wanted o (yielded ops (putX ops V (fun x => decide (x < j)) seg a).tmps) = true ∧ (execOp (putX ops V (fun x => decide (x < j)) seg a).eval o).run P w = .ok (.value (V j)) w) ∨
  (Region.wanted o (yielded ops (putX ops V (fun x => decide (x < j)) seg a).tmps) = false ∧ V j = undef)

theorem seg_of {w : World} {l' : List Nat} : ∀ (seg : List Nat) (a : Act), seg.Pairwise (· < ·) → (∀ x ∈ seg, lightAt ops x = true) → wpI P ops Q (seg ++ l') a w →
    ∃ V, segOK P ops w V seg a ∧ wpI P ops Q l' (putX ops V (fun _ => true) seg a) w
  | [], a, _, _, h => ⟨fun _ => undef, fun j hj => by simp at hj, h⟩
  | i :: seg, a, hp, hl, h => by
    rw [List.pairwise_cons] at hp
    have hli := hl i (List.mem_cons_self ..)
    rw [List.cons_append] at h
    unfold wpI at h
    unfold lightAt at hli
    cases hoi : ops[i]? with
    | none => rw [hoi] at h; exact h.elim
    | some o =>
      rw [hoi] at h hli
      simp only at h hli
      have key : ∀ v, wpI P ops Q (seg ++ l') (a.put o.dst v) w → ((Region.wanted o (yielded ops a.tmps) = true ∧ (execOp a.eval o).run P w = .ok (.value v) w) ∨ (Region.wanted o (yielded ops a.tmps) = false ∧ v = undef)) →
          ∃ V, segOK P ops w V (i :: seg) a ∧ wpI P ops Q l' (putX ops V (fun _ => true) (i :: seg) a) w := by
        intro v hv hy
        obtain ⟨V', hok, hw⟩ := seg_of seg (a.put o.dst v) hp.2 (fun x hx => hl x (List.mem_cons_of_mem _ hx)) hv
        have hd : dstOf ops i = o.dst := by simp [dstOf, hoi]
        have hVV : ∀ x ∈ seg, (fun x => if x = i then v else V' x) x = V' x := fun x hx => by
          have : x ≠ i := by have := hp.1 x hx; omega
          simp [this]
        refine ⟨fun x => if x = i then v else V' x, ?_, ?_⟩
        · intro j hj oj hoj
          rcases List.mem_cons.1 hj with rfl | hj
          · have e : putX ops (fun x => if x = j then v else V' x) (fun x => decide (x < j)) (j :: seg) a = a := putX_none _ _ (by
              intro x hx
              rcases List.mem_cons.1 hx with rfl | hx
              · simp
              · have := hp.1 x hx; simp; omega)
            rw [e]
            rw [hoi] at hoj
            cases hoj
            simpa using hy
          · have hij := hp.1 j hj
            have e : putX ops (fun x => if x = i then v else V' x) (fun x => decide (x < j)) (i :: seg) a = putX ops V' (fun x => decide (x < j)) seg (a.put o.dst v) := by
              conv => lhs; unfold putX
              simp only [decide_eq_true hij, if_true, hd]
              exact putX_congr _ _ (fun _ _ => rfl) hVV
            rw [e]
            have := hok j hj oj hoj
            have hne : j ≠ i := by omega
            simpa [hne] using this
        · have e : putX ops (fun x => if x = i then v else V' x) (fun _ => true) (i :: seg) a = putX ops V' (fun _ => true) seg (a.put o.dst v) := by
            conv => lhs; unfold putX
            simp only [if_true, hd]
            exact putX_congr _ _ (fun _ _ => rfl) hVV
          rw [e]
          exact hw
      cases hw : Region.wanted o (yielded ops a.tmps) with
      | true =>
        rw [hw] at h
        simp only [if_true, hli] at h
        unfold litStep at h
        cases hr : (execOp a.eval o).run P w with
        | ok n w' =>
          rw [hr] at h
          cases n with
          | value v =>
            obtain ⟨rfl, h⟩ := h
            exact key v h (.inl ⟨hw, hr⟩)
          | _ => exact h.elim
        | halt x w' => rw [hr] at h; exact h.elim
      | false =>
        rw [hw] at h
        simp only [Bool.false_eq_true, if_false] at h
        exact key undef h (.inr ⟨hw, rfl⟩)
end
end Go.Proofs.YtiahnlaplkeiaaaDoor

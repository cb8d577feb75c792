/-
  A region that draws its order, each of whose operations does what it does in whatever order: one obligation an operation, none for an order. No program in sight.
  A region that draws its order, each of whose operations does what it does in whatever order: the theorem. No program in sight.
-/
import Derived.Test.YtfbeaklplefojaaGreatDoorEvB2
import Derived.Test.YtfbeaklplefojaaGreatDoorEvB0
set_option linter.unusedVariables false
namespace Go.Proofs.YtfbeaklplefojaaGreatDoor.Gr
open Go Go.RowKit

/-- What is asked of a region: the blocks that its chain of calls may turn, the world ahead of it, what holds behind so many links of the chain, what is said of the value of each operation that makes or calls something, which values it may have at all, which blocks that value owns, what an operation uses up, which operations are links; how many may float, and those behind all of them. -/
structure Inv where
  S : List Nat
  w0 : World
  K : Nat → World → Prop
  R : Nat → Value → Value → World → Prop
  of : Nat → Nat
  adm : Nat → Value → Prop
  fp : Nat → Value → List Nat
  con : Nat → List Nat
  ch : Nat → Bool
  nb : Nat
  tl : List Oper

section
variable (ops : Array Oper)
def maskOf (o : Oper) (M : List Nat) : Nat := o.after.toList.foldl (fun m e => if Region.binds .any e then m ||| ((1 <<< e.on) ||| M.getD e.on 0) else m) 0
def masksL : List Oper → List Nat → List Nat
  | [], M => M
  | o :: l, M => masksL l (M ++ [maskOf o M])
def ancB (j h : Nat) : Bool := ((masksL ops.toList []).getD j 0).testBit h
def availB (con : Nat → List Nat) (j h : Nat) : Bool := ancB ops j h && (List.range ops.size).all fun y => !(con y).contains h || y == j || ancB ops y j
def floatAt (j : Nat) : Bool := ((ops[j]?).map isFloat).getD false
def tailB (nb : Nat) : Bool := floatsOk ops (floats ops) (Array.replicate ops.size false) && (List.range ops.size).all fun j => decide (j < nb) || (!floatAt ops j && (List.range j).all fun x => floatAt ops x || ancB ops j x)
def endB (con : Nat → List Nat) (h : Nat) : Bool := (List.range ops.size).all fun y => !(con y).contains h
def invB (con : Nat → List Nat) (ch : Nat → Bool) : Bool :=
  Region.noSelect ops && (List.range ops.size).all (fun j => depsBack ops j && (List.range j).all (fun x => pairOk ops x j) && (!(lightAt ops j) || ((con j).isEmpty && !ch j)) &&
    (List.range j).all (fun x => !(ch x && ch j) || ancB ops j x) && (con j).all (fun h => decide (h < ops.size) && !lightAt ops h && ancB ops j h) && (List.range ops.size).all (fun y => y == j || (con j).all fun h => !(con y).contains h))
end

def look : List (Nat × Value) → Nat → Value
  | [], _ => undef
  | p :: G, h => if p.1 = h then p.2 else look G h
/-- The value of an operation's parent. -/
def parV (I : Inv) (G : List (Nat × Value)) (j : Nat) (v : Value) : Value := if I.of j = j then v else look G (I.of j)
def factsG (I : Inv) (ok : Nat → Bool) (G0 : List (Nat × Value)) : List (Nat × Value) → World → Prop
  | [], _ => True
  | p :: G, w => (ok p.1 = true → I.R p.1 (parV I G0 p.1 p.2) p.2 w) ∧ factsG I ok G0 G w
def factsV (I : Inv) (ok : Nat → Bool) (G : List (Nat × Value)) (w : World) : Prop := factsG I ok G G w
/-- An operation's parent: itself, or one that makes or calls something, that it waits for. -/
def OfOk (ops : Array Oper) (I : Inv) : Prop := ∀ j, j < ops.size → I.of j = j ∨ (I.of j < I.nb ∧ I.of j < j ∧ lightAt ops (I.of j) = false ∧ ancB ops j (I.of j) = true)
/-- The blocks that an operation uses up. -/
def usedV (I : Inv) (j : Nat) : List (Nat × Value) → List Nat
  | [] => []
  | p :: G => (if (I.con j).contains p.1 then I.fp p.1 p.2 else []) ++ usedV I j G
theorem usedV_none {I : Inv} {j : Nat} (h : I.con j = []) (G : List (Nat × Value)) : usedV I j G = [] := by
  induction G with
  | nil => rfl
  | cons p G ih => unfold usedV; rw [h, ih]; rfl
/-- What an operation that makes or calls something leaves behind. -/
def outV (I : Inv) (j s : Nat) (G : List (Nat × Value)) (w : World) (v : Value) (w' : World) : Prop :=
  I.R j (parV I G j v) v w' ∧ (∀ b ∈ I.fp j v, b ∈ usedV I j G ∨ (w.heap.size ≤ b ∧ b < w'.heap.size)) ∧ Upd (if I.ch j then I.S ++ usedV I j G else usedV I j G) w w' ∧ (I.ch j = true → I.K (s + 1) w')
def obL (P : Program) (ops : Array Oper) (I : Inv) (o : Oper) (j : Nat) (A : Act) (G : List (Nat × Value)) (v : Value) : Prop :=
  ∀ w, Upd I.S I.w0 w → factsV I (availB ops I.con j) G w → if Region.wanted o (yielded ops A.tmps) then litStep ((execOp A.eval o).run P w) w (· = v) else v = undef
def obH (P : Program) (ops : Array Oper) (I : Inv) (Q : Exit → Act → World → Prop) (o : Oper) (j s : Nat) (A : Act) (G : List (Nat × Value)) : Prop :=
  ∀ w, Upd I.S I.w0 w → (I.ch j = true → I.K s w) → factsV I (availB ops I.con j) G w →
    if Region.wanted o (yielded ops A.tmps) then o.wp P A w (fun A' w' => ∃ v, A' = A.put o.dst v ∧ outV I j s G w v w') Q else outV I j s G w undef w
/-- What stands behind all others, one behind the other. -/
def wpT (P : Program) (ops : Array Oper) (Q : Exit → Act → World → Prop) : List Oper → Act → World → Prop
  | [], a, w => Q .normal a w
  | o :: l, a, w => if Region.wanted o (yielded ops a.tmps) then o.wp P a w (wpT P ops Q l) Q else wpT P ops Q l (a.put o.dst undef) w
def obE (P : Program) (ops : Array Oper) (I : Inv) (Q : Exit → Act → World → Prop) (s : Nat) (A : Act) (G : List (Nat × Value)) : Prop :=
  ∀ w, Upd I.S I.w0 w → I.K s w → factsV I (endB ops I.con) G w → wpT P ops Q I.tl A w
/-- The operations, one behind the other in the text, each in every world in which it may come. -/
def wpV (P : Program) (ops : Array Oper) (I : Inv) (Q : Exit → Act → World → Prop) : List Oper → Nat → Nat → Act → List (Nat × Value) → Prop
  | [], _, s, A, G => obE P ops I Q s A G
  | o :: l, j, s, A, G =>
    if lightOp o.op then ∃ v, obL P ops I o j A G v ∧ wpV P ops I Q l (j + 1) s (A.put o.dst v) G
    else obH P ops I Q o j s A G ∧ ∀ v, I.adm j v → wpV P ops I Q l (j + 1) (if I.ch j then s + 1 else s) (A.put o.dst v) (G ++ [(j, v)])

section
theorem mask_spec (o : Oper) (M : List Nat) (h : Nat) : (maskOf o M).testBit h = o.after.any (fun e => Region.binds .any e && (e.on == h || (M.getD e.on 0).testBit h)) := by
  unfold maskOf
  rw [← Array.any_toList]
  have key : ∀ (l : List Edge) (m : Nat), (l.foldl (fun m e => if Region.binds .any e then m ||| ((1 <<< e.on) ||| M.getD e.on 0) else m) m).testBit h = (m.testBit h || l.any (fun e => Region.binds .any e && (e.on == h || (M.getD e.on 0).testBit h))) := by
    intro l
    induction l with
    | nil => intro m; simp
    | cons e l ih =>
      intro m
      rw [List.foldl_cons, ih, List.any_cons]
      cases hb : Region.binds .any e with
      | false => simp
      | true =>
        simp only [if_true, Bool.true_and, Nat.testBit_or, Nat.one_shiftLeft, Nat.testBit_two_pow]
        rw [Bool.or_assoc]
        congr 2
  rw [key]
  simp
theorem masks_pre : ∀ (l : List Oper) (M : List Nat) (i : Nat), i < M.length → (masksL l M).getD i 0 = M.getD i 0
  | [], _, _, _ => rfl
  | o :: l, M, i, h => by
    unfold masksL
    rw [masks_pre l _ i (by simp; omega)]
    simp [List.getD_eq_getElem?_getD, List.getElem?_append_left h]
theorem masks_at : ∀ (l : List Oper) (M : List Nat) (k : Nat) (o : Oper), l[k]? = some o → ∃ M', M'.length = M.length + k ∧ (masksL l M).getD (M.length + k) 0 = maskOf o M' ∧ ∀ i, i < M'.length → M'.getD i 0 = (masksL l M).getD i 0
  | [], _, _, _, h => by simp at h
  | o :: l, M, 0, o', h => by
    simp at h
    subst h
    refine ⟨M, rfl, ?_, fun i hi => (masks_pre _ M i hi).symm⟩
    unfold masksL
    rw [masks_pre l _ _ (by simp)]
    simp [List.getD_eq_getElem?_getD]
  | o :: l, M, k + 1, o', h => by
    obtain ⟨M', h1, h2, h3⟩ := masks_at l (M ++ [maskOf o M]) k o' (by simpa using h)
    unfold masksL
    refine ⟨M', by simp at h1; omega, ?_, h3⟩
    rw [← h2]
    congr 1
    simp; omega
variable {P : Program} {ops : Array Oper}
theorem anc_iff {j h : Nat} (hj : j < ops.size) (hb : depsBack ops j = true) : ancB ops j h = true ↔ ∃ x, depB ops j x = true ∧ (x = h ∨ ancB ops x h = true) := by
  obtain ⟨M', h1, h2, h3⟩ := masks_at ops.toList [] j ops[j] (by simp [hj])
  unfold ancB depB
  simp only [List.length_nil, Nat.zero_add] at h1 h2
  rw [h2, mask_spec, Array.getElem?_eq_getElem hj]
  unfold depsBack at hb
  rw [Array.getElem?_eq_getElem hj] at hb
  simp only [Array.all_eq_true, Array.any_eq_true, Bool.or_eq_true, Bool.and_eq_true, decide_eq_true_eq, Bool.not_eq_true', beq_iff_eq] at hb ⊢
  constructor
  · rintro ⟨i, hi, he, hh⟩
    refine ⟨_, ⟨i, hi, he, rfl⟩, hh.imp id fun h4 => ?_⟩
    rw [← h3 _ (by rw [h1]; exact (hb i hi).resolve_left (by rw [he]; simp))]
    exact h4
  · rintro ⟨x, ⟨i, hi, he, rfl⟩, hh⟩
    refine ⟨i, hi, he, hh.imp id fun h4 => ?_⟩
    rw [h3 _ (by rw [h1]; exact (hb i hi).resolve_left (by rw [he]; simp))]
    exact h4

structure InvOk (ops : Array Oper) (I : Inv) : Prop where
  sel : ∀ (j : Nat) (o : Oper) (cs : Array SelectCase) (b : Bool), ops[j]? = some o → o.op ≠ .select cs b
  back : ∀ j, j < ops.size → depsBack ops j = true
  pair : ∀ j, j < ops.size → ∀ x, x < j → pairOk ops x j = true
  light : ∀ j, j < ops.size → lightAt ops j = true → I.con j = [] ∧ I.ch j = false
  chain : ∀ j, j < ops.size → ∀ x, x < j → I.ch x = true → I.ch j = true → ancB ops j x = true
  con : ∀ j, j < ops.size → ∀ h ∈ I.con j, h < ops.size ∧ lightAt ops h = false ∧ ancB ops j h = true
  once : ∀ j, j < ops.size → ∀ y, y < ops.size → y ≠ j → ∀ h ∈ I.con j, h ∉ I.con y
theorem invOk_of {I : Inv} (h : invB ops I.con I.ch = true) : InvOk ops I := by
  unfold invB at h
  rw [Bool.and_eq_true, List.all_eq_true] at h
  obtain ⟨h0, h1⟩ := h
  have h2 : ∀ j, j < ops.size → _ := fun j hj => h1 j (List.mem_range.2 hj)
  simp only [Bool.and_eq_true, List.all_eq_true, List.mem_range, Bool.or_eq_true, Bool.not_eq_true', List.isEmpty_iff, decide_eq_true_eq, beq_iff_eq, Bool.and_eq_false_iff] at h2
  refine ⟨Region.noSelect_spec h0, fun j hj => (h2 j hj).1.1.1.1.1, fun j hj x hx => (h2 j hj).1.1.1.1.2 x hx, fun j hj hl => ?_, fun j hj x hx hx1 hj1 => ?_, fun j hj h hh => ?_, fun j hj y hy hne h hh hm => ?_⟩
  · rcases (h2 j hj).1.1.1.2 with h3 | h3
    · rw [hl] at h3; cases h3
    · exact h3
  · rcases (h2 j hj).1.1.2 x hx with h3 | h3
    · rw [hx1, hj1] at h3; rcases h3 with h3 | h3 <;> cases h3
    · exact h3
  · have := (h2 j hj).1.2 h hh
    exact ⟨this.1.1, this.1.2, this.2⟩
  · rcases (h2 j hj).2 y hy with h3 | h3
    · exact hne h3
    · have := h3 h hh
      simp at this
      exact this hm
theorem wp_transfer {o : Oper} {a b : Act} {w : World} {K' : Act → World → Prop} {Z : Value → World → Prop} {Q : Exit → Act → World → Prop} (he : execOp a.eval o = execOp b.eval o)
    (hK : ∀ v w', Z v w' → K' (b.put o.dst v) w') (hinj : ∀ v v' : Value, a.put o.dst v = a.put o.dst v' → b.put o.dst v = b.put o.dst v')
    (h : o.wp P a w (fun A' w' => ∃ v, A' = a.put o.dst v ∧ Z v w') (NoPanic Q)) : o.wp P b w K' (NoPanic Q) := by
  have key : ∀ v w', (∃ v', a.put o.dst v = a.put o.dst v' ∧ Z v' w') → K' (b.put o.dst v) w' := fun v w' ⟨v', e, hz⟩ => hinj v v' e ▸ hK v' w' hz
  unfold Oper.wp at h ⊢
  rw [← he]
  generalize (execOp a.eval o).run P w = r at h
  cases r with
  | ok n w' =>
    cases n with
    | value v => exact key v w' h
    | skip => exact key _ w' h
    | defer d =>
      obtain ⟨v', e, _⟩ := h
      exfalso
      have := congrArg Act.defers e
      cases hd : o.dst <;> rw [hd] at this <;> simp [Act.put] at this
    | enter f args =>
      refine Calls.mono h fun e w'' he => ?_
      cases e with
      | returned v => exact key v w'' he
      | panicked c => exact he
      | outgrown => exact he
    | row r args => exact Rows.mono h fun v w'' he => key v w'' he
    | _ => exact h
  | halt x w' => cases x <;> exact h
end
end Go.Proofs.YtfbeaklplefojaaGreatDoor.Gr

namespace Go.Proofs.YtfbeaklplefojaaGreatDoor.Gr
open Go Go.RowKit

section
variable {P : Program} {ops : Array Oper} {I : Inv} {Q : Exit → Act → World → Prop} {a : Act}

def Aat (ops : Array Oper) (a : Act) (V : Nat → Value) (j : Nat) : Act := putX ops V (fun x => decide (x < j)) (List.range ops.size) a
def Gat (ops : Array Oper) (V : Nat → Value) (j : Nat) : List (Nat × Value) := ((List.range j).filter (fun h => !lightAt ops h)).map (fun h => (h, V h))
def sat (I : Inv) (j : Nat) : Nat := ((List.range j).filter I.ch).length
def Ob (P : Program) (ops : Array Oper) (I : Inv) (Q : Exit → Act → World → Prop) (a : Act) (V : Nat → Value) (j : Nat) : Prop :=
  ∀ o, ops[j]? = some o → if lightOp o.op then obL P ops I o j (Aat ops a V j) (Gat ops V j) (V j) else obH P ops I Q o j (sat I j) (Aat ops a V j) (Gat ops V j)
def Flat (P : Program) (ops : Array Oper) (I : Inv) (Q : Exit → Act → World → Prop) (a : Act) (V : Nat → Value) : Prop :=
  (∀ j, j < I.nb → Ob P ops I Q a V j) ∧ obE P ops I Q (sat I I.nb) (Aat ops a V I.nb) (Gat ops V I.nb)

theorem putX_congr' {V V' : Nat → Value} {X Y : Nat → Bool} : ∀ (l : List Nat) (a : Act), (∀ x ∈ l, X x = Y x) → (∀ x ∈ l, X x = true → V x = V' x) → putX ops V X l a = putX ops V' Y l a
  | [], _, _, _ => rfl
  | i :: l, a, hx, hv => by
    unfold putX
    rw [hx i (List.mem_cons_self ..)]
    cases hY : Y i with
    | true =>
      simp only [if_true]
      rw [hv i (List.mem_cons_self ..) (by rw [hx i (List.mem_cons_self ..), hY])]
      exact putX_congr' l _ (fun x hm => hx x (List.mem_cons_of_mem _ hm)) (fun x hm => hv x (List.mem_cons_of_mem _ hm))
    | false =>
      simp only [Bool.false_eq_true, if_false]
      exact putX_congr' l _ (fun x hm => hx x (List.mem_cons_of_mem _ hm)) (fun x hm => hv x (List.mem_cons_of_mem _ hm))
theorem InvOk.distinct (ok : InvOk ops I) {j x : Nat} (hj : j < ops.size) (hx : x < ops.size) (hne : x ≠ j) (t : Tmp) (h : dstOf ops j = some t) : dstOf ops x ≠ some t := by
  intro h'
  rcases Nat.lt_or_gt_of_ne hne with h1 | h1
  · have hp := ok.pair j hj x h1
    unfold pairOk at hp
    rw [h, h'] at hp
    simp at hp
  · have hp := ok.pair x hx j h1
    unfold pairOk at hp
    rw [h, h'] at hp
    simp at hp
theorem Aat_congr {V V' : Nat → Value} {j : Nat} (h : ∀ x, x < j → V x = V' x) : Aat ops a V j = Aat ops a V' j :=
  putX_congr' _ _ (fun _ _ => rfl) (fun x _ hx => h x (by simpa using hx))
theorem Gat_congr {V V' : Nat → Value} {j : Nat} (h : ∀ x, x < j → V x = V' x) : Gat ops V j = Gat ops V' j := by
  unfold Gat
  apply List.map_congr_left
  intro x hx
  rw [h x (List.mem_range.1 (List.mem_filter.1 hx).1)]
theorem Aat_succ (ok : InvOk ops I) {j : Nat} (hj : j < ops.size) (V : Nat → Value) : Aat ops a V (j + 1) = (Aat ops a V j).put (dstOf ops j) (V j) := by
  unfold Aat
  rw [← putX_add (by simp) _ _ (List.mem_range.2 hj) List.nodup_range (fun x hx hne t ht => ok.distinct hj (List.mem_range.1 hx) hne t ht)]
  refine putX_congr _ _ (fun x _ => ?_) (fun _ _ => rfl)
  rw [Bool.eq_iff_iff]
  simp
  omega
theorem Gat_succ (V : Nat → Value) (j : Nat) : Gat ops V (j + 1) = if lightAt ops j then Gat ops V j else Gat ops V j ++ [(j, V j)] := by
  unfold Gat
  rw [List.range_succ, List.filter_append, List.map_append]
  cases h : lightAt ops j <;> simp [h]
theorem sat_succ (j : Nat) : sat I (j + 1) = if I.ch j then sat I j + 1 else sat I j := by
  unfold sat
  rw [List.range_succ, List.filter_append]
  cases h : I.ch j <;> simp [h]
theorem lightAt_some {j : Nat} {o : Oper} (h : ops[j]? = some o) : lightAt ops j = lightOp o.op := by unfold lightAt; rw [h]

theorem flat_of (ok : InvOk ops I) (hnb : I.nb ≤ ops.size) : ∀ (l : List Oper) (j : Nat) (V0 : Nat → Value), (∀ k o, l[k]? = some o → ops[j + k]? = some o) → j + l.length = I.nb →
    wpV P ops I Q l j (sat I j) (Aat ops a V0 j) (Gat ops V0 j) → ∀ e : Nat → Value, (∀ h, I.adm h (e h)) → ∃ V, (∀ x, x < j → V x = V0 x) ∧ (∀ h, j ≤ h → h < I.nb → lightAt ops h = false → V h = e h) ∧
      (∀ i, j ≤ i → i < I.nb → Ob P ops I Q a V i) ∧ obE P ops I Q (sat I I.nb) (Aat ops a V I.nb) (Gat ops V I.nb)
  | [], j, V0, _, hn, h, e, _ => by
    simp at hn
    subst hn
    exact ⟨V0, fun _ _ => rfl, fun h h1 h2 => by omega, fun i h1 h2 => by omega, h⟩
  | o :: l, j, V0, hl, hn, h, e, hadm => by
    have ho : ops[j]? = some o := by simpa using hl 0 o rfl
    have hj : j < ops.size := (Array.getElem?_eq_some_iff.1 ho).1
    have hla := lightAt_some ho
    have hd : dstOf ops j = o.dst := by simp [dstOf, ho]
    have hl' : ∀ k o', l[k]? = some o' → ops[j + 1 + k]? = some o' := fun k o' hk => by
      have := hl (k + 1) o' (by simpa using hk)
      rwa [show j + (k + 1) = j + 1 + k by omega] at this
    have hn' : j + 1 + l.length = I.nb := by simp at hn; omega
    unfold wpV at h
    -- the rest, from the value of this one
    have key : ∀ v, (lightAt ops j = false → v = e j) → wpV P ops I Q l (j + 1) (sat I (j + 1)) ((Aat ops a V0 j).put o.dst v) (Gat ops (fun x => if x = j then v else V0 x) (j + 1)) → Ob P ops I Q a (fun x => if x = j then v else V0 x) j →
        ∃ V, (∀ x, x < j → V x = V0 x) ∧ (∀ h, j ≤ h → h < I.nb → lightAt ops h = false → V h = e h) ∧ (∀ i, j ≤ i → i < I.nb → Ob P ops I Q a V i) ∧ obE P ops I Q (sat I I.nb) (Aat ops a V I.nb) (Gat ops V I.nb) := by
      intro v hv hw hob
      have hA : (Aat ops a V0 j).put o.dst v = Aat ops a (fun x => if x = j then v else V0 x) (j + 1) := by
        rw [Aat_succ ok hj, hd]
        simp only [if_true]
        rw [Aat_congr (V' := V0) (fun x hx => if_neg (by omega))]
      rw [hA] at hw
      obtain ⟨V, h1, h2, h3, h4⟩ := flat_of ok hnb l (j + 1) _ hl' hn' hw e hadm
      refine ⟨V, fun x hx => by rw [h1 x (by omega), if_neg (by omega)], fun x hx hxn hxl => ?_, fun i hi hin => ?_, h4⟩
      · rcases Nat.lt_or_eq_of_le hx with h5 | h5
        · exact h2 x h5 hxn hxl
        · subst h5
          rw [h1 j (by omega), if_pos rfl]
          exact hv hxl
      · rcases Nat.lt_or_eq_of_le hi with h5 | h5
        · exact h3 i h5 hin
        · subst h5
          intro o' ho'
          have := hob o' ho'
          have h6 : (fun x => if x = j then v else V0 x) j = V j := (h1 j (by omega)).symm
          rw [Aat_congr (V' := V) (fun x hx => (h1 x (by omega)).symm), Gat_congr (V' := V) (fun x hx => (h1 x (by omega)).symm), h6] at this
          exact this
    have e1 : ∀ v, Aat ops a (fun x => if x = j then v else V0 x) j = Aat ops a V0 j := fun v => Aat_congr fun x hx => if_neg (by omega)
    have e2 : ∀ v, Gat ops (fun x => if x = j then v else V0 x) j = Gat ops V0 j := fun v => Gat_congr fun x hx => if_neg (by omega)
    cases hlo : lightOp o.op with
    | true =>
      rw [hlo] at h hla
      simp only [if_true] at h
      obtain ⟨v, hob, hr⟩ := h
      refine key v (fun hc => by rw [hla] at hc; cases hc) ?_ ?_
      · rw [Gat_succ, hla, sat_succ, (ok.light j hj hla).2, e2]
        exact hr
      · intro o' ho'
        rw [ho] at ho'
        cases ho'
        rw [hlo, e1, e2]
        simpa using hob
    | false =>
      rw [hlo] at h hla
      simp only [Bool.false_eq_true, if_false] at h
      obtain ⟨hob, hr⟩ := h
      refine key (e j) (fun _ => rfl) ?_ ?_
      · rw [Gat_succ, hla, sat_succ, e2]
        simpa using hr (e j) (hadm j)
      · intro o' ho'
        rw [ho] at ho'
        cases ho'
        rw [hlo, e1, e2]
        simpa using hob

def Live (ops : Array Oper) (I : Inv) (L : Array Bool) (h : Nat) : Prop := h < I.nb ∧ lightAt ops h = false ∧ L.getD h false = true ∧ ∀ y, y < I.nb → L.getD y false = true → h ∉ I.con y
structure StI (P : Program) (ops : Array Oper) (I : Inv) (Q : Exit → Act → World → Prop) (a : Act) (L : Array Bool) (u : Nat → Value) (w : World) : Prop where
  sz : L.size = ops.size
  cl : ∀ y x, y < ops.size → L.getD y false = true → depB ops y x = true → L.getD x false = true
  i1 : Upd I.S I.w0 w
  i2 : I.K ((List.range I.nb).filter (fun x => I.ch x && L.getD x false)).length w
  i3 : ∀ h, Live ops I L h → I.R h (u (I.of h)) (u h) w
  i4 : ∀ h, Live ops I L h → ∀ b ∈ I.fp h (u h), I.w0.heap.size ≤ b ∧ b < w.heap.size
  i5 : ∀ h h', Live ops I L h → Live ops I L h' → h ≠ h' → ∀ b ∈ I.fp h (u h), b ∉ I.fp h' (u h')
  i7 : ∀ h, lightAt ops h = false → I.adm h (u h)
  tl : ∀ j, I.nb ≤ j → L.getD j false = false
  fl : ∀ j, floatAt ops j = true → L.getD j false = true
  i6 : ∀ j, j < I.nb → lightAt ops j = true → L.getD j false = true → ∀ V, Flat P ops I Q a V → (∀ h, h < I.nb → lightAt ops h = false → ancB ops j h = true → V h = u h) → V j = u j

theorem facts_of' {ok : Nat → Bool} {w : World} (G0 : List (Nat × Value)) : ∀ (G : List (Nat × Value)), (∀ p ∈ G, ok p.1 = true → I.R p.1 (parV I G0 p.1 p.2) p.2 w) → factsG I ok G0 G w
  | [], _ => trivial
  | p :: G, h => ⟨h p (List.mem_cons_self ..), facts_of' G0 G fun q hq => h q (List.mem_cons_of_mem _ hq)⟩
theorem facts_of {ok : Nat → Bool} {w : World} (G : List (Nat × Value)) (h : ∀ p ∈ G, ok p.1 = true → I.R p.1 (parV I G p.1 p.2) p.2 w) : factsV I ok G w := facts_of' G G h
theorem look_mem : ∀ {G : List (Nat × Value)} {V : Nat → Value} {h : Nat}, (∀ p ∈ G, p.2 = V p.1) → (∃ p ∈ G, p.1 = h) → look G h = V h
  | [], _, _, _, ⟨_, h, _⟩ => by simp at h
  | p :: G, V, h, hV, hm => by
    unfold look
    split
    · rename_i e; rw [hV p (List.mem_cons_self ..), e]
    · rename_i e
      obtain ⟨q, hq, he⟩ := hm
      rcases List.mem_cons.1 hq with rfl | hq
      · exact absurd he e
      · exact look_mem (fun p hp => hV p (List.mem_cons_of_mem _ hp)) ⟨q, hq, he⟩
theorem look_Gat {V : Nat → Value} {j h : Nat} (hj : h < j) (hl : lightAt ops h = false) : look (Gat ops V j) h = V h := by
  refine look_mem (fun p hp => ?_) ⟨(h, V h), ?_, rfl⟩
  · unfold Gat at hp
    obtain ⟨x, _, rfl⟩ := List.mem_map.1 hp
    rfl
  · unfold Gat
    exact List.mem_map.2 ⟨h, List.mem_filter.2 ⟨List.mem_range.2 hj, by simpa using hl⟩, rfl⟩
theorem mem_Gat {V : Nat → Value} {j : Nat} {p : Nat × Value} (h : p ∈ Gat ops V j) : p.1 < j ∧ lightAt ops p.1 = false ∧ p.2 = V p.1 := by
  unfold Gat at h
  obtain ⟨x, hx, rfl⟩ := List.mem_map.1 h
  have := List.mem_filter.1 hx
  exact ⟨List.mem_range.1 this.1, by simpa using this.2, rfl⟩
theorem mem_used {j b : Nat} : ∀ {G : List (Nat × Value)}, b ∈ usedV I j G → ∃ p ∈ G, p.1 ∈ I.con j ∧ b ∈ I.fp p.1 p.2
  | [], h => by simp [usedV] at h
  | p :: G, h => by
    unfold usedV at h
    rcases List.mem_append.1 h with h1 | h1
    · split at h1
      · rename_i hc
        exact ⟨p, List.mem_cons_self .., by simpa using hc, h1⟩
      · simp at h1
    · obtain ⟨q, h2, h3⟩ := mem_used h1
      exact ⟨q, List.mem_cons_of_mem _ h2, h3⟩
end
end Go.Proofs.YtfbeaklplefojaaGreatDoor.Gr

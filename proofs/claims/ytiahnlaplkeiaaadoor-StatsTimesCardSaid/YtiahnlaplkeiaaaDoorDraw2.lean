/-
  A region that draws its order, each of whose operations does what it does in whatever order: the theorem. No program in sight.
-/
import Derived.Test.YtiahnlaplkeiaaaDoorDraw
namespace Go.Proofs.YtiahnlaplkeiaaaDoor
open Go Go.RowKit

section
variable {P : Program} {ops : Array Oper} {I : Inv} {Q : Exit → Act → World → Prop} {a : Act}

def Aat (ops : Array Oper) (a : Act) (V : Nat → Value) (j : Nat) : Act := putX ops V (fun x => decide (x < j)) (List.range ops.size) a
def Gat (ops : Array Oper) (V : Nat → Value) (j : Nat) : List (Nat × Value) := ((List.range j).filter (fun h => !lightAt ops h)).map (fun h => (h, V h))
def sat (I : Inv) (j : Nat) : Nat := ((List.range j).filter I.ch).length
def Ob (P : Program) (ops : Array Oper) (I : Inv) (Q : Exit → Act → World → Prop) (a : Act) (V : Nat → Value) (j : Nat) : Prop :=
  ∀ o, ops[j]? = some o → if lightOp o.op then obL P ops I o j (Aat ops a V j) (Gat ops V j) (V j) else obH P ops I Q o j (sat I j) (Aat ops a V j) (Gat ops V j)
def Flat (P : Program) (ops : Array Oper) (I : Inv) (Q : Exit → Act → World → Prop) (a : Act) (V : Nat → Value) : Prop :=
  (∀ j, j < I.nb → Ob P ops I Q a V j) ∧ obE P ops I Q (sat I I.nb) (Aat ops a V I.nb) (Gat ops V I.nb)

theorem putX_congr' {V V' : Nat → Value} {X Y : Nat → Bool} : ∀ (l : List Nat) (a : Act), (∀ x ∈ l, X x = Y x) → (∀ x ∈ l, X x = true → V x = V' x) → putX ops V X l a = putX ops V' Y l a
  | [], _, _, _ => rfl
  | i :: l, a, hx, hv => by
    unfold putX
    rw [hx i (List.mem_cons_self ..)]
    cases hY : Y i with
    | true =>
      simp only [if_true]
      rw [hv i (List.mem_cons_self ..) (by rw [hx i (List.mem_cons_self ..), hY])]
      exact putX_congr' l _ (fun x hm => hx x (List.mem_cons_of_mem _ hm)) (fun x hm => hv x (List.mem_cons_of_mem _ hm))
    | false =>
      simp only [Bool.false_eq_true, if_false]
      exact putX_congr' l _ (fun x hm => hx x (List.mem_cons_of_mem _ hm)) (fun x hm => hv x (List.mem_cons_of_mem _ hm))
theorem InvOk.distinct (ok : InvOk ops I) {j x : Nat} (hj : j < ops.size) (hx : x < ops.size) (hne : x ≠ j) (t : Tmp) (h : dstOf ops j = some t) : dstOf ops x ≠ some t := by
  intro h'
  rcases Nat.lt_or_gt_of_ne hne with h1 | h1
  · have hp := ok.pair j hj x h1
    unfold pairOk at hp
    rw [h, h'] at hp
    simp at hp
  · have hp := ok.pair x hx j h1
    unfold pairOk at hp
    rw [h, h'] at hp
    simp at hp
theorem Aat_congr {V V' : Nat → Value} {j : Nat} (h : ∀ x, x < j → V x = V' x) : Aat ops a V j = Aat ops a V' j :=
  putX_congr' _ _ (fun _ _ => rfl) (fun x _ hx => h x (by simpa using hx))
theorem Gat_congr {V V' : Nat → Value} {j : Nat} (h : ∀ x, x < j → V x = V' x) : Gat ops V j = Gat ops V' j := by
  unfold Gat
  apply List.map_congr_left
  intro x hx
  rw [h x (List.mem_range.1 (List.mem_filter.1 hx).1)]
theorem Aat_succ (ok : InvOk ops I) {j : Nat} (hj : j < ops.size) (V : Nat → Value) : Aat ops a V (j + 1) = (Aat ops a V j).put (dstOf ops j) (V j) := by
  unfold Aat
  rw [← putX_add (by simp) _ _ (List.mem_range.2 hj) List.nodup_range (fun x hx hne t ht => ok.distinct hj (List.mem_range.1 hx) hne t ht)]
  refine putX_congr _ _ (fun x _ => ?_) (fun _ _ => rfl)
  rw [Bool.eq_iff_iff]
  simp
  omega
theorem Gat_succ (V : Nat → Value) (j : Nat) : Gat ops V (j + 1) = if lightAt ops j then Gat ops V j else Gat ops V j ++ [(j, V j)] := by
  unfold Gat
  rw [List.range_succ, List.filter_append, List.map_append]
  cases h : lightAt ops j <;> simp [h]
theorem sat_succ (j : Nat) : sat I (j + 1) = if I.ch j then sat I j + 1 else sat I j := by
  unfold sat
  rw [List.range_succ, List.filter_append]
  cases h : I.ch j <;> simp [h]
theorem lightAt_some {j : Nat} {o : Oper} (h : ops[j]? = some o) : lightAt ops j = lightOp o.op := by unfold lightAt; rw [h]

theorem flat_of (ok : InvOk ops I) (hnb : I.nb ≤ ops.size) : ∀ (l : List Oper) (j : Nat) (V0 : Nat → Value), (∀ k o, l[k]? = some o → ops[j + k]? = some o) → j + l.length = I.nb →
    wpV P ops I Q l j (sat I j) (Aat ops a V0 j) (Gat ops V0 j) → ∀ e : Nat → Value, (∀ h, I.adm h (e h)) → ∃ V, (∀ x, x < j → V x = V0 x) ∧ (∀ h, j ≤ h → h < I.nb → lightAt ops h = false → V h = e h) ∧
      (∀ i, j ≤ i → i < I.nb → Ob P ops I Q a V i) ∧ obE P ops I Q (sat I I.nb) (Aat ops a V I.nb) (Gat ops V I.nb)
  | [], j, V0, _, hn, h, e, _ => by
    simp at hn
    subst hn
    exact ⟨V0, fun _ _ => rfl, fun h h1 h2 => by omega, fun i h1 h2 => by omega, h⟩
  | o :: l, j, V0, hl, hn, h, e, hadm => by
    have ho : ops[j]? = some o := by simpa using hl 0 o rfl
    have hj : j < ops.size := (Array.getElem?_eq_some_iff.1 ho).1
    have hla := lightAt_some ho
    have hd : dstOf ops j = o.dst := by simp [dstOf, ho]
    have hl' : ∀ k o', l[k]? = some o' → ops[j + 1 + k]? = some o' := fun k o' hk => by
      have := hl (k + 1) o' (by simpa using hk)
      rwa [show j + (k + 1) = j + 1 + k by omega] at this
    have hn' : j + 1 + l.length = I.nb := by simp at hn; omega
    unfold wpV at h
    -- the rest, from the value of this one
    have key : ∀ v, (lightAt ops j = false → v = e j) → wpV P ops I Q l (j + 1) (sat I (j + 1)) ((Aat ops a V0 j).put o.dst v) (Gat ops (fun x => if x = j then v else V0 x) (j + 1)) → Ob P ops I Q a (fun x => if x = j then v else V0 x) j →
        ∃ V, (∀ x, x < j → V x = V0 x) ∧ (∀ h, j ≤ h → h < I.nb → lightAt ops h = false → V h = e h) ∧ (∀ i, j ≤ i → i < I.nb → Ob P ops I Q a V i) ∧ obE P ops I Q (sat I I.nb) (Aat ops a V I.nb) (Gat ops V I.nb) := by
      intro v hv hw hob
      have hA : (Aat ops a V0 j).put o.dst v = Aat ops a (fun x => if x = j then v else V0 x) (j + 1) := by
        rw [Aat_succ ok hj, hd]
        simp only [if_true]
        rw [Aat_congr (V' := V0) (fun x hx => if_neg (by omega))]
      rw [hA] at hw
      obtain ⟨V, h1, h2, h3, h4⟩ := flat_of ok hnb l (j + 1) _ hl' hn' hw e hadm
      refine ⟨V, fun x hx => by rw [h1 x (by omega), if_neg (by omega)], fun x hx hxn hxl => ?_, fun i hi hin => ?_, h4⟩
      · rcases Nat.lt_or_eq_of_le hx with h5 | h5
        · exact h2 x h5 hxn hxl
        · subst h5
          rw [h1 j (by omega), if_pos rfl]
          exact hv hxl
      · rcases Nat.lt_or_eq_of_le hi with h5 | h5
        · exact h3 i h5 hin
        · subst h5
          intro o' ho'
          have := hob o' ho'
          have h6 : (fun x => if x = j then v else V0 x) j = V j := (h1 j (by omega)).symm
          rw [Aat_congr (V' := V) (fun x hx => (h1 x (by omega)).symm), Gat_congr (V' := V) (fun x hx => (h1 x (by omega)).symm), h6] at this
          exact this
    have e1 : ∀ v, Aat ops a (fun x => if x = j then v else V0 x) j = Aat ops a V0 j := fun v => Aat_congr fun x hx => if_neg (by omega)
    have e2 : ∀ v, Gat ops (fun x => if x = j then v else V0 x) j = Gat ops V0 j := fun v => Gat_congr fun x hx => if_neg (by omega)
    cases hlo : lightOp o.op with
    | true =>
      rw [hlo] at h hla
      simp only [if_true] at h
      obtain ⟨v, hob, hr⟩ := h
      refine key v (fun hc => by rw [hla] at hc; cases hc) ?_ ?_
      · rw [Gat_succ, hla, sat_succ, (ok.light j hj hla).2, e2]
        exact hr
      · intro o' ho'
        rw [ho] at ho'
        cases ho'
        rw [hlo, e1, e2]
        simpa using hob
    | false =>
      rw [hlo] at h hla
      simp only [Bool.false_eq_true, if_false] at h
      obtain ⟨hob, hr⟩ := h
      refine key (e j) (fun _ => rfl) ?_ ?_
      · rw [Gat_succ, hla, sat_succ, e2]
        simpa using hr (e j) (hadm j)
      · intro o' ho'
        rw [ho] at ho'
        cases ho'
        rw [hlo, e1, e2]
        simpa using hob

def Live (ops : Array Oper) (I : Inv) (L : Array Bool) (h : Nat) : Prop := h < I.nb ∧ lightAt ops h = false ∧ L.getD h false = true ∧ ∀ y, y < I.nb → L.getD y false = true → h ∉ I.con y
structure StI (P : Program) (ops : Array Oper) (I : Inv) (Q : Exit → Act → World → Prop) (a : Act) (L : Array Bool) (u : Nat → Value) (w : World) : Prop where
  sz : L.size = ops.size
  cl : ∀ y x, y < ops.size → L.getD y false = true → depB ops y x = true → L.getD x false = true
  i1 : Upd I.S I.w0 w
  i2 : I.K ((List.range I.nb).filter (fun x => I.ch x && L.getD x false)).length w
  i3 : ∀ h, Live ops I L h → I.R h (u h) w
  i4 : ∀ h, Live ops I L h → ∀ b ∈ I.fp h (u h), I.w0.heap.size ≤ b ∧ b < w.heap.size
  i5 : ∀ h h', Live ops I L h → Live ops I L h' → h ≠ h' → ∀ b ∈ I.fp h (u h), b ∉ I.fp h' (u h')
  i7 : ∀ h, lightAt ops h = false → I.adm h (u h)
  tl : ∀ j, I.nb ≤ j → L.getD j false = false
  fl : ∀ j, floatAt ops j = true → L.getD j false = true
  i6 : ∀ j, j < I.nb → lightAt ops j = true → L.getD j false = true → ∀ V, Flat P ops I Q a V → (∀ h, h < I.nb → lightAt ops h = false → ancB ops j h = true → V h = u h) → V j = u j

theorem facts_of {ok : Nat → Bool} {w : World} : ∀ (G : List (Nat × Value)), (∀ p ∈ G, ok p.1 = true → I.R p.1 p.2 w) → factsV I ok G w
  | [], _ => trivial
  | p :: G, h => ⟨h p (List.mem_cons_self ..), facts_of G fun q hq => h q (List.mem_cons_of_mem _ hq)⟩
theorem mem_Gat {V : Nat → Value} {j : Nat} {p : Nat × Value} (h : p ∈ Gat ops V j) : p.1 < j ∧ lightAt ops p.1 = false ∧ p.2 = V p.1 := by
  unfold Gat at h
  obtain ⟨x, hx, rfl⟩ := List.mem_map.1 h
  have := List.mem_filter.1 hx
  exact ⟨List.mem_range.1 this.1, by simpa using this.2, rfl⟩
theorem mem_used {j b : Nat} : ∀ {G : List (Nat × Value)}, b ∈ usedV I j G → ∃ p ∈ G, p.1 ∈ I.con j ∧ b ∈ I.fp p.1 p.2
  | [], h => by simp [usedV] at h
  | p :: G, h => by
    unfold usedV at h
    rcases List.mem_append.1 h with h1 | h1
    · split at h1
      · rename_i hc
        exact ⟨p, List.mem_cons_self .., by simpa using hc, h1⟩
      · simp at h1
    · obtain ⟨q, h2, h3⟩ := mem_used h1
      exact ⟨q, List.mem_cons_of_mem _ h2, h3⟩
end
end Go.Proofs.YtiahnlaplkeiaaaDoor

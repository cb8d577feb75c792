/-
  A region that draws its order, where the order is forced in all that matters: the theorem. No program in sight.
  A region that draws its order, each of whose operations does what it does in whatever order: one obligation an operation, none for an order. No program in sight.
  A region that draws its order, each of whose operations does what it does in whatever order: the theorem. No program in sight.
-/
import Derived.Test.YteddiknlcdbhjaaGreatTsB2
import Derived.Deep.RegionHeld3
import Derived.Lib.Hide
import Derived.Test.YteddiknlcdbhjaaGreatTsB0
set_option linter.unusedVariables false
namespace Go.Proofs.YteddiknlcdbhjaaGreat
open Go Go.RowKit

section
variable {P : Program} {ops : Array Oper} {Q : Exit → Act → World → Prop}

theorem look_congr {o : Oper} {a b : Act} (h : ∀ t ∈ o.looksAt ops, a.tmps[t]? = b.tmps[t]?) (hs : ∀ (cs : Array SelectCase) (b : Bool), o.op ≠ .select cs b) :
    execOp a.eval o = execOp b.eval o ∧ Region.wanted o (yielded ops a.tmps) = Region.wanted o (yielded ops b.tmps) := by
  constructor
  · refine execOp_congr o hs fun x hx => ?_
    cases x with
    | tmp t =>
      have := h t (List.mem_append_left _ (List.mem_filterMap.2 ⟨.tmp t, by simpa using hx, rfl⟩))
      simp only [Act.eval, Array.getD_eq_getD_getElem?, this]
    | _ => rfl
  · unfold Region.wanted
    cases hg : o.guard with
    | none => rfl
    | some p =>
      obtain ⟨g, want⟩ := p
      simp only
      unfold yielded
      cases hd : (ops[g]?).bind (·.dst) with
      | none => rfl
      | some t =>
        have := h t (List.mem_append_right _ (by rw [hg]; simp only; rw [hd]; simp))
        simp only [Option.bind_some, this]

theorem mem_ready {L : Array Bool} {j : Nat} : j ∈ Region.ready .any ops L ↔ j < ops.size ∧ L.getD j true = false ∧ ∀ x, depB ops j x = true → L.getD x false = true := by
  unfold Region.ready depB
  rw [List.mem_filter, List.mem_range]
  constructor
  · rintro ⟨hj, h⟩
    rw [Bool.and_eq_true] at h
    refine ⟨hj, by simpa using h.1, fun x hx => ?_⟩
    rw [Array.getElem?_eq_getElem hj] at h hx
    simp only [Option.map_some, Option.getD_some, Array.all_eq_true, Array.any_eq_true] at h hx
    obtain ⟨i, hi, he⟩ := hx
    rw [Bool.and_eq_true] at he
    have := h.2 i hi
    rw [Bool.or_eq_true] at this
    have hx : ops[j].after[i].on = x := by simpa using he.2
    rcases this with h1 | h1
    · rw [he.1] at h1; simp at h1
    · rwa [hx] at h1
  · rintro ⟨hj, h1, h2⟩
    refine ⟨hj, ?_⟩
    rw [Array.getElem?_eq_getElem hj] at h2 ⊢
    simp only [Option.map_some, Option.getD_some] at h2 ⊢
    rw [Bool.and_eq_true]
    refine ⟨by simp [h1], ?_⟩
    rw [Array.all_eq_true]
    intro i hi
    cases hb : Region.binds .any ops[j].after[i] with
    | false => simp
    | true =>
      have := h2 ops[j].after[i].on (by
        rw [Array.any_eq_true]
        exact ⟨i, hi, by simp [hb]⟩)
      simp [this]

structure Okay (ops : Array Oper) (R : List Nat) : Prop where
  lt : ∀ j ∈ R, j < ops.size
  back : ∀ j ∈ R, ∀ x, depB ops j x = true → x < j
  after : ∀ h ∈ R, lightAt ops h = false → ∀ j ∈ R, h < j → ∃ y ∈ R, h ≤ y ∧ depB ops j y = true
  ahead : ∀ h ∈ R, lightAt ops h = false → ∀ x ∈ R, x < h → ∃ y ∈ R, x < y ∧ y ≤ h ∧ depB ops y x = true
  pair : ∀ j ∈ R, lightAt ops j = true → ∀ x ∈ R, x < j → lightAt ops x = true → pairOk ops x j = true
  sorted : R.Pairwise (· < ·)

theorem okay_of {R : List Nat} (h : okR ops R = true) (hs : R.Pairwise (· < ·)) : Okay ops R := by
  unfold okR at h
  rw [Bool.and_eq_true, Bool.and_eq_true, Bool.and_eq_true] at h
  obtain ⟨⟨⟨h1, h2⟩, h3⟩, h4⟩ := h
  rw [List.all_eq_true] at h1 h2 h3 h4
  refine ⟨fun j hj => ?_, fun j hj x hx => ?_, fun h hh hl j hj hlt => ?_, fun h hh hl x hx hlt => ?_, fun j hj hl x hx hlt hlx => ?_, hs⟩
  · have := h1 j hj
    rw [Bool.and_eq_true] at this
    simpa using this.1
  · have := h1 j hj
    rw [Bool.and_eq_true] at this
    have h5 := this.2
    unfold depsBack at h5
    unfold depB at hx
    cases ho : ops[j]? with
    | none => rw [ho] at hx; simp at hx
    | some o =>
      rw [ho] at hx h5
      simp only [Array.all_eq_true, Array.any_eq_true] at hx h5
      obtain ⟨i, hi, he⟩ := hx
      rw [Bool.and_eq_true] at he
      have := h5 i hi
      rw [Bool.or_eq_true] at this
      have hxe : o.after[i].on = x := by simpa using he.2
      rcases this with h6 | h6
      · rw [he.1] at h6; simp at h6
      · rw [hxe] at h6; simpa using h6
  · have := h2 h hh
    rw [Bool.or_eq_true, hl] at this
    rcases this with h5 | h5
    · cases h5
    · rw [List.all_eq_true] at h5
      have := h5 j hj
      rw [Bool.or_eq_true] at this
      rcases this with h6 | h6
      · have : j ≤ h := by simpa using h6
        omega
      · rw [List.any_eq_true] at h6
        obtain ⟨y, hy, he⟩ := h6
        rw [Bool.and_eq_true] at he
        exact ⟨y, hy, by simpa using he.1, he.2⟩
  · have := h3 h hh
    rw [Bool.or_eq_true, hl] at this
    rcases this with h5 | h5
    · cases h5
    · rw [List.all_eq_true] at h5
      have := h5 x hx
      rw [Bool.or_eq_true] at this
      rcases this with h6 | h6
      · have : h ≤ x := by simpa using h6
        omega
      · rw [List.any_eq_true] at h6
        obtain ⟨y, hy, he⟩ := h6
        rw [Bool.and_eq_true, Bool.and_eq_true] at he
        exact ⟨y, hy, by simpa using he.1.1, by simpa using he.1.2, he.2⟩
  · have := h4 j hj
    rw [Bool.or_eq_true, hl] at this
    rcases this with h5 | h5
    · cases h5
    · rw [List.all_eq_true] at h5
      have := h5 x hx
      rw [Bool.or_eq_true, Bool.or_eq_true, hlx] at this
      rcases this with (h6 | h6) | h6
      · simp at h6; omega
      · cases h6
      · exact h6

theorem mem_takeWhile_true (p : Nat → Bool) : ∀ (l : List Nat) (a : Nat), a ∈ l.takeWhile p → p a = true
  | [], a, h => by simp at h
  | b :: l, a, h => by
    rw [List.takeWhile_cons] at h
    split at h
    · rcases List.mem_cons.1 h with rfl | h
      · assumption
      · exact mem_takeWhile_true p l a h
    · simp at h
theorem getD_size {L : Array Bool} {i : Nat} (h : i < L.size) (b c : Bool) : L.getD i b = L.getD i c := by
  simp [Array.getD_eq_getD_getElem?, Array.getElem?_eq_getElem h]

theorem forced_main {R : List Nat} (ok : Okay ops R) (hsel : ∀ (j : Nat) (o : Oper) (cs : Array SelectCase) (b : Bool), ops[j]? = some o → o.op ≠ .select cs b) : ∀ (fuel : Nat) (pre seg l' : List Nat) (X : Nat → Bool) (L : Array Bool) (a : Act) (w : World) (V : Nat → Value),
    R = pre ++ (seg ++ l') → (∀ x ∈ seg, lightAt ops x = true) → (∀ h l'', l' = h :: l'' → lightAt ops h = false) → L.size = ops.size →
    (∀ i, i < ops.size → (L.getD i true = false ↔ (i ∈ seg ∧ X i = false) ∨ i ∈ l')) →
    (∀ y x, y < ops.size → L.getD y true = true → depB ops y x = true → L.getD x false = true) →
    segOK P ops w V seg a → wpI P ops Q l' (putX ops V (fun _ => true) seg a) w →
    (seg.filter (fun x => !X x)).length + l'.length ≤ fuel → wpAny P .any ops Q fuel L (putX ops V X seg a) w := by
  intro fuel
  induction fuel with
  | zero =>
    intro pre seg l' X L a w V hR hlit hhv hsz hL hcl hseg hw hf
    have hl0 : l' = [] := List.length_eq_zero_iff.1 (by omega)
    have hf0 : seg.filter (fun x => !X x) = [] := List.length_eq_zero_iff.1 (by omega)
    have hX : ∀ x ∈ seg, X x = true := fun x hx => by
      rw [List.filter_eq_nil_iff] at hf0
      have := hf0 x hx
      simpa using this
    subst hl0
    refine ⟨?_, ?_⟩
    · rw [List.eq_nil_iff_forall_not_mem]
      intro j hj
      obtain ⟨hjn, hun, _⟩ := mem_ready.1 hj
      rcases (hL j hjn).1 hun with ⟨h1, h2⟩ | h
      · rw [hX j h1] at h2; cases h2
      · simp at h
    · unfold wpI at hw
      rwa [putX_congr (V' := V) (Y := fun _ => true) seg a hX (fun _ _ => rfl)]
  | succ fuel ih =>
    intro pre seg l' X L a w V hR hlit hhv hsz hL hcl hseg hw hf
    have hsorted := ok.sorted
    rw [hR, List.pairwise_append] at hsorted
    obtain ⟨_, hs2, _⟩ := hsorted
    rw [List.pairwise_append] at hs2
    obtain ⟨hs3, hs4, hs5⟩ := hs2
    have memR : ∀ x, x ∈ seg ∨ x ∈ l' → x ∈ R := fun x hx => by
      rw [hR]
      rcases hx with h | h
      · exact List.mem_append_right _ (List.mem_append_left _ h)
      · exact List.mem_append_right _ (List.mem_append_right _ h)
    have hnd : seg.Nodup := hs3.imp (fun h e => by omega)
    have hpre : ∀ x ∈ pre, ∀ y, y ∈ seg ∨ y ∈ l' → x < y := fun x hx y hy => by
      have := ok.sorted
      rw [hR, List.pairwise_append] at this
      refine this.2.2 x hx y ?_
      rcases hy with h | h
      · exact List.mem_append_left _ h
      · exact List.mem_append_right _ h
    have unl : ∀ x, x ∈ seg → X x = false → L.getD x true = false := fun x hx hX => (hL x (ok.lt x (memR x (.inl hx)))).2 (.inl ⟨hx, hX⟩)
    have unl' : ∀ x, x ∈ l' → L.getD x true = false := fun x hx => (hL x (ok.lt x (memR x (.inr hx)))).2 (.inr hx)
    have lis : ∀ x, x ∈ seg → L.getD x false = true → X x = true := fun x hx h => by
      cases hX : X x with
      | true => rfl
      | false =>
        have := unl x hx hX
        rw [getD_size (by rw [hsz]; exact ok.lt x (memR x (.inl hx))) true false, h] at this
        cases this
    have lis2 : ∀ x, x ∈ seg → X x = true → L.getD x true = true := fun x hx h => by
      cases hc : L.getD x true with
      | true => rfl
      | false =>
        rcases (hL x (ok.lt x (memR x (.inl hx)))).1 hc with ⟨_, h2⟩ | h2
        · rw [h] at h2; cases h2
        · have := hs5 x hx x h2; omega
    refine ⟨fun hr => ?_, fun j hj => ?_⟩
    · -- nothing is ready: nothing is left
      have hno : ∀ m, m < ops.size → L.getD m true = true := by
        intro m
        induction m using Nat.strongRecOn with
        | _ m ihm =>
          intro hm
          cases hc : L.getD m true with
          | true => rfl
          | false =>
            exfalso
            have hmR : m ∈ R := by
              rcases (hL m hm).1 hc with ⟨h, _⟩ | h
              · exact memR m (.inl h)
              · exact memR m (.inr h)
            have : m ∈ Region.ready .any ops L := mem_ready.2 ⟨hm, hc, fun x hx => by
              have hxm := ok.back m hmR x hx
              have := ihm x hxm (by omega)
              rwa [getD_size (by rw [hsz]; omega) true false] at this⟩
            rw [hr] at this
            simp at this
      have hl0 : l' = [] := by
        rw [List.eq_nil_iff_forall_not_mem]
        intro x hx
        have h1 := unl' x hx
        rw [hno x (ok.lt x (memR x (.inr hx)))] at h1
        cases h1
      have hX : ∀ x ∈ seg, X x = true := fun x hx => by
        cases hc : X x with
        | true => rfl
        | false =>
          have h1 := unl x hx hc
          rw [hno x (ok.lt x (memR x (.inl hx)))] at h1
          cases h1
      subst hl0
      unfold wpI at hw
      rwa [putX_congr (V' := V) (Y := fun _ => true) seg a hX (fun _ _ => rfl)]
    · obtain ⟨hjn, hun, hdep⟩ := mem_ready.1 hj
      obtain ⟨o, ho⟩ : ∃ o, ops[j]? = some o := ⟨_, Array.getElem?_eq_getElem hjn⟩
      have hsz' : (L.setIfInBounds j true).size = ops.size := by simpa using hsz
      have get' : ∀ i b, (L.setIfInBounds j true).getD i b = if i = j then true else L.getD i b := fun i b => by
        simp only [Array.getD_eq_getD_getElem?, Array.getElem?_setIfInBounds]
        by_cases h : j = i
        · subst h; simp [hsz, hjn]
        · rw [if_neg h, if_neg (fun e => h e.symm)]
      have hcl' : ∀ y x, y < ops.size → (L.setIfInBounds j true).getD y true = true → depB ops y x = true → (L.setIfInBounds j true).getD x false = true := by
        intro y x hy h1 h2
        rw [get'] at h1 ⊢
        by_cases hxj : x = j
        · rw [if_pos hxj]
        · rw [if_neg hxj]
          by_cases hyj : y = j
          · subst hyj; exact hdep x h2
          · rw [if_neg hyj] at h1
            exact hcl y x hy h1 h2
      rcases (hL j hjn).1 hun with ⟨hjs, hXj⟩ | hjl
      · -- a light one
        have hjR := memR j (.inl hjs)
        have hlj := hlit j hjs
        have agree : ∀ t ∈ o.looksAt ops, (putX ops V X seg a).tmps[t]? = (putX ops V (fun x => decide (x < j)) seg a).tmps[t]? := by
          intro t ht
          refine putX_get seg a a (fun x hx hd => ?_) rfl rfl
          have htj : (lookOf ops j).contains t = true := by unfold lookOf; rw [ho]; simpa using ht
          rcases Nat.lt_trichotomy x j with h | h | h
          · have hp := ok.pair j hjR hlj x (memR x (.inl hx)) h (hlit x hx)
            unfold pairOk at hp
            rw [hd] at hp
            simp only [Bool.and_eq_true, Bool.or_eq_true, htj, Bool.not_true, Bool.false_eq_true, false_or] at hp
            rw [lis x hx (hdep x hp.1.2), decide_eq_true h]
          · subst h
            rw [hXj]
            simp
          · have hp := ok.pair x (memR x (.inl hx)) (hlit x hx) j hjR h hlj
            unfold pairOk at hp
            rw [hd] at hp
            simp only [Bool.and_eq_true, Bool.or_eq_true, htj, Bool.not_true, Bool.false_eq_true, false_or] at hp
            have hxj := hp.2
            rw [decide_eq_false (by omega)]
            cases hc : X x with
            | false => rfl
            | true =>
              have h1 := hcl x j (ok.lt x (memR x (.inl hx))) (lis2 x hx hc) hxj
              rw [getD_size (by rw [hsz]; exact hjn) false true, hun] at h1
              cases h1
        obtain ⟨he, hwt⟩ := look_congr agree (fun cs b => hsel j o cs b ho)
        have hdj : dstOf ops j = o.dst := by simp [dstOf, ho]
        have hadd : putX ops V (fun x => X x || x == j) seg a = (putX ops V X seg a).put o.dst (V j) := by
          rw [← hdj]
          refine putX_add hXj seg a hjs hnd fun x hx hne t ht => ?_
          rcases Nat.lt_or_gt_of_ne hne with h | h
          · have hp := ok.pair j hjR hlj x (memR x (.inl hx)) h (hlit x hx)
            unfold pairOk at hp
            intro hd
            rw [hd] at hp
            simp only [Bool.and_eq_true, ht] at hp
            simp at hp
          · have hp := ok.pair x (memR x (.inl hx)) (hlit x hx) j hjR h hlj
            unfold pairOk at hp
            intro hd
            rw [ht] at hp
            simp only [Bool.and_eq_true, hd] at hp
            simp at hp
        have hlen : (seg.filter (fun x => !(X x || x == j))).length + 1 ≤ (seg.filter (fun x => !X x)).length := by
          have h1 : (seg.filter (fun x => !(X x || x == j))).length = ((seg.filter (fun x => !X x)).filter (fun x => x != j)).length := by
            rw [List.filter_filter]
            congr 1
            apply List.filter_congr
            intro x _
            cases X x <;> cases h : x == j <;> simp [bne, h]
          have hmem : j ∈ seg.filter (fun x => !X x) := List.mem_filter.2 ⟨hjs, by simp [hXj]⟩
          have h2 : ((seg.filter (fun x => !X x)).filter (fun x => x != j)).length < (seg.filter (fun x => !X x)).length := by
            rw [List.length_filter_lt_length_iff_exists]
            exact ⟨j, hmem, by simp⟩
          omega
        have next : wpAny P .any ops Q fuel (L.setIfInBounds j true) ((putX ops V X seg a).put o.dst (V j)) w := by
          rw [← hadd]
          refine ih pre seg l' (fun x => X x || x == j) (L.setIfInBounds j true) a w V hR hlit hhv hsz' (fun i hi => ?_) hcl' hseg hw (by omega)
          rw [get']
          by_cases hij : i = j
          · subst hij
            rw [if_pos rfl]
            constructor
            · intro h; cases h
            · rintro (⟨_, h⟩ | h)
              · simp at h
              · have := hs5 i hjs i h; omega
          · rw [if_neg hij, hL i hi]
            simp [hij]
        have hs := hseg j hjs o ho
        unfold wpOp
        rw [ho]
        simp only
        rw [hwt]
        rcases hs with ⟨h1, h2⟩ | ⟨h1, h2⟩
        · rw [h1]
          simp only [if_true]
          left
          unfold Oper.wp
          rw [he, h2]
          exact next
        · rw [h1]
          simp only [Bool.false_eq_true, if_false]
          rw [h2] at next
          exact next
      · -- behind the light ones
        obtain ⟨h, l'', rfl⟩ : ∃ h l'', l' = h :: l'' := by
          cases l' with
          | nil => simp at hjl
          | cons h l'' => exact ⟨h, l'', rfl⟩
        have hheavy := hhv h l'' rfl
        have hhR := memR h (.inr (List.mem_cons_self ..))
        rw [List.pairwise_cons] at hs4
        have ge_l : ∀ y ∈ R, h ≤ y → y ∈ h :: l'' := fun y hy hle => by
          rw [hR] at hy
          rcases List.mem_append.1 hy with h1 | h1
          · have := hpre y h1 h (.inr (List.mem_cons_self ..)); omega
          · rcases List.mem_append.1 h1 with h2 | h2
            · have := hs5 y h2 h (List.mem_cons_self ..); omega
            · exact h2
        obtain rfl : j = h := by
          rcases List.mem_cons.1 hjl with h1 | h1
          · exact h1
          · exfalso
            obtain ⟨y, hy, hle, hd⟩ := ok.after h hhR hheavy j (memR j (.inr hjl)) (hs4.1 j h1)
            have h2 := unl' y (ge_l y hy hle)
            have h3 := hdep y hd
            rw [getD_size (by rw [hsz]; exact ok.lt y hy) false true, h2] at h3
            cases h3
        have hXall : ∀ m x, x ∈ seg → j - x ≤ m → X x = true := by
          intro m
          induction m with
          | zero => intro x hx hm; have := hs5 x hx j (List.mem_cons_self ..); omega
          | succ m ihm =>
            intro x hx hm
            have hlt := hs5 x hx j (List.mem_cons_self ..)
            obtain ⟨y, hy, hxy, hyj, hd⟩ := ok.ahead j hhR hheavy x (memR x (.inl hx)) hlt
            rcases Nat.lt_or_eq_of_le hyj with h1 | h1
            · have hys : y ∈ seg := by
                rw [hR] at hy
                rcases List.mem_append.1 hy with h2 | h2
                · have := hpre y h2 x (.inl hx); omega
                · rcases List.mem_append.1 h2 with h3 | h3
                  · exact h3
                  · rcases List.mem_cons.1 h3 with h4 | h4
                    · omega
                    · have := hs4.1 y h4; omega
              have hXy := ihm y hys (by omega)
              exact lis x hx (hcl y x (ok.lt y hy) (lis2 y hys hXy) hd)
            · subst h1
              exact lis x hx (hdep x hd)
        have hXs : ∀ x ∈ seg, X x = true := fun x hx => hXall (j - x) x hx (Nat.le_refl _)
        rw [putX_congr (V' := V) (Y := fun _ => true) seg a hXs (fun _ _ => rfl)]
        generalize putX ops V (fun _ => true) seg a = b at hw
        have next : ∀ a' w', wpI P ops Q l'' a' w' → wpAny P .any ops Q fuel (L.setIfInBounds j true) a' w' := by
          intro a' w' h'
          have hsplit : l'' = l''.takeWhile (lightAt ops) ++ l''.dropWhile (lightAt ops) := (List.takeWhile_append_dropWhile (p := lightAt ops) (l := l'')).symm
          have hl1 : ∀ x ∈ l''.takeWhile (lightAt ops), lightAt ops x = true := fun x hx => by
            exact mem_takeWhile_true _ _ x hx
          have hs6 := hs4.2
          rw [hsplit] at hs6 h'
          obtain ⟨V', hseg', hw'⟩ := seg_of _ a' (List.pairwise_append.1 hs6).1 hl1 h'
          have e0 : putX ops V' (fun _ => false) (l''.takeWhile (lightAt ops)) a' = a' := putX_none _ _ (fun _ _ => rfl)
          rw [← e0]
          refine ih (pre ++ (seg ++ [j])) (l''.takeWhile (lightAt ops)) (l''.dropWhile (lightAt ops)) (fun _ => false) (L.setIfInBounds j true) a' w' V' ?_ hl1 ?_ hsz' (fun i hi => ?_) hcl' hseg' hw' ?_
          · rw [← hsplit, hR]; simp
          · intro h2 l3 e
            have := List.head_dropWhile_not (lightAt ops) (l := l'') (by rw [e]; simp)
            simp only [e, List.head_cons] at this
            exact this
          · rw [get']
            have hmem : (i ∈ l''.takeWhile (lightAt ops) ∧ (fun _ : Nat => false) i = false) ∨ i ∈ l''.dropWhile (lightAt ops) ↔ i ∈ l'' := by
              conv => rhs; rw [hsplit]
              rw [List.mem_append]
              simp
            rw [hmem]
            by_cases hij : i = j
            · subst hij
              rw [if_pos rfl]
              constructor
              · intro h; cases h
              · intro h; have := hs4.1 i h; omega
            · rw [if_neg hij, hL i hi]
              constructor
              · rintro (⟨h1, h2⟩ | h1)
                · rw [hXs i h1] at h2; cases h2
                · rcases List.mem_cons.1 h1 with h2 | h2
                  · exact absurd h2 hij
                  · exact h2
              · intro h1; exact .inr (List.mem_cons_of_mem _ h1)
          · have h1 : ((l''.takeWhile (lightAt ops)).filter (fun x => !(fun _ : Nat => false) x)).length = (l''.takeWhile (lightAt ops)).length := by simp
            rw [h1, ← List.length_append, ← hsplit]
            simp only [List.length_cons] at hf
            omega
        unfold wpI at hw
        rw [ho] at hw
        simp only at hw
        unfold lightAt at hheavy
        rw [ho] at hheavy
        simp only at hheavy
        unfold wpOp
        rw [ho]
        simp only
        split
        · rename_i hwt
          rw [hwt, hheavy] at hw
          simp only [if_true, Bool.false_eq_true, if_false] at hw
          exact .inl (Oper.wp_mono next hw)
        · rename_i hwt
          rw [if_neg hwt] at hw
          exact next _ _ hw

def putM (ops : Array Oper) : List Nat → Act → Act
  | [], a => a
  | i :: l, a => putM ops l (match ops[i]? with | some o => (match o.op with | .move x => a.put o.dst (a.eval x) | _ => a) | none => a)

theorem floats_first (hsel : Region.noSelect ops = true) (hQ : ∀ c a d v w, Q (.panic c) (Act.put a d v) w → Q (.panic c) a w) : ∀ (F : List Nat) (L : Array Bool) (a : Act) (w : World) (fuel : Nat), floatsOk ops F L = true →
    wpAny P .any ops Q fuel (markAll F L) (putM ops F a) w → wpAny P .any ops Q (fuel + F.length) L a w
  | [], L, a, w, fuel, _, h => h
  | i :: F, L, a, w, fuel, hok, h => by
    unfold floatsOk at hok
    simp only [Bool.and_eq_true] at hok
    obtain ⟨⟨⟨h1, h2⟩, h3⟩, h4⟩ := hok
    cases ho : ops[i]? with
    | none => rw [ho] at h1; cases h1
    | some o =>
      rw [ho] at h1
      simp only at h1
      unfold isFloat at h1
      simp only [Bool.and_eq_true] at h1
      obtain ⟨⟨h5, h6⟩, h7⟩ := h1
      cases hop : o.op with
      | move x =>
        refine wpAny_take (v := a.eval x) ho hsel h2 h3 (fun c b w h => hQ c b o.dst _ w h) (.inl ⟨?_, fun W => ?_⟩) ?_
        · unfold Region.wanted
          rw [Option.isNone_iff_eq_none.1 h6]
        · obtain ⟨dst, op, type, pos, after, guard⟩ := o
          simp only at hop
          subst hop
          rfl
        · refine floats_first hsel hQ F _ _ w fuel h4 ?_
          unfold markAll putM at h
          rw [ho] at h
          simp only [hop] at h
          exact h
      | _ => rw [hop] at h5; cases h5

theorem wpF_I : ∀ (l : List Oper) (r : List Nat) (a : Act) (w : World), r.map (fun i => ops[i]?) = l.map some → wpF P ops Q l a w → wpI P ops Q r a w
  | [], r, a, w, hr, h => by
    have : r = [] := by cases r with
      | nil => rfl
      | cons x r => simp at hr
    subst this
    exact h
  | o :: l, [], a, w, hr, h => by simp at hr
  | o :: l, i :: r, a, w, hr, h => by
    simp only [List.map_cons, List.cons.injEq] at hr
    unfold wpF at h
    unfold wpI
    rw [hr.1]
    simp only
    split
    · rename_i hw
      rw [if_pos hw] at h
      split
      · rename_i hl
        rw [if_pos hl] at h
        unfold litStep at h ⊢
        split
        · rename_i v w' hr'
          rw [hr'] at h
          exact ⟨h.1, wpF_I l r _ _ hr.2 h.2⟩
        · rename_i hno
          revert h
          split
          · rename_i v w' hr'
            exact absurd hr' (hno v w')
          · exact fun h => h
      · rename_i hl
        rw [if_neg hl] at h
        exact Oper.wp_mono (fun a' w' h' => wpF_I l r a' w' hr.2 h') h
    · rename_i hw
      rw [if_neg hw] at h
      exact wpF_I l r _ _ hr.2 h

/-- The copies first, then what is left, in the order of the text. -/
def ordered (l : List Oper) : List Oper := l.filter isFloat ++ l.filter (fun o => !isFloat o)

theorem wpF_floats (w : World) (l : List Oper) : ∀ (F : List Oper) (r : List Nat) (a : Act), r.map (fun i => ops[i]?) = F.map some → (∀ o ∈ F, isFloat o = true) → wpF P ops Q (F ++ l) a w → wpF P ops Q l (putM ops r a) w
  | [], r, a, hr, _, h => by
    have : r = [] := by cases r with
      | nil => rfl
      | cons x r => simp at hr
    subst this
    exact h
  | o :: F, [], a, hr, _, h => by simp at hr
  | o :: F, i :: r, a, hr, hF, h => by
    simp only [List.map_cons, List.cons.injEq] at hr
    have hf := hF o (List.mem_cons_self ..)
    unfold isFloat at hf
    simp only [Bool.and_eq_true] at hf
    obtain ⟨⟨h5, h6⟩, h7⟩ := hf
    rw [List.cons_append] at h
    unfold wpF at h
    unfold putM
    rw [hr.1]
    simp only
    have hw : Region.wanted o (yielded ops a.tmps) = true := by
      unfold Region.wanted
      rw [Option.isNone_iff_eq_none.1 h6]
    rw [hw] at h
    cases hop : o.op with
    | move x =>
      rw [hop] at h
      have he : (execOp a.eval o).run P w = .ok (.value (a.eval x)) w := by
        obtain ⟨dst, op, type, pos, after, guard⟩ := o
        simp only at hop
        subst hop
        rfl
      rw [he] at h
      simp only [lightOp, if_true] at h
      exact wpF_floats w l F r _ hr.2 (fun o' h' => hF o' (List.mem_cons_of_mem _ h')) h.2
    | _ => rw [hop] at h5; cases h5

theorem markAll_size : ∀ (F : List Nat) (L : Array Bool), (markAll F L).size = L.size
  | [], _ => rfl
  | i :: F, L => by unfold markAll; rw [markAll_size F]; simp
theorem markAll_get : ∀ (F : List Nat) (L : Array Bool) (i : Nat) (b : Bool), i < L.size → ((markAll F L).getD i b = true ↔ i ∈ F ∨ L.getD i b = true)
  | [], L, i, b, hi => by simp [markAll]
  | j :: F, L, i, b, hi => by
    unfold markAll
    rw [markAll_get F _ i b (by simpa using hi)]
    simp only [Array.getD_eq_getD_getElem?, Array.getElem?_setIfInBounds]
    by_cases h : j = i
    · subst h; simp [hi]
    · rw [if_neg h]
      have : ¬ i = j := fun e => h e.symm
      simp [this]
theorem filter_map_get (l : List Oper) (p : Oper → Bool) : ((List.range l.length).filter (fun i => ((l[i]?).map p).getD false)).map (fun i => l[i]?) = (l.filter p).map some := by
  induction l with
  | nil => rfl
  | cons o l ih =>
    rw [List.length_cons, List.range_succ_eq_map, List.filter_cons, List.filter_cons]
    have e : (List.filter (fun i => (Option.map p (o :: l)[i]?).getD false) (List.map Nat.succ (List.range l.length))).map (fun i => (o :: l)[i]?) = (l.filter p).map some := by
      rw [List.filter_map, List.map_map]
      rw [← ih]
      rfl
    simp only [List.getElem?_cons_zero, Option.map_some, Option.getD_some]
    split
    · rw [List.map_cons, List.map_cons, e]; rfl
    · exact e

theorem filter_len (p : Nat → Bool) : ∀ l : List Nat, (l.filter p).length + (l.filter (fun x => !p x)).length = l.length
  | [] => rfl
  | x :: l => by
    have := filter_len p l
    rw [List.filter_cons, List.filter_cons]
    cases p x <;> simp <;> omega
/-- The theorem: a region that draws its order does what it does in the order of the text, if that is forced. -/
theorem wp_region_forced {id : Nat} {l : List Oper} {a : Act} {w : World} (hm : P.follows .mixedOrders = true) (hc : forcedB l.toArray = true) (hQ : ∀ c a d v w, Q (.panic c) (Act.put a d v) w → Q (.panic c) a w)
    (h : wpF P l.toArray Q (ordered l) a w.drew) : (Code.region id l.toArray true).wp P Q a w := by
  unfold forcedB at hc
  simp only [Bool.and_eq_true] at hc
  obtain ⟨⟨h1, h2⟩, h3⟩ := hc
  refine wp_region_any hm ?_
  have hfl : (floats l.toArray).map (fun i => l.toArray[i]?) = (l.filter isFloat).map some := by
    have := filter_map_get l isFloat
    simpa [floats] using this
  have hol : (others l.toArray).map (fun i => l.toArray[i]?) = (l.filter (fun o => !isFloat o)).map some := by
    have h0 := filter_map_get l (fun o => !isFloat o)
    have e : others l.toArray = (List.range l.length).filter (fun i => ((l[i]?).map (fun o => !isFloat o)).getD false) := by
      unfold others
      simp only [List.size_toArray, List.getElem?_toArray]
      apply List.filter_congr
      intro i hi
      rw [List.getElem?_eq_getElem (by simpa using hi)]
      rfl
    rw [e]
    simpa using h0
  have hw : wpI P l.toArray Q (others l.toArray) (putM l.toArray (floats l.toArray) a) w.drew :=
    wpF_I _ _ _ _ hol (wpF_floats w.drew _ _ _ a hfl (fun o ho => (List.mem_filter.1 ho).2) h)
  have hsorted : (others l.toArray).Pairwise (· < ·) := List.Pairwise.filter _ List.pairwise_lt_range
  have ok := okay_of h2 hsorted
  have hnum : (floats l.toArray).length + (others l.toArray).length = l.toArray.size := by
    unfold floats others
    have := filter_len (fun i => ((l.toArray[i]?).map isFloat).getD false) (List.range l.toArray.size)
    rw [List.length_range] at this
    exact this
  rw [show l.toArray.size = (others l.toArray).length + (floats l.toArray).length by omega]
  rw [show (others l.toArray).length + (floats l.toArray).length = l.toArray.size by omega]
  conv => arg 5; rw [show l.toArray.size = (others l.toArray).length + (floats l.toArray).length by omega]
  refine floats_first h1 hQ _ _ _ _ _ h3 ?_
  generalize putM l.toArray (floats l.toArray) a = b at hw
  have hsplit : others l.toArray = (others l.toArray).takeWhile (lightAt l.toArray) ++ (others l.toArray).dropWhile (lightAt l.toArray) := (List.takeWhile_append_dropWhile (p := lightAt l.toArray)).symm
  have hl1 : ∀ x ∈ (others l.toArray).takeWhile (lightAt l.toArray), lightAt l.toArray x = true := fun x hx => mem_takeWhile_true _ _ x hx
  have hs6 := hsorted
  rw [hsplit] at hs6 hw
  obtain ⟨V', hseg', hw'⟩ := seg_of _ b (List.pairwise_append.1 hs6).1 hl1 hw
  have e0 : putX l.toArray V' (fun _ => false) ((others l.toArray).takeWhile (lightAt l.toArray)) b = b := putX_none _ _ (fun _ _ => rfl)
  have hrep : ∀ (i : Nat) (c : Bool), i < l.toArray.size → (Array.replicate l.toArray.size false).getD i c = false := fun i c hi => by
    simp only [Array.getD_eq_getD_getElem?, Array.getElem?_replicate, if_pos hi, Option.getD_some]
  rw [← e0]
  refine forced_main ok (Region.noSelect_spec h1) _ [] _ _ (fun _ => false) _ b w.drew V' (by rw [List.nil_append, ← hsplit]) hl1 ?_ ?_ ?_ ?_ hseg' hw' ?_
  · intro h2 l3 e
    have := List.head_dropWhile_not (lightAt l.toArray) (l := others l.toArray) (by rw [e]; simp)
    simp only [e, List.head_cons] at this
    exact this
  · rw [markAll_size]; simp
  · intro i hi
    have hmem : (i ∈ (others l.toArray).takeWhile (lightAt l.toArray) ∧ (fun _ : Nat => false) i = false) ∨ i ∈ (others l.toArray).dropWhile (lightAt l.toArray) ↔ i ∈ others l.toArray := by
      conv => rhs; rw [hsplit]
      rw [List.mem_append]
      simp
    rw [hmem]
    have hg := markAll_get (floats l.toArray) (Array.replicate l.toArray.size false) i true (by simpa using hi)
    rw [hrep i true hi] at hg
    have hfo : i ∈ others l.toArray ↔ ¬ i ∈ floats l.toArray := by
      unfold floats others
      rw [List.mem_filter, List.mem_filter, List.mem_range]
      simp only [hi, true_and]
      cases ((l.toArray[i]?).map isFloat).getD false <;> simp
    rw [hfo]
    constructor
    · intro h4 h5
      rw [hg.2 (.inl h5)] at h4
      cases h4
    · intro h4
      cases hc : (markAll (floats l.toArray) (Array.replicate l.toArray.size false)).getD i true with
      | false => rfl
      | true =>
        rcases hg.1 hc with h5 | h5
        · exact absurd h5 h4
        · cases h5
  · intro y x hy h4 h5
    have hg := markAll_get (floats l.toArray) (Array.replicate l.toArray.size false) y true (by simpa using hy)
    rw [hrep y true hy] at hg
    rcases hg.1 h4 with h6 | h6
    · -- a copy waits for nothing
      exfalso
      unfold floats at h6
      rw [List.mem_filter] at h6
      have h7 := h6.2
      unfold depB at h5
      cases ho : l.toArray[y]? with
      | none => rw [ho] at h5; cases h5
      | some o =>
        rw [ho] at h5 h7
        simp only [Option.map_some, Option.getD_some] at h5 h7
        unfold isFloat at h7
        simp only [Bool.and_eq_true, Array.all_eq_true] at h7
        rw [Array.any_eq_true] at h5
        obtain ⟨i, hi, he⟩ := h5
        have := h7.2 i hi
        rw [Bool.and_eq_true] at he
        rw [he.1] at this
        cases this
    · cases h6
  · have h1 : (((others l.toArray).takeWhile (lightAt l.toArray)).filter (fun x => !(fun _ : Nat => false) x)).length = ((others l.toArray).takeWhile (lightAt l.toArray)).length := by simp
    rw [h1, ← List.length_append, ← hsplit]
    exact Nat.le_refl _

/-- One light operation. -/
theorem wpF_light {o : Oper} {l : List Oper} {a : Act} {w : World} (hl : lightOp o.op = true)
    (h : ∀ K : Value → Prop, (∀ v, wpF P ops Q l (a.put o.dst v) w → K v) → if Region.wanted o (yielded ops a.tmps) then litStep ((execOp a.eval o).run P w) w K else K undef) : wpF P ops Q (o :: l) a w := by
  have := h (fun v => wpF P ops Q l (a.put o.dst v) w) (fun _ h => h)
  unfold wpF
  rw [hl]
  simpa using this
/-- One that is not. -/
theorem wpF_heavy {o : Oper} {l : List Oper} {a : Act} {w : World} (hl : lightOp o.op = false)
    (h : ∀ K : Act → World → Prop, (∀ a' w', wpF P ops Q l a' w' → K a' w') → if Region.wanted o (yielded ops a.tmps) then o.wp P a w K Q else K (a.put o.dst undef) w) : wpF P ops Q (o :: l) a w := by
  have := h (wpF P ops Q l) (fun _ _ h => h)
  unfold wpF
  rw [hl]
  simpa using this
theorem wpF_nil {a : Act} {w : World} (h : Q .normal a w) : wpF P ops Q [] a w := h
/-- As the walk uses it: the region is shown not to panic. -/
theorem wp_forced {id : Nat} {l : List Oper} {a : Act} {w : World} (hm : P.follows .mixedOrders = true) (hc : forcedB l.toArray = true) (h : wpF P l.toArray (NoPanic Q) (ordered l) a w.drew) : (Code.region id l.toArray true).wp P Q a w :=
  wp_region_noPanic (wp_region_forced hm hc (fun _ _ _ _ _ h => (h : False).elim) h)
theorem wpF_end {a : Act} {w : World} (h : Q .normal a w) : wpF P ops (NoPanic Q) [] a w := h
theorem wpF_call {o : Oper} {l : List Oper} {a : Act} {w : World} (hl : lightOp o.op = false) (hw : Region.wanted o (yielded ops a.tmps) = true)
    (h : ∀ K : Act → World → Prop, Hid (∀ a' w', wpF P ops Q l a' w' → K a' w') → o.wp P a w K Q) : wpF P ops Q (o :: l) a w :=
  wpF_heavy hl fun K hK => by rw [if_pos hw]; exact h K hK
theorem wpF_skip {o : Oper} {l : List Oper} {a : Act} {w : World} (hl : lightOp o.op = false) (hw : Region.wanted o (yielded ops a.tmps) = false)
    (h : wpF P ops Q l (a.put o.dst undef) w) : wpF P ops Q (o :: l) a w :=
  wpF_heavy hl fun K hK => by rw [if_neg (by rw [hw]; simp)]; exact hK _ _ h
theorem wpF_no {o : Oper} {l : List Oper} {a : Act} {w : World} (hw : Region.wanted o (yielded ops a.tmps) = false) (h : wpF P ops Q l (a.put o.dst undef) w) : wpF P ops Q (o :: l) a w := by
  unfold wpF
  rw [if_neg (by rw [hw]; simp)]
  exact h
end
end Go.Proofs.YteddiknlcdbhjaaGreat

namespace Go.Proofs.YteddiknlcdbhjaaGreat
open Go Go.RowKit

/-- What is asked of a region: the blocks that its chain of calls may turn, the world ahead of it, what holds behind so many links of the chain, what is said of the value of each operation that makes or calls something, which values it may have at all, which blocks that value owns, what an operation uses up, which operations are links; how many may float, and those behind all of them. -/
structure Inv where
  S : List Nat
  w0 : World
  K : Nat → World → Prop
  R : Nat → Value → World → Prop
  adm : Nat → Value → Prop
  fp : Nat → Value → List Nat
  con : Nat → List Nat
  ch : Nat → Bool
  nb : Nat
  tl : List Oper

section
variable (ops : Array Oper)
def maskOf (o : Oper) (M : List Nat) : Nat := o.after.toList.foldl (fun m e => if Region.binds .any e then m ||| ((1 <<< e.on) ||| M.getD e.on 0) else m) 0
def masksL : List Oper → List Nat → List Nat
  | [], M => M
  | o :: l, M => masksL l (M ++ [maskOf o M])
def ancB (j h : Nat) : Bool := ((masksL ops.toList []).getD j 0).testBit h
def availB (con : Nat → List Nat) (j h : Nat) : Bool := ancB ops j h && (List.range ops.size).all fun y => !(con y).contains h || y == j || ancB ops y j
def floatAt (j : Nat) : Bool := ((ops[j]?).map isFloat).getD false
def tailB (nb : Nat) : Bool := floatsOk ops (floats ops) (Array.replicate ops.size false) && (List.range ops.size).all fun j => decide (j < nb) || (!floatAt ops j && (List.range j).all fun x => floatAt ops x || ancB ops j x)
def endB (con : Nat → List Nat) (h : Nat) : Bool := (List.range ops.size).all fun y => !(con y).contains h
def invB (con : Nat → List Nat) (ch : Nat → Bool) : Bool :=
  Region.noSelect ops && (List.range ops.size).all (fun j => depsBack ops j && (List.range j).all (fun x => pairOk ops x j) && (!(lightAt ops j) || ((con j).isEmpty && !ch j)) &&
    (List.range j).all (fun x => !(ch x && ch j) || ancB ops j x) && (con j).all (fun h => decide (h < ops.size) && !lightAt ops h && ancB ops j h) && (List.range ops.size).all (fun y => y == j || (con j).all fun h => !(con y).contains h))
end

def factsV (I : Inv) (ok : Nat → Bool) : List (Nat × Value) → World → Prop
  | [], _ => True
  | p :: G, w => (ok p.1 = true → I.R p.1 p.2 w) ∧ factsV I ok G w
/-- The blocks that an operation uses up. -/
def usedV (I : Inv) (j : Nat) : List (Nat × Value) → List Nat
  | [] => []
  | p :: G => (if (I.con j).contains p.1 then I.fp p.1 p.2 else []) ++ usedV I j G
theorem usedV_none {I : Inv} {j : Nat} (h : I.con j = []) (G : List (Nat × Value)) : usedV I j G = [] := by
  induction G with
  | nil => rfl
  | cons p G ih => unfold usedV; rw [h, ih]; rfl
/-- What an operation that makes or calls something leaves behind. -/
def outV (I : Inv) (j s : Nat) (G : List (Nat × Value)) (w : World) (v : Value) (w' : World) : Prop :=
  I.R j v w' ∧ (∀ b ∈ I.fp j v, b ∈ usedV I j G ∨ (w.heap.size ≤ b ∧ b < w'.heap.size)) ∧ Upd (if I.ch j then I.S ++ usedV I j G else usedV I j G) w w' ∧ (I.ch j = true → I.K (s + 1) w')
def obL (P : Program) (ops : Array Oper) (I : Inv) (o : Oper) (j : Nat) (A : Act) (G : List (Nat × Value)) (v : Value) : Prop :=
  ∀ w, Upd I.S I.w0 w → factsV I (availB ops I.con j) G w → if Region.wanted o (yielded ops A.tmps) then litStep ((execOp A.eval o).run P w) w (· = v) else v = undef
def obH (P : Program) (ops : Array Oper) (I : Inv) (Q : Exit → Act → World → Prop) (o : Oper) (j s : Nat) (A : Act) (G : List (Nat × Value)) : Prop :=
  ∀ w, Upd I.S I.w0 w → (I.ch j = true → I.K s w) → factsV I (availB ops I.con j) G w →
    if Region.wanted o (yielded ops A.tmps) then o.wp P A w (fun A' w' => ∃ v, A' = A.put o.dst v ∧ outV I j s G w v w') Q else outV I j s G w undef w
/-- What stands behind all others, one behind the other. -/
def wpT (P : Program) (ops : Array Oper) (Q : Exit → Act → World → Prop) : List Oper → Act → World → Prop
  | [], a, w => Q .normal a w
  | o :: l, a, w => if Region.wanted o (yielded ops a.tmps) then o.wp P a w (wpT P ops Q l) Q else wpT P ops Q l (a.put o.dst undef) w
def obE (P : Program) (ops : Array Oper) (I : Inv) (Q : Exit → Act → World → Prop) (s : Nat) (A : Act) (G : List (Nat × Value)) : Prop :=
  ∀ w, Upd I.S I.w0 w → I.K s w → factsV I (endB ops I.con) G w → wpT P ops Q I.tl A w
/-- The operations, one behind the other in the text, each in every world in which it may come. -/
def wpV (P : Program) (ops : Array Oper) (I : Inv) (Q : Exit → Act → World → Prop) : List Oper → Nat → Nat → Act → List (Nat × Value) → Prop
  | [], _, s, A, G => obE P ops I Q s A G
  | o :: l, j, s, A, G =>
    if lightOp o.op then ∃ v, obL P ops I o j A G v ∧ wpV P ops I Q l (j + 1) s (A.put o.dst v) G
    else obH P ops I Q o j s A G ∧ ∀ v, I.adm j v → wpV P ops I Q l (j + 1) (if I.ch j then s + 1 else s) (A.put o.dst v) (G ++ [(j, v)])

section
theorem mask_spec (o : Oper) (M : List Nat) (h : Nat) : (maskOf o M).testBit h = o.after.any (fun e => Region.binds .any e && (e.on == h || (M.getD e.on 0).testBit h)) := by
  unfold maskOf
  rw [← Array.any_toList]
  have key : ∀ (l : List Edge) (m : Nat), (l.foldl (fun m e => if Region.binds .any e then m ||| ((1 <<< e.on) ||| M.getD e.on 0) else m) m).testBit h = (m.testBit h || l.any (fun e => Region.binds .any e && (e.on == h || (M.getD e.on 0).testBit h))) := by
    intro l
    induction l with
    | nil => intro m; simp
    | cons e l ih =>
      intro m
      rw [List.foldl_cons, ih, List.any_cons]
      cases hb : Region.binds .any e with
      | false => simp
      | true =>
        simp only [if_true, Bool.true_and, Nat.testBit_or, Nat.one_shiftLeft, Nat.testBit_two_pow]
        rw [Bool.or_assoc]
        congr 2
  rw [key]
  simp
theorem masks_pre : ∀ (l : List Oper) (M : List Nat) (i : Nat), i < M.length → (masksL l M).getD i 0 = M.getD i 0
  | [], _, _, _ => rfl
  | o :: l, M, i, h => by
    unfold masksL
    rw [masks_pre l _ i (by simp; omega)]
    simp [List.getD_eq_getElem?_getD, List.getElem?_append_left h]
theorem masks_at : ∀ (l : List Oper) (M : List Nat) (k : Nat) (o : Oper), l[k]? = some o → ∃ M', M'.length = M.length + k ∧ (masksL l M).getD (M.length + k) 0 = maskOf o M' ∧ ∀ i, i < M'.length → M'.getD i 0 = (masksL l M).getD i 0
  | [], _, _, _, h => by simp at h
  | o :: l, M, 0, o', h => by
    simp at h
    subst h
    refine ⟨M, rfl, ?_, fun i hi => (masks_pre _ M i hi).symm⟩
    unfold masksL
    rw [masks_pre l _ _ (by simp)]
    simp [List.getD_eq_getElem?_getD]
  | o :: l, M, k + 1, o', h => by
    obtain ⟨M', h1, h2, h3⟩ := masks_at l (M ++ [maskOf o M]) k o' (by simpa using h)
    unfold masksL
    refine ⟨M', by simp at h1; omega, ?_, h3⟩
    rw [← h2]
    congr 1
    simp; omega
variable {P : Program} {ops : Array Oper}
theorem anc_iff {j h : Nat} (hj : j < ops.size) (hb : depsBack ops j = true) : ancB ops j h = true ↔ ∃ x, depB ops j x = true ∧ (x = h ∨ ancB ops x h = true) := by
  obtain ⟨M', h1, h2, h3⟩ := masks_at ops.toList [] j ops[j] (by simp [hj])
  unfold ancB depB
  simp only [List.length_nil, Nat.zero_add] at h1 h2
  rw [h2, mask_spec, Array.getElem?_eq_getElem hj]
  unfold depsBack at hb
  rw [Array.getElem?_eq_getElem hj] at hb
  simp only [Array.all_eq_true, Array.any_eq_true, Bool.or_eq_true, Bool.and_eq_true, decide_eq_true_eq, Bool.not_eq_true', beq_iff_eq] at hb ⊢
  constructor
  · rintro ⟨i, hi, he, hh⟩
    refine ⟨_, ⟨i, hi, he, rfl⟩, hh.imp id fun h4 => ?_⟩
    rw [← h3 _ (by rw [h1]; exact (hb i hi).resolve_left (by rw [he]; simp))]
    exact h4
  · rintro ⟨x, ⟨i, hi, he, rfl⟩, hh⟩
    refine ⟨i, hi, he, hh.imp id fun h4 => ?_⟩
    rw [h3 _ (by rw [h1]; exact (hb i hi).resolve_left (by rw [he]; simp))]
    exact h4

structure InvOk (ops : Array Oper) (I : Inv) : Prop where
  sel : ∀ (j : Nat) (o : Oper) (cs : Array SelectCase) (b : Bool), ops[j]? = some o → o.op ≠ .select cs b
  back : ∀ j, j < ops.size → depsBack ops j = true
  pair : ∀ j, j < ops.size → ∀ x, x < j → pairOk ops x j = true
  light : ∀ j, j < ops.size → lightAt ops j = true → I.con j = [] ∧ I.ch j = false
  chain : ∀ j, j < ops.size → ∀ x, x < j → I.ch x = true → I.ch j = true → ancB ops j x = true
  con : ∀ j, j < ops.size → ∀ h ∈ I.con j, h < ops.size ∧ lightAt ops h = false ∧ ancB ops j h = true
  once : ∀ j, j < ops.size → ∀ y, y < ops.size → y ≠ j → ∀ h ∈ I.con j, h ∉ I.con y
theorem invOk_of {I : Inv} (h : invB ops I.con I.ch = true) : InvOk ops I := by
  unfold invB at h
  rw [Bool.and_eq_true, List.all_eq_true] at h
  obtain ⟨h0, h1⟩ := h
  have h2 : ∀ j, j < ops.size → _ := fun j hj => h1 j (List.mem_range.2 hj)
  simp only [Bool.and_eq_true, List.all_eq_true, List.mem_range, Bool.or_eq_true, Bool.not_eq_true', List.isEmpty_iff, decide_eq_true_eq, beq_iff_eq, Bool.and_eq_false_iff] at h2
  refine ⟨Region.noSelect_spec h0, fun j hj => (h2 j hj).1.1.1.1.1, fun j hj x hx => (h2 j hj).1.1.1.1.2 x hx, fun j hj hl => ?_, fun j hj x hx hx1 hj1 => ?_, fun j hj h hh => ?_, fun j hj y hy hne h hh hm => ?_⟩
  · rcases (h2 j hj).1.1.1.2 with h3 | h3
    · rw [hl] at h3; cases h3
    · exact h3
  · rcases (h2 j hj).1.1.2 x hx with h3 | h3
    · rw [hx1, hj1] at h3; rcases h3 with h3 | h3 <;> cases h3
    · exact h3
  · have := (h2 j hj).1.2 h hh
    exact ⟨this.1.1, this.1.2, this.2⟩
  · rcases (h2 j hj).2 y hy with h3 | h3
    · exact hne h3
    · have := h3 h hh
      simp at this
      exact this hm
theorem wp_transfer {o : Oper} {a b : Act} {w : World} {K' : Act → World → Prop} {Z : Value → World → Prop} {Q : Exit → Act → World → Prop} (he : execOp a.eval o = execOp b.eval o)
    (hK : ∀ v w', Z v w' → K' (b.put o.dst v) w') (hinj : ∀ v v' : Value, a.put o.dst v = a.put o.dst v' → b.put o.dst v = b.put o.dst v')
    (h : o.wp P a w (fun A' w' => ∃ v, A' = a.put o.dst v ∧ Z v w') (NoPanic Q)) : o.wp P b w K' (NoPanic Q) := by
  have key : ∀ v w', (∃ v', a.put o.dst v = a.put o.dst v' ∧ Z v' w') → K' (b.put o.dst v) w' := fun v w' ⟨v', e, hz⟩ => hinj v v' e ▸ hK v' w' hz
  unfold Oper.wp at h ⊢
  rw [← he]
  generalize (execOp a.eval o).run P w = r at h
  cases r with
  | ok n w' =>
    cases n with
    | value v => exact key v w' h
    | skip => exact key _ w' h
    | defer d =>
      obtain ⟨v', e, _⟩ := h
      exfalso
      have := congrArg Act.defers e
      cases hd : o.dst <;> rw [hd] at this <;> simp [Act.put] at this
    | enter f args =>
      refine Calls.mono h fun e w'' he => ?_
      cases e with
      | returned v => exact key v w'' he
      | panicked c => exact he
      | outgrown => exact he
    | row r args => exact Rows.mono h fun v w'' he => key v w'' he
    | _ => exact h
  | halt x w' => cases x <;> exact h
end
end Go.Proofs.YteddiknlcdbhjaaGreat

namespace Go.Proofs.YteddiknlcdbhjaaGreat
open Go Go.RowKit

section
variable {P : Program} {ops : Array Oper} {I : Inv} {Q : Exit → Act → World → Prop} {a : Act}

def Aat (ops : Array Oper) (a : Act) (V : Nat → Value) (j : Nat) : Act := putX ops V (fun x => decide (x < j)) (List.range ops.size) a
def Gat (ops : Array Oper) (V : Nat → Value) (j : Nat) : List (Nat × Value) := ((List.range j).filter (fun h => !lightAt ops h)).map (fun h => (h, V h))
def sat (I : Inv) (j : Nat) : Nat := ((List.range j).filter I.ch).length
def Ob (P : Program) (ops : Array Oper) (I : Inv) (Q : Exit → Act → World → Prop) (a : Act) (V : Nat → Value) (j : Nat) : Prop :=
  ∀ o, ops[j]? = some o → if lightOp o.op then obL P ops I o j (Aat ops a V j) (Gat ops V j) (V j) else obH P ops I Q o j (sat I j) (Aat ops a V j) (Gat ops V j)
def Flat (P : Program) (ops : Array Oper) (I : Inv) (Q : Exit → Act → World → Prop) (a : Act) (V : Nat → Value) : Prop :=
  (∀ j, j < I.nb → Ob P ops I Q a V j) ∧ obE P ops I Q (sat I I.nb) (Aat ops a V I.nb) (Gat ops V I.nb)

theorem putX_congr' {V V' : Nat → Value} {X Y : Nat → Bool} : ∀ (l : List Nat) (a : Act), (∀ x ∈ l, X x = Y x) → (∀ x ∈ l, X x = true → V x = V' x) → putX ops V X l a = putX ops V' Y l a
  | [], _, _, _ => rfl
  | i :: l, a, hx, hv => by
    unfold putX
    rw [hx i (List.mem_cons_self ..)]
    cases hY : Y i with
    | true =>
      simp only [if_true]
      rw [hv i (List.mem_cons_self ..) (by rw [hx i (List.mem_cons_self ..), hY])]
      exact putX_congr' l _ (fun x hm => hx x (List.mem_cons_of_mem _ hm)) (fun x hm => hv x (List.mem_cons_of_mem _ hm))
    | false =>
      simp only [Bool.false_eq_true, if_false]
      exact putX_congr' l _ (fun x hm => hx x (List.mem_cons_of_mem _ hm)) (fun x hm => hv x (List.mem_cons_of_mem _ hm))
theorem InvOk.distinct (ok : InvOk ops I) {j x : Nat} (hj : j < ops.size) (hx : x < ops.size) (hne : x ≠ j) (t : Tmp) (h : dstOf ops j = some t) : dstOf ops x ≠ some t := by
  intro h'
  rcases Nat.lt_or_gt_of_ne hne with h1 | h1
  · have hp := ok.pair j hj x h1
    unfold pairOk at hp
    rw [h, h'] at hp
    simp at hp
  · have hp := ok.pair x hx j h1
    unfold pairOk at hp
    rw [h, h'] at hp
    simp at hp
theorem Aat_congr {V V' : Nat → Value} {j : Nat} (h : ∀ x, x < j → V x = V' x) : Aat ops a V j = Aat ops a V' j :=
  putX_congr' _ _ (fun _ _ => rfl) (fun x _ hx => h x (by simpa using hx))
theorem Gat_congr {V V' : Nat → Value} {j : Nat} (h : ∀ x, x < j → V x = V' x) : Gat ops V j = Gat ops V' j := by
  unfold Gat
  apply List.map_congr_left
  intro x hx
  rw [h x (List.mem_range.1 (List.mem_filter.1 hx).1)]
theorem Aat_succ (ok : InvOk ops I) {j : Nat} (hj : j < ops.size) (V : Nat → Value) : Aat ops a V (j + 1) = (Aat ops a V j).put (dstOf ops j) (V j) := by
  unfold Aat
  rw [← putX_add (by simp) _ _ (List.mem_range.2 hj) List.nodup_range (fun x hx hne t ht => ok.distinct hj (List.mem_range.1 hx) hne t ht)]
  refine putX_congr _ _ (fun x _ => ?_) (fun _ _ => rfl)
  rw [Bool.eq_iff_iff]
  simp
  omega
theorem Gat_succ (V : Nat → Value) (j : Nat) : Gat ops V (j + 1) = if lightAt ops j then Gat ops V j else Gat ops V j ++ [(j, V j)] := by
  unfold Gat
  rw [List.range_succ, List.filter_append, List.map_append]
  cases h : lightAt ops j <;> simp [h]
theorem sat_succ (j : Nat) : sat I (j + 1) = if I.ch j then sat I j + 1 else sat I j := by
  unfold sat
  rw [List.range_succ, List.filter_append]
  cases h : I.ch j <;> simp [h]
theorem lightAt_some {j : Nat} {o : Oper} (h : ops[j]? = some o) : lightAt ops j = lightOp o.op := by unfold lightAt; rw [h]

theorem flat_of (ok : InvOk ops I) (hnb : I.nb ≤ ops.size) : ∀ (l : List Oper) (j : Nat) (V0 : Nat → Value), (∀ k o, l[k]? = some o → ops[j + k]? = some o) → j + l.length = I.nb →
    wpV P ops I Q l j (sat I j) (Aat ops a V0 j) (Gat ops V0 j) → ∀ e : Nat → Value, (∀ h, I.adm h (e h)) → ∃ V, (∀ x, x < j → V x = V0 x) ∧ (∀ h, j ≤ h → h < I.nb → lightAt ops h = false → V h = e h) ∧
      (∀ i, j ≤ i → i < I.nb → Ob P ops I Q a V i) ∧ obE P ops I Q (sat I I.nb) (Aat ops a V I.nb) (Gat ops V I.nb)
  | [], j, V0, _, hn, h, e, _ => by
    simp at hn
    subst hn
    exact ⟨V0, fun _ _ => rfl, fun h h1 h2 => by omega, fun i h1 h2 => by omega, h⟩
  | o :: l, j, V0, hl, hn, h, e, hadm => by
    have ho : ops[j]? = some o := by simpa using hl 0 o rfl
    have hj : j < ops.size := (Array.getElem?_eq_some_iff.1 ho).1
    have hla := lightAt_some ho
    have hd : dstOf ops j = o.dst := by simp [dstOf, ho]
    have hl' : ∀ k o', l[k]? = some o' → ops[j + 1 + k]? = some o' := fun k o' hk => by
      have := hl (k + 1) o' (by simpa using hk)
      rwa [show j + (k + 1) = j + 1 + k by omega] at this
    have hn' : j + 1 + l.length = I.nb := by simp at hn; omega
    unfold wpV at h
    -- the rest, from the value of this one
    have key : ∀ v, (lightAt ops j = false → v = e j) → wpV P ops I Q l (j + 1) (sat I (j + 1)) ((Aat ops a V0 j).put o.dst v) (Gat ops (fun x => if x = j then v else V0 x) (j + 1)) → Ob P ops I Q a (fun x => if x = j then v else V0 x) j →
        ∃ V, (∀ x, x < j → V x = V0 x) ∧ (∀ h, j ≤ h → h < I.nb → lightAt ops h = false → V h = e h) ∧ (∀ i, j ≤ i → i < I.nb → Ob P ops I Q a V i) ∧ obE P ops I Q (sat I I.nb) (Aat ops a V I.nb) (Gat ops V I.nb) := by
      intro v hv hw hob
      have hA : (Aat ops a V0 j).put o.dst v = Aat ops a (fun x => if x = j then v else V0 x) (j + 1) := by
        rw [Aat_succ ok hj, hd]
        simp only [if_true]
        rw [Aat_congr (V' := V0) (fun x hx => if_neg (by omega))]
      rw [hA] at hw
      obtain ⟨V, h1, h2, h3, h4⟩ := flat_of ok hnb l (j + 1) _ hl' hn' hw e hadm
      refine ⟨V, fun x hx => by rw [h1 x (by omega), if_neg (by omega)], fun x hx hxn hxl => ?_, fun i hi hin => ?_, h4⟩
      · rcases Nat.lt_or_eq_of_le hx with h5 | h5
        · exact h2 x h5 hxn hxl
        · subst h5
          rw [h1 j (by omega), if_pos rfl]
          exact hv hxl
      · rcases Nat.lt_or_eq_of_le hi with h5 | h5
        · exact h3 i h5 hin
        · subst h5
          intro o' ho'
          have := hob o' ho'
          have h6 : (fun x => if x = j then v else V0 x) j = V j := (h1 j (by omega)).symm
          rw [Aat_congr (V' := V) (fun x hx => (h1 x (by omega)).symm), Gat_congr (V' := V) (fun x hx => (h1 x (by omega)).symm), h6] at this
          exact this
    have e1 : ∀ v, Aat ops a (fun x => if x = j then v else V0 x) j = Aat ops a V0 j := fun v => Aat_congr fun x hx => if_neg (by omega)
    have e2 : ∀ v, Gat ops (fun x => if x = j then v else V0 x) j = Gat ops V0 j := fun v => Gat_congr fun x hx => if_neg (by omega)
    cases hlo : lightOp o.op with
    | true =>
      rw [hlo] at h hla
      simp only [if_true] at h
      obtain ⟨v, hob, hr⟩ := h
      refine key v (fun hc => by rw [hla] at hc; cases hc) ?_ ?_
      · rw [Gat_succ, hla, sat_succ, (ok.light j hj hla).2, e2]
        exact hr
      · intro o' ho'
        rw [ho] at ho'
        cases ho'
        rw [hlo, e1, e2]
        simpa using hob
    | false =>
      rw [hlo] at h hla
      simp only [Bool.false_eq_true, if_false] at h
      obtain ⟨hob, hr⟩ := h
      refine key (e j) (fun _ => rfl) ?_ ?_
      · rw [Gat_succ, hla, sat_succ, e2]
        simpa using hr (e j) (hadm j)
      · intro o' ho'
        rw [ho] at ho'
        cases ho'
        rw [hlo, e1, e2]
        simpa using hob

def Live (ops : Array Oper) (I : Inv) (L : Array Bool) (h : Nat) : Prop := h < I.nb ∧ lightAt ops h = false ∧ L.getD h false = true ∧ ∀ y, y < I.nb → L.getD y false = true → h ∉ I.con y
structure StI (P : Program) (ops : Array Oper) (I : Inv) (Q : Exit → Act → World → Prop) (a : Act) (L : Array Bool) (u : Nat → Value) (w : World) : Prop where
  sz : L.size = ops.size
  cl : ∀ y x, y < ops.size → L.getD y false = true → depB ops y x = true → L.getD x false = true
  i1 : Upd I.S I.w0 w
  i2 : I.K ((List.range I.nb).filter (fun x => I.ch x && L.getD x false)).length w
  i3 : ∀ h, Live ops I L h → I.R h (u h) w
  i4 : ∀ h, Live ops I L h → ∀ b ∈ I.fp h (u h), I.w0.heap.size ≤ b ∧ b < w.heap.size
  i5 : ∀ h h', Live ops I L h → Live ops I L h' → h ≠ h' → ∀ b ∈ I.fp h (u h), b ∉ I.fp h' (u h')
  i7 : ∀ h, lightAt ops h = false → I.adm h (u h)
  tl : ∀ j, I.nb ≤ j → L.getD j false = false
  fl : ∀ j, floatAt ops j = true → L.getD j false = true
  i6 : ∀ j, j < I.nb → lightAt ops j = true → L.getD j false = true → ∀ V, Flat P ops I Q a V → (∀ h, h < I.nb → lightAt ops h = false → ancB ops j h = true → V h = u h) → V j = u j

theorem facts_of {ok : Nat → Bool} {w : World} : ∀ (G : List (Nat × Value)), (∀ p ∈ G, ok p.1 = true → I.R p.1 p.2 w) → factsV I ok G w
  | [], _ => trivial
  | p :: G, h => ⟨h p (List.mem_cons_self ..), facts_of G fun q hq => h q (List.mem_cons_of_mem _ hq)⟩
theorem mem_Gat {V : Nat → Value} {j : Nat} {p : Nat × Value} (h : p ∈ Gat ops V j) : p.1 < j ∧ lightAt ops p.1 = false ∧ p.2 = V p.1 := by
  unfold Gat at h
  obtain ⟨x, hx, rfl⟩ := List.mem_map.1 h
  have := List.mem_filter.1 hx
  exact ⟨List.mem_range.1 this.1, by simpa using this.2, rfl⟩
theorem mem_used {j b : Nat} : ∀ {G : List (Nat × Value)}, b ∈ usedV I j G → ∃ p ∈ G, p.1 ∈ I.con j ∧ b ∈ I.fp p.1 p.2
  | [], h => by simp [usedV] at h
  | p :: G, h => by
    unfold usedV at h
    rcases List.mem_append.1 h with h1 | h1
    · split at h1
      · rename_i hc
        exact ⟨p, List.mem_cons_self .., by simpa using hc, h1⟩
      · simp at h1
    · obtain ⟨q, h2, h3⟩ := mem_used h1
      exact ⟨q, List.mem_cons_of_mem _ h2, h3⟩
end
end Go.Proofs.YteddiknlcdbhjaaGreat

/-
  WaitLost: the bodies go well, whatever the others do. No program in sight.
  WaitLost: all sleepers and committers, in whichever order. No program in sight.
  Several threads on the same blocks, and what their bodies keep: a step, a run of one of them.
  concordlaw15's sleeper and committer, as bodies.
  concordlaw15's sleeper and committer: their closures are bodies, whatever the others keep.
  Package blocks by contracts: New.
-/
import Derived.Test.YtkldpdldjalpeaaGreatDoorWoB5
import Derived.Test.YtkldpdldjalpeaaGreatDoorWoB3
set_option linter.unusedVariables false
namespace Go.Proofs.YtkldpdldjalpeaaGreatDoor.Th
variable {nc ns : Nat} {cj : Nat → Nat}

/-! The steps of the ghost. -/
def SW.note (s : SW nc cj) (x : Nat) (h : s.1.who x = none) : SW nc cj := ⟨{ s.1 with wt := fun y => if y = x then true else s.1.wt y }, ⟨s.2.own, s.2.tkd, fun j h1 h2 h3 => by
  by_cases e : cj j = x
  · have h2' : s.1.who (cj j) = some j := h2
    rw [e, h] at h2'
    cases h2'
  · simp only [if_neg e] at h3
    exact s.2.fin j h1 h2 h3⟩⟩
def SW.take (s : SW nc cj) (j : Nat) (hj : j < nc) (h : s.1.who (cj j) = none) (ho : ∀ x, s.1.who x ≠ some j) : SW nc cj := ⟨{ s.1 with who := fun y => if y = cj j then some j else s.1.who y, p := fun k => if k = j then 1 else s.1.p k }, by
  refine ⟨fun x k hk => ?_, fun k hk => ?_, fun k h1 h2 h3 => ?_⟩
  · simp only at hk ⊢
    by_cases e : x = cj j
    · rw [if_pos e] at hk
      injection hk with hk
      subst hk
      rw [if_pos rfl]
      exact ⟨hj, e, by omega, by omega⟩
    · rw [if_neg e] at hk
      have hkj : k ≠ j := fun e' => ho x (e' ▸ hk)
      rw [if_neg hkj]
      exact s.2.own x k hk
  · obtain ⟨g1, g2, g3⟩ := s.2.tkd k hk
    have hkj : k ≠ j := fun e' => ho _ (e' ▸ g2)
    simp only [if_neg hkj]
    refine ⟨g1, ?_, g3⟩
    split
    · next e => rw [e, h] at g2; cases g2
    · exact g2
  · simp only at h1 h2 h3 ⊢
    by_cases hkj : k = j
    · rw [if_pos hkj] at h1; omega
    · rw [if_neg hkj] at h1
      refine s.2.fin k h1 ?_ h3
      split at h2
      · injection h2 with h2; exact absurd h2.symm hkj
      · exact h2⟩
def SW.commit (s : SW nc cj) (j : Nat) (hp : s.1.p j = 1) : SW nc cj := ⟨{ s.1 with p := fun k => if k = j then (if s.1.wt (cj j) = true then 2 else 3) else s.1.p k }, by
  refine ⟨fun x k hk => ?_, fun k hk => ?_, fun k h1 h2 h3 => ?_⟩
  · obtain ⟨g1, g2, g3, g4⟩ := s.2.own x k hk
    refine ⟨g1, g2, ?_⟩
    simp only
    split
    · split <;> omega
    · exact ⟨g3, g4⟩
  · obtain ⟨g1, g2, g3⟩ := s.2.tkd k hk
    have hkj : k ≠ j := fun e => by subst e; omega
    simp only [if_neg hkj]
    exact ⟨g1, g2, g3⟩
  · simp only at h1 h2 h3 ⊢
    by_cases hkj : k = j
    · subst hkj
      rw [if_pos rfl, if_pos h3] at h1
      omega
    · rw [if_neg hkj] at h1
      exact s.2.fin k h1 h2 h3⟩
def SW.tick (s : SW nc cj) (j : Nat) (hp : s.1.p j = 2) (hw : s.1.who (cj j) = some j) : SW nc cj := ⟨{ s.1 with p := fun k => if k = j then 3 else s.1.p k, tk := fun k => if k = j then true else s.1.tk k }, by
  refine ⟨fun x k hk => ?_, fun k hk => ?_, fun k h1 h2 h3 => ?_⟩
  · obtain ⟨g1, g2, g3, g4⟩ := s.2.own x k hk
    refine ⟨g1, g2, ?_⟩
    simp only
    split
    · omega
    · exact ⟨g3, g4⟩
  · simp only at hk ⊢
    by_cases hkj : k = j
    · subst hkj
      rw [if_pos rfl]
      exact ⟨rfl, hw, (s.2.own _ _ hw).1⟩
    · rw [if_neg hkj] at hk ⊢
      exact s.2.tkd k hk
  · simp only at h1 h2 h3 ⊢
    by_cases hkj : k = j
    · rw [if_pos hkj]
    · rw [if_neg hkj] at h1 ⊢
      exact s.2.fin k h1 h2 h3⟩
theorem rl_note (s : SW nc cj) (x : Nat) (h : s.1.who x = none) (i : Nat) : RL nc cj ns i s (s.note x h) := by
  refine ⟨fun _ _ e => e, fun y e => ?_, fun y j e => ?_, fun _ e => e, fun _ _ => ⟨rfl, rfl, fun _ e => e⟩⟩
  · show (if y = x then true else s.1.wt y) = true
    split
    · rfl
    · exact e
  · show (if y = x then true else s.1.wt y) = _
    rw [if_neg (fun e' => by rw [e', h] at e; cases e)]
theorem rl_take (s : SW nc cj) (j : Nat) (hj : j < nc) (h : s.1.who (cj j) = none) (ho : ∀ x, s.1.who x ≠ some j) (i : Nat) (hi : i ≠ ns + j) : RL nc cj ns i s (s.take j hj h ho) := by
  refine ⟨fun x k e => ?_, fun _ e => e, fun _ _ _ => rfl, fun _ e => e, fun k hk => ?_⟩
  · show (if x = cj j then some j else s.1.who x) = some k
    rw [if_neg (fun e' => by rw [e', h] at e; cases e)]
    exact e
  · have hkj : k ≠ j := fun e => hi (by rw [hk, e])
    refine ⟨if_neg hkj, rfl, fun x e => ?_⟩
    have e : (if x = cj j then some j else s.1.who x) = some k := e
    split at e
    · injection e with e; exact absurd e.symm hkj
    · exact e
theorem rl_commit (s : SW nc cj) (j : Nat) (hp : s.1.p j = 1) (i : Nat) (hi : i ≠ ns + j) : RL nc cj ns i s (s.commit j hp) := by
  refine ⟨fun _ _ e => e, fun _ e => e, fun _ _ _ => rfl, fun _ e => e, fun k hk => ?_⟩
  have hkj : k ≠ j := fun e => hi (by rw [hk, e])
  exact ⟨if_neg hkj, rfl, fun _ e => e⟩
theorem rl_tick (s : SW nc cj) (j : Nat) (hp : s.1.p j = 2) (hw : s.1.who (cj j) = some j) (i : Nat) (hi : i ≠ ns + j) : RL nc cj ns i s (s.tick j hp hw) := by
  refine ⟨fun _ _ e => e, fun _ e => e, fun _ _ _ => rfl, fun k e => ?_, fun k hk => ?_⟩
  · show (if k = j then true else s.1.tk k) = true
    split
    · rfl
    · exact e
  · have hkj : k ≠ j := fun e => hi (by rw [hk, e])
    exact ⟨if_neg hkj, if_neg hkj, fun _ e => e⟩

/-! Words. -/
theorem selI_mw (s : St) {x : Nat} (hx : x < 3) : selI x (s.mw 0) (s.mw 1) (s.mw 2) = s.mw x := by
  have h : x = 0 ∨ x = 1 ∨ x = 2 := by omega
  rcases h with rfl | rfl | rfl <;> rfl
theorem putI_mw {s s' : St} {x : Nat} {m : Int} (hm : s'.mw x = m) (ho : ∀ y, y ≠ x → s'.mw y = s.mw y) (y : Nat) : putI x y m (s.mw y) = s'.mw y := by
  unfold putI
  split
  · next e => rw [← e, hm]
  · next e => rw [ho y (fun e' => e e'.symm)]
theorem mw_none {s : St} {x : Nat} (h : s.who x = none) : s.mw x = if s.wt x = true then 2 else 0 := by unfold St.mw; rw [h]
theorem mw_some {s : St} {x j : Nat} (h : s.who x = some j) : s.mw x = if s.p j = 1 then (if s.wt x = true then 259 else 257) else 65536 := by unfold St.mw; rw [h]
theorem mw_congr {s s' : St} {x : Nat} (h1 : s'.who x = s.who x) (h2 : s'.wt x = s.wt x) (h3 : ∀ j, s.who x = some j → s'.p j = s.p j) : s'.mw x = s.mw x := by
  cases h : s.who x with
  | none => rw [mw_none h, mw_none (h1.trans h), h2]
  | some j => rw [mw_some h, mw_some (h1.trans h), h2, h3 j h]
theorem mw_cases (s : St) (x : Nat) : (s.who x = none ∧ s.wt x = false ∧ s.mw x = 0) ∨ (s.who x = none ∧ s.wt x = true ∧ s.mw x = 2) ∨ ∃ j, s.who x = some j ∧ (s.mw x = 259 ∨ s.mw x = 257 ∨ s.mw x = 65536) := by
  cases h : s.who x with
  | none =>
    rw [mw_none h]
    cases hw : s.wt x with
    | false => exact .inl ⟨rfl, rfl, rfl⟩
    | true => exact .inr (.inl ⟨rfl, rfl, rfl⟩)
  | some j =>
    refine .inr (.inr ⟨j, rfl, ?_⟩)
    rw [mw_some h]
    split
    · split
      · exact .inl rfl
      · exact .inr (.inl rfl)
    · exact .inr (.inr rfl)

/-! The sleeper. -/
theorem now_safe {i : Nat} (s : SW nc cj) : Safe (IL nc cj) (RL nc cj ns) i (fun (a : An) (s : SW nc cj) => a.err = 0 ∧ 0 ≤ a.n ∧ a.n ≤ (s.1.room : Int)) (nowT 12) s := by
  rintro s1 hr B ⟨v0, v1, v2, rfl⟩
  refine ⟨s1, fun _ _ => RLs.refl _ _ _, ⟨v0, v1, v2, rfl⟩, ?_⟩
  rw [r3_load_room]
  have := room_3 s1.1
  have hs : s64 (s1.1.room : Int) = s1.1.room := by unfold s64; omega
  refine ⟨rfl, ?_, ?_⟩
  · show 0 ≤ s64 (s1.1.room : Int); rw [hs]; omega
  · show s64 (s1.1.room : Int) ≤ _; rw [hs]; omega
def QAw (t : Int) (x : Nat) (a : An) (s : SW nc cj) : Prop := t ≤ s.1.room ∧ ((a.err = 0 ∧ Noted s.1 t x) ∨ (a.err = 12 ∧ ∃ y j, s.1.who y = some j))
theorem await_safe {i : Nat} {x : Nat} (hx : x < 3) {t : Int} : ∀ (k : Nat) (s : SW nc cj), (2 ≤ k ∨ (1 ≤ k ∧ (s.1.wt x = true ∨ ∃ j, s.1.who x = some j))) → t ≤ s.1.room → Safe (IL nc cj) (RL nc cj ns) i (QAw t x) (turnT (clR x) 0 waitTo k) s
  | 0, s, h, _ => by omega
  | k + 1, s, h, ht => by
    rintro s1 hr B ⟨v0, v1, v2, rfl⟩
    have ht1 : t ≤ s1.1.room := by have := room_le hr.tk; omega
    refine ⟨s1, fun _ _ => RLs.refl _ _ _, ⟨v0, v1, v2, rfl⟩, ?_⟩
    rw [r3_load_meta hx, selI_mw _ hx]
    rcases mw_cases s1.1 x with ⟨h1, h2, h3⟩ | ⟨h1, h2, h3⟩ | ⟨j, h1, h3⟩
    · simp only [h3]
      rw [if_neg (by decide), if_neg (by decide)]
      have hk : 1 ≤ k := by
        rcases h with h | ⟨_, h | ⟨j, h⟩⟩
        · omega
        · rw [hr.wt x h] at h2; cases h2
        · rw [hr.who x j h] at h1; cases h1
      rintro s2 hr2 B ⟨v0, v1, v2, rfl⟩
      have ht2 : t ≤ s2.1.room := by have := room_le hr2.tk; omega
      rw [r3_cas_meta hx, selI_mw _ hx]
      rcases mw_cases s2.1 x with ⟨g1, g2, g3⟩ | ⟨g1, g2, g3⟩ | ⟨j, g1, g3⟩
      · refine ⟨s2.note x g1, fun j _ => rl_note s2 x g1 j, ⟨v0, v1, v2, ?_⟩, ?_⟩
        · rw [if_pos (by rw [g3]; rfl)]
          have hm : (s2.note x g1).1.mw x = pk (waitTo (unp 0)) := by
            rw [mw_none (s := (s2.note x g1).1) g1]
            show (if (if x = x then true else _) = true then (2 : Int) else 0) = 2
            rw [if_pos rfl, if_pos rfl]
          have ho : ∀ y, y ≠ x → (s2.note x g1).1.mw y = s2.1.mw y := fun y hy => by
            exact mw_congr rfl (if_neg hy) (fun _ _ => rfl)
          rw [putI_mw hm ho, putI_mw hm ho, putI_mw hm ho]
          rfl
        · simp only [g3]
          rw [if_pos (by decide)]
          refine ⟨ht2, .inl ⟨rfl, ?_, fun j hj => ?_⟩⟩
          · show (if x = x then true else _) = true
            rw [if_pos rfl]
          · have hj : s2.1.who x = some j := hj
            rw [g1] at hj; cases hj
      all_goals
        refine ⟨s2, fun _ _ => RLs.refl _ _ _, ⟨v0, v1, v2, ?_⟩, ?_⟩
        · rw [if_neg (by first | (rw [g3]; decide) | (rcases g3 with g3 | g3 | g3 <;> rw [g3] <;> decide))]
        · have hz : (s2.1.mw x == pk (unp 0)) = false := by first | (rw [g3]; decide) | (rcases g3 with g3 | g3 | g3 <;> rw [g3] <;> decide)
          simp only [hz]
          rw [if_neg (by decide)]
          exact await_safe hx k s2 (.inr ⟨hk, by first | exact .inl g2 | exact .inr ⟨j, g1⟩⟩) ht2
    · simp only [h3]
      rw [if_neg (by decide), if_pos (by decide)]
      exact ⟨ht1, .inl ⟨rfl, h2, fun j hj => by rw [h1] at hj; cases hj⟩⟩
    · have hc : (unp (s1.1.mw x)).ch = true ∨ (unp (s1.1.mw x)).ver ≠ 0 := by rcases h3 with h3 | h3 | h3 <;> rw [h3] <;> decide
      simp only
      rw [if_pos hc]
      exact ⟨ht1, .inr ⟨rfl, x, j, h1⟩⟩
def QAws (t : Int) (l : List Nat) (a : An) (s : SW nc cj) : Prop := t ≤ s.1.room ∧ ((a.err = 0 ∧ ∀ x ∈ l, Noted s.1 t x) ∨ (a.err = 12 ∧ ∃ y j, s.1.who y = some j))
theorem awaits_safe (hnc : nc ≤ 3) {i : Nat} {t : Int} : ∀ (l dn : List Nat) (s : SW nc cj), (∀ x ∈ l, x < 3) → (∀ x ∈ dn, Noted s.1 t x) → t ≤ s.1.room → Safe (IL nc cj) (RL nc cj ns) i (QAws t (dn ++ l)) (awaitsT (l.map fun x => (clR x, 0))) s
  | [], dn, s, _, hd, ht => ⟨ht, .inl ⟨rfl, by simpa using hd⟩⟩
  | x :: l, dn, s, hl, hd, ht => by
    show Safe _ _ _ _ ((turnT (clR x) 0 waitTo 8).bind fun a => if a.err = 0 then awaitsT (l.map fun x => (clR x, 0)) else .ret ⟨a.err, 0, 0⟩) s
    refine Safe.bind (Safe.frame (P := fun s : SW nc cj => t ≤ s.1.room ∧ ∀ y ∈ dn, Noted s.1 t y) (fun s s' hr hp => ⟨by have := room_le hr.tk; omega, fun y hy => noted_rel hr hnc hp.1 (hp.2 y hy)⟩) (fun s s' hr hp => ⟨by have := room_le (hr (i + 1) (by omega)).tk; omega, fun y hy => noted_rel (hr (i + 1) (by omega)) hnc hp.1 (hp.2 y hy)⟩) (await_safe (hl x (by simp)) 8 s (.inl (by omega)) ht) ⟨ht, hd⟩) ?_
    rintro a s' ⟨⟨ht', h⟩, _, hd'⟩
    rcases h with ⟨h0, h1⟩ | ⟨h0, h1⟩
    · rw [if_pos h0]
      have := awaits_safe hnc (i := i) l (dn ++ [x]) s' (fun y hy => hl y (by simp [hy])) (fun y hy => by
        rcases List.mem_append.1 hy with hy | hy
        · exact hd' y hy
        · simp at hy; subst hy; exact h1) ht'
      rwa [List.append_assoc, List.singleton_append] at this
    · rw [if_neg (by omega)]
      exact ⟨ht', .inr ⟨h0, h1⟩⟩
theorem sleeper_safe (hnc : nc ≤ 3) {i : Nat} {cells : List Nat} (hl : ∀ x ∈ cells, x < 3) (s : SW nc cj) : Safe (IL nc cj) (RL nc cj ns) i (fun a (s : SW nc cj) => QSl cells a s.1) (sleeperT cells) s := by
  unfold sleeperT sleepT
  refine Safe.bind (Q := fun (a : An) (s : SW nc cj) => (a.err = 0 ∧ 0 ≤ a.n ∧ a.n ≤ (s.1.room : Int) ∧ ∀ x ∈ cells, Noted s.1 a.n x) ∨ (a.err = 12 ∧ ∃ y j, s.1.who y = some j)) (Safe.bind (now_safe s) ?_) ?_
  · rintro a s1 ⟨h0, h1, h2⟩
    have := awaits_safe (ns := ns) hnc (i := i) (t := a.n) cells [] s1 hl (by simp) h2
    refine Safe.bind this ?_
    rintro b s2 ⟨g1, g2⟩
    rcases g2 with ⟨g3, g4⟩ | ⟨g3, g4⟩
    · rw [if_pos g3]
      exact .inl ⟨rfl, h1, g1, g4⟩
    · rw [if_neg (by omega)]
      exact .inr ⟨g3, g4⟩
  · rintro a s1 h
    rcases h with ⟨h0, h1, h2, h3⟩ | ⟨h0, h1⟩
    · rw [if_pos h0]
      exact ⟨rfl, .inl ⟨h1, h2, h3⟩⟩
    · rw [if_neg (by omega)]
      exact ⟨rfl, .inr ⟨rfl, h1⟩⟩

/-! The committer. -/
def Free (j : Nat) (s : SW nc cj) : Prop := ∀ x, s.1.who x ≠ some j
def Mine (j q : Nat) (s : SW nc cj) : Prop := s.1.who (cj j) = some j ∧ s.1.p j = q
theorem free_rel {j : Nat} {s s' : SW nc cj} (h : RL nc cj ns (ns + j) s s') (hf : Free j s) : Free j s' := fun x e => hf x ((h.own j rfl).2.2 x e)
theorem mine_rel {j q : Nat} {s s' : SW nc cj} (h : RL nc cj ns (ns + j) s s') (hf : Mine j q s) : Mine j q s' := ⟨h.who _ _ hf.1, (h.own j rfl).1.trans hf.2⟩
def QLk (j : Nat) (a : An) (s : SW nc cj) : Prop := (a.err = 0 ∧ Mine j 1 s) ∨ (a.err = 12 ∧ Free j s)
theorem lock_safe {j : Nat} (hj : j < nc) (hx : cj j < 3) : ∀ (k : Nat) (s : SW nc cj), Free j s → Safe (IL nc cj) (RL nc cj ns) (ns + j) (QLk j) (turnT (clR (cj j)) 0 (lockTo 1) k) s
  | 0, s, h => .inr ⟨rfl, h⟩
  | k + 1, s, h => by
    rintro s1 hr B ⟨v0, v1, v2, rfl⟩
    have hf1 := free_rel hr h
    refine ⟨s1, fun _ _ => RLs.refl _ _ _, ⟨v0, v1, v2, rfl⟩, ?_⟩
    rw [r3_load_meta hx, selI_mw _ hx]
    have key : ∀ (m m' : Int), (m = 0 ∧ m' = 257) ∨ (m = 2 ∧ m' = 259) → ∀ s2, RL nc cj ns (ns + j) s1 s2 → ∀ B, IL nc cj s2 B → ∃ s'', (∀ i, i ≠ ns + j → RL nc cj ns i s2 s'') ∧ IL nc cj s'' (ex B (.cas (clR (cj j)) 0 m m')).2 ∧ Safe (IL nc cj) (RL nc cj ns) (ns + j) (QLk j) (if (ex B (.cas (clR (cj j)) 0 m m')).1.done = true then .ret ⟨0, 0, 0⟩ else turnT (clR (cj j)) 0 (lockTo 1) k) s'' := by
      rintro m m' hm s2 hr2 B ⟨v0, v1, v2, rfl⟩
      have hf2 := free_rel hr2 hf1
      rw [r3_cas_meta hx, selI_mw _ hx]
      by_cases he : s2.1.mw (cj j) = m
      · have hn : s2.1.who (cj j) = none := by
          rcases mw_cases s2.1 (cj j) with ⟨g1, _⟩ | ⟨g1, _⟩ | ⟨y, g1, g3⟩
          · exact g1
          · exact g1
          · rcases g3 with g3 | g3 | g3 <;> rw [g3] at he <;> omega
        refine ⟨s2.take j hj hn hf2, fun i hi => rl_take s2 j hj hn hf2 i hi, ⟨v0, v1, v2, ?_⟩, ?_⟩
        · rw [if_pos he]
          have h1 : (s2.take j hj hn hf2).1.mw (cj j) = m' := by
            have hw : (s2.take j hj hn hf2).1.who (cj j) = some j := if_pos rfl
            have hp : (s2.take j hj hn hf2).1.p j = 1 := if_pos rfl
            rw [mw_some hw, if_pos hp]
            have hwt : (s2.take j hj hn hf2).1.wt (cj j) = s2.1.wt (cj j) := rfl
            rw [hwt]
            rw [mw_none hn] at he
            rcases hm with ⟨rfl, rfl⟩ | ⟨rfl, rfl⟩
            · by_cases e : s2.1.wt (cj j) = true
              · rw [if_pos e] at he; omega
              · rw [if_neg e]
            · by_cases e : s2.1.wt (cj j) = true
              · rw [if_pos e]
              · rw [if_neg e] at he; omega
          have h2 : ∀ y, y ≠ cj j → (s2.take j hj hn hf2).1.mw y = s2.1.mw y := fun y hy => mw_congr (if_neg hy) rfl (fun q hq => if_neg (fun e : q = j => hf2 y (e ▸ hq)))
          rw [putI_mw h1 h2, putI_mw h1 h2, putI_mw h1 h2]
          rfl
        · have hz : (s2.1.mw (cj j) == m) = true := by simpa using he
          simp only [hz]
          exact .inl ⟨rfl, if_pos rfl, if_pos rfl⟩
      · refine ⟨s2, fun _ _ => RLs.refl _ _ _, ⟨v0, v1, v2, by rw [if_neg he]⟩, ?_⟩
        have hz : (s2.1.mw (cj j) == m) = false := by simpa using he
        simp only [hz]
        exact lock_safe hj hx k s2 hf2
    rcases mw_cases s1.1 (cj j) with ⟨h1, h2, h3⟩ | ⟨h1, h2, h3⟩ | ⟨y, h1, h3⟩
    · simp only [h3]
      rw [if_neg (by decide), if_neg (by decide)]
      exact key 0 257 (.inl ⟨rfl, rfl⟩)
    · simp only [h3]
      rw [if_neg (by decide), if_neg (by decide)]
      exact key 2 259 (.inr ⟨rfl, rfl⟩)
    · have hc : (unp (s1.1.mw (cj j))).ch = true ∨ (unp (s1.1.mw (cj j))).ver ≠ 0 := by rcases h3 with h3 | h3 | h3 <;> rw [h3] <;> decide
      simp only
      rw [if_pos hc]
      exact .inr ⟨rfl, hf1⟩
def QCm (j : Nat) (b : An) (s : SW nc cj) : Prop := b.err = 0 ∧ ((b.n = 1 ∧ Mine j 2 s) ∨ (b.n = 0 ∧ Mine j 3 s))
theorem commit_safe {j : Nat} (hx : cj j < 3) (s : SW nc cj) (h : Mine j 1 s) : Safe (IL nc cj) (RL nc cj ns) (ns + j) (QCm j) (commitT (clR (cj j)) 7 1) s := by
  rintro s1 hr B ⟨v0, v1, v2, rfl⟩
  have hm1 := mine_rel hr h
  refine ⟨s1, fun _ _ => RLs.refl _ _ _, ⟨v0, v1, v2, rfl⟩, ?_⟩
  rw [r3_load_meta hx, selI_mw _ hx]
  have hw := mw_some hm1.1
  rw [if_pos hm1.2] at hw
  have hch : (unp (s1.1.mw (cj j))).ch = true := by rw [hw]; split <;> decide
  have hwt : (unp (s1.1.mw (cj j))).wt = s1.1.wt (cj j) := by
    rw [hw]
    cases s1.1.wt (cj j) <;> decide
  simp only [hch, Bool.true_eq_false, if_false, hwt]
  rintro s2 hr2 B ⟨v0, v1, v2, rfl⟩
  have hm2 := mine_rel hr2 hm1
  refine ⟨s2, fun _ _ => RLs.refl _ _ _, ⟨_, _, _, r3_store_val hx ..⟩, ?_⟩
  rintro s3 hr3 B ⟨v0, v1, v2, rfl⟩
  have hm3 := mine_rel hr3 hm2
  refine ⟨s3.commit j hm3.2, fun i hi => rl_commit s3 j hm3.2 i hi, ⟨v0, v1, v2, ?_⟩, rfl, ?_⟩
  · rw [r3_store_meta hx]
    have hp : (s3.commit j hm3.2).1.p j ≠ 1 := by
      show (if j = j then (if s3.1.wt (cj j) = true then 2 else 3) else _) ≠ 1
      rw [if_pos rfl]
      split <;> omega
    have h1 : (s3.commit j hm3.2).1.mw (cj j) = pk ⟨1, 0, false, false⟩ := by
      rw [mw_some (s := (s3.commit j hm3.2).1) hm3.1, if_neg hp]
      rfl
    have h2 : ∀ y, y ≠ cj j → (s3.commit j hm3.2).1.mw y = s3.1.mw y := fun y hy => mw_congr rfl rfl (fun q hq => if_neg (fun e : q = j => hy (by rw [← e]; exact (s3.2.own y q hq).2.1)))
    rw [putI_mw h1 h2, putI_mw h1 h2, putI_mw h1 h2]
    rfl
  · have e1 : s3.1.wt (cj j) = s1.1.wt (cj j) := (hr3.frz _ _ hm2.1).trans (hr2.frz _ _ hm1.1)
    by_cases e : s1.1.wt (cj j) = true
    · refine .inl ⟨if_pos e, hm3.1, ?_⟩
      show (if j = j then (if s3.1.wt (cj j) = true then 2 else 3) else _) = 2
      rw [if_pos rfl, e1, if_pos e]
    · refine .inr ⟨if_neg e, hm3.1, ?_⟩
      show (if j = j then (if s3.1.wt (cj j) = true then 2 else 3) else _) = 3
      rw [if_pos rfl, e1, if_neg e]
theorem tick_room (s : SW nc cj) (j : Nat) (hj : j < 3) (hp : s.1.p j = 2) (hw : s.1.who (cj j) = some j) (h0 : s.1.tk j = false) : (s.tick j hp hw).1.room = s.1.room + 1 := by
  show ((if 0 = j then true else s.1.tk 0).toNat + (if 1 = j then true else s.1.tk 1).toNat + (if 2 = j then true else s.1.tk 2).toNat) = (s.1.tk 0).toNat + (s.1.tk 1).toNat + (s.1.tk 2).toNat + 1
  have : j = 0 ∨ j = 1 ∨ j = 2 := by omega
  rcases this with rfl | rfl | rfl
  · rw [h0]; simp; omega
  · rw [h0]; simp; omega
  · rw [h0]; simp
theorem mine_tk {j : Nat} {s : SW nc cj} (h : Mine j 2 s) : s.1.tk j = false := by
  cases e : s.1.tk j with
  | false => rfl
  | true => have := (s.2.tkd j e).1; have := h.2; omega
theorem tickL_safe (hnc : nc ≤ 3) {j : Nat} (hj : j < nc) : ∀ (k : Nat) (s : SW nc cj), Mine j 2 s → 3 ≤ k + s.1.room → Safe (IL nc cj) (RL nc cj ns) (ns + j) (fun (d : An) s => d.err = 0 ∧ Mine j 3 s) (tickT 12 k) s
  | 0, s, h, hk => by
    have := room_2 (by omega) (mine_tk h)
    omega
  | k + 1, s, h, hk => by
    rintro s1 hr B ⟨v0, v1, v2, rfl⟩
    have hm1 := mine_rel hr h
    have hr1 := room_le hr.tk
    have hr3 := room_3 s1.1
    refine ⟨s1, fun _ _ => RLs.refl _ _ _, ⟨v0, v1, v2, rfl⟩, ?_⟩
    rw [r3_load_room]
    have hu : u64 ((s1.1.room : Int) + 1) = s1.1.room + 1 := by unfold u64; omega
    simp only [hu]
    rintro s2 hr2 B ⟨v0, v1, v2, rfl⟩
    have hm2 := mine_rel hr2 hm1
    have hr22 := room_le hr2.tk
    rw [r3_cas_room]
    by_cases he : (s2.1.room : Int) = s1.1.room
    · refine ⟨s2.tick j hm2.2 hm2.1, fun i hi => rl_tick s2 j hm2.2 hm2.1 i hi, ⟨v0, v1, v2, ?_⟩, ?_⟩
      · rw [if_pos he]
        have hm : ∀ y, (s2.tick j hm2.2 hm2.1).1.mw y = s2.1.mw y := fun y => by
          cases hw : s2.1.who y with
          | none => exact mw_congr rfl rfl (fun q hq => by rw [hw] at hq; cases hq)
          | some q =>
            by_cases e : q = j
            · subst e
              have hp : (s2.tick q hm2.2 hm2.1).1.p q = 3 := if_pos rfl
              rw [mw_some hw, mw_some (s := (s2.tick q hm2.2 hm2.1).1) hw, if_neg (by rw [hp]; omega), if_neg (by have := hm2.2; omega)]
            · exact mw_congr rfl rfl (fun q' hq' => if_neg (fun e' : q' = j => by rw [hw] at hq'; injection hq' with hq'; exact e (hq'.trans e')))
        rw [hm, hm, hm, tick_room s2 j (by omega) hm2.2 hm2.1 (mine_tk hm2), ← he]
        rfl
      · have hz : ((s2.1.room : Int) == s1.1.room) = true := by simpa using he
        simp only [hz]
        exact ⟨rfl, hm2.1, if_pos rfl⟩
    · refine ⟨s2, fun _ _ => RLs.refl _ _ _, ⟨v0, v1, v2, by rw [if_neg he]⟩, ?_⟩
      have hz : ((s2.1.room : Int) == s1.1.room) = false := by simpa using he
      simp only [hz]
      exact tickL_safe hnc hj k s2 hm2 (by omega)
theorem committer_safe (hnc : nc ≤ 3) {j : Nat} (hj : j < nc) (hx : cj j < 3) (s : SW nc cj) (h : Free j s) : Safe (IL nc cj) (RL nc cj ns) (ns + j) (fun a (s : SW nc cj) => QCo cj j a s.1) (committerT (cj j)) s := by
  unfold committerT
  refine Safe.bind (lock_safe hj hx 8 s h) ?_
  rintro a s1 h1
  rcases h1 with ⟨h0, h1⟩ | ⟨h0, h1⟩
  · rw [if_pos h0]
    refine Safe.bind (commit_safe hx s1 h1) ?_
    rintro b s2 ⟨g0, g1⟩
    rw [if_pos g0]
    rcases g1 with ⟨g1, g2⟩ | ⟨g1, g2⟩
    · rw [if_pos g1]
      unfold wakeT
      refine Safe.bind (Q := fun (d : An) s => d.err = 0 ∧ Mine j 3 s) (Safe.bind (tickL_safe hnc hj 8 s2 g2 (by omega)) ?_) ?_
      · rintro d s3 ⟨k0, k1⟩
        show _ ∧ _
        rw [if_neg (by omega)]
        exact ⟨k0, k1⟩
      · rintro d s3 ⟨k0, k1⟩
        exact ⟨k0, .inl ⟨rfl, k1.2, k1.1⟩⟩
    · rw [if_neg (by omega)]
      exact ⟨rfl, .inl ⟨rfl, g2.2, g2.1⟩⟩
  · rw [if_neg (by omega)]
    exact ⟨rfl, .inr ⟨rfl, h1⟩⟩
end Go.Proofs.YtkldpdldjalpeaaGreatDoor.Th

namespace Go.Proofs.YtkldpdldjalpeaaGreatDoor.Th
/-- The bodies of all. -/
def lostP (css : List (List Nat)) (cl : List Nat) : List (Pg An) := css.map sleeperT ++ cl.map committerT
def cjF (cl : List Nat) (j : Nat) : Nat := cl.getD j 0
def QL (css : List (List Nat)) (cl : List Nat) (i : Nat) (a : An) (s : SW cl.length (cjF cl)) : Prop :=
  if i < css.length then QSl (css.getD i []) a s.1 else QCo (cjF cl) (i - css.length) a s.1
theorem rl_ok (css : List (List Nat)) (cl : List Nat) (hnc : cl.length ≤ 3) : RelOk (RL cl.length (cjF cl) css.length) (QL css cl) where
  refl := fun i s => RLs.refl _ _ _
  trans := fun i s s' s'' h k => RLs.trans h k
  post := fun i a s s' h hq => by
    unfold QL at hq ⊢
    by_cases hi : i < css.length
    · rw [if_pos hi] at hq ⊢; exact qsl_rel h hnc hq
    · rw [if_neg hi] at hq ⊢
      obtain ⟨j, rfl⟩ : ∃ j, i = css.length + j := ⟨i - css.length, by omega⟩
      rw [show css.length + j - css.length = j by omega] at hq ⊢
      exact qco_rel h hq
def s0L (cl : List Nat) : SW cl.length (cjF cl) := ⟨⟨fun _ => none, fun _ => false, fun _ => 0, fun _ => false⟩, ⟨fun x j h => by simp at h, fun j h => by simp at h, fun j h _ _ => by simp at h⟩⟩
def B30 : BS := RB3 0 10 0 11 0 12 0
theorem il_0 (cl : List Nat) : IL cl.length (cjF cl) (s0L cl) B30 := ⟨10, 11, 12, rfl⟩
theorem lost_hs {css : List (List Nat)} {cl : List Nat} (hnc : cl.length ≤ 3) (h3 : ∀ l ∈ css, l.length ≤ 3 ∧ ∀ x ∈ l, x < 3) (hc : ∀ x ∈ cl, x < 3) : ∀ (i : Nat) p, (lostP css cl)[i]? = some p → Safe (IL cl.length (cjF cl)) (RL cl.length (cjF cl) css.length) i (QL css cl i) p (s0L cl) ∧ Dep p 49 := by
  intro i p hp
  unfold lostP at hp
  by_cases hi : i < css.length
  · rw [List.getElem?_append_left (by simpa using hi), List.getElem?_map, List.getElem?_eq_getElem hi] at hp
    simp only [Option.map_some, Option.some.injEq] at hp
    subst hp
    have hm := h3 css[i] (List.getElem_mem hi)
    refine ⟨(sleeper_safe hnc hm.2 (s0L cl)).mono fun a s h => ?_, (dep_sleeper _).mono (by omega)⟩
    unfold QL
    rw [if_pos hi, List.getD_eq_getElem?_getD, List.getElem?_eq_getElem hi]
    exact h
  · obtain ⟨j, rfl⟩ : ∃ j, i = css.length + j := ⟨i - css.length, by omega⟩
    rw [List.getElem?_append_right (by simp)] at hp
    simp only [List.length_map, Nat.add_sub_cancel_left, List.getElem?_map, Option.map_eq_some_iff] at hp
    obtain ⟨x, hx, rfl⟩ := hp
    have hj := (List.getElem?_eq_some_iff.1 hx).1
    have hxx : cjF cl j = x := by unfold cjF; rw [List.getD_eq_getElem?_getD, hx]; rfl
    refine ⟨?_, (dep_committer x).mono (by omega)⟩
    have := committer_safe (ns := css.length) (cj := cjF cl) hnc hj (by rw [hxx]; exact hc x (List.mem_of_getElem? hx)) (s0L cl) (fun y h => by cases h)
    rw [hxx] at this
    refine this.mono fun a s h => ?_
    unfold QL
    rw [if_neg (by omega), show css.length + j - css.length = j by omega]
    exact h
/-- What the law asks of the answers: r, the room at the end. -/
def LostOk (css : List (List Nat)) (cl : List Nat) (as_ : List An) (r : Nat) : Prop :=
  (∀ (j : Nat) b, as_[css.length + j]? = some b → b.err = 0 ∧ (b.n = 0 ∨ b.n = 1)) ∧
  ∀ (i : Nat) a, i < css.length → as_[i]? = some a → a.err = 0 ∧
    ((a.n = -1 ∧ ∃ (j : Nat) (b : An), as_[css.length + j]? = some b ∧ b.n = 1) ∨
     (0 ≤ a.n ∧ (∀ (j : Nat) (b : An), as_[css.length + j]? = some b → b.n = 1 → cjF cl j ∈ css.getD i [] → a.n < r) ∧ ((∀ (j : Nat) (b : An), as_[css.length + j]? = some b → b.n ≠ 1) → a.n = r)))
theorem lost_whole {css : List (List Nat)} {cl : List Nat} (hnc : cl.length ≤ 3) (h3 : ∀ l ∈ css, l.length ≤ 3 ∧ ∀ x ∈ l, x < 3) (hc : ∀ x ∈ cl, x < 3) (picks : List Nat) :
    ∃ (as_ : List An) (m0 v0 m1 v1 m2 v2 : Int) (r : Nat), wholeT 500 (lostP css cl) B30 picks = (as_.map (fun a => (⟨.ret a, true⟩ : TS An)), RB3 m0 v0 m1 v1 m2 v2 r) ∧ as_.length = css.length + cl.length ∧ r ≤ 3 ∧ LostOk css cl as_ r := by
  obtain ⟨as_, s, h1, h2, ⟨v0, v1, v2, h4⟩, h5⟩ := whole_safe (I := IL cl.length (cjF cl)) (Rel := RL cl.length (cjF cl) css.length) (Q := QL css cl) (D := 49) (rl_ok css cl hnc) (n := 500) (by omega) (ps := lostP css cl) (B := B30) (s := s0L cl) (il_0 cl) (lost_hs hnc h3 hc) picks
  have hl : as_.length = css.length + cl.length := by simpa [lostP] using h2
  have hco : ∀ (j : Nat) b, as_[css.length + j]? = some b → QCo (cjF cl) j b s.1 := fun j b hb => by
    have := h5 _ b hb
    unfold QL at this
    rw [if_neg (by omega), show css.length + j - css.length = j by omega] at this
    exact this
  -- who has taken a cell has done with it
  have hdone : ∀ x j, s.1.who x = some j → ∃ b, as_[css.length + j]? = some b ∧ b.n = 1 ∧ s.1.p j = 3 := fun x j hw => by
    have hj := (s.2.own x j hw).1
    have hb : as_[css.length + j]? = some (as_[css.length + j]'(by omega)) := List.getElem?_eq_getElem (by omega)
    rcases (hco j _ hb).2 with ⟨g1, g2, _⟩ | ⟨_, g2⟩
    · exact ⟨_, hb, g1, g2⟩
    · exact absurd hw (g2 x)
  refine ⟨as_, _, v0, _, v1, _, v2, s.1.room, Prod.ext h1 h4, hl, room_3 _, fun j b hb => ?_, fun i a hi ha => ?_⟩
  · obtain ⟨g0, g1⟩ := hco j b hb
    exact ⟨g0, g1.elim (fun h => .inr h.1) (fun h => .inl h.1)⟩
  · have hq := h5 i a ha
    unfold QL at hq
    rw [if_pos hi] at hq
    obtain ⟨q0, q1⟩ := hq
    refine ⟨q0, ?_⟩
    rcases q1 with ⟨q1, q2, q3⟩ | ⟨q1, x, j, q2⟩
    · refine .inr ⟨q1, fun j b hb h1 hm => ?_, fun hn => ?_⟩
      · rcases (hco j b hb).2 with ⟨_, g2, g3⟩ | ⟨g1, _⟩
        · obtain ⟨k1, k2⟩ := q3 _ hm
          exact k2 j g3 (s.2.fin j g2 g3 k1)
        · omega
      · have hz : ∀ j, s.1.tk j = false := fun j => by
          cases e : s.1.tk j with
          | false => rfl
          | true =>
            obtain ⟨_, g2, _⟩ := s.2.tkd j e
            obtain ⟨b, hb, h1, _⟩ := hdone _ j g2
            exact absurd h1 (hn j b hb)
        have hr : s.1.room = 0 := by unfold St.room; rw [hz, hz, hz]; rfl
        rw [hr] at q2 ⊢
        omega
    · obtain ⟨b, hb, h1, _⟩ := hdone x j q2
      exact .inl ⟨q1, j, b, hb, h1⟩
/-- What holds along all steps. -/
theorem lost_good {css : List (List Nat)} {cl : List Nat} (hnc : cl.length ≤ 3) (h3 : ∀ l ∈ css, l.length ≤ 3 ∧ ∀ x ∈ l, x < 3) (hc : ∀ x ∈ cl, x < 3) :
    ∃ s, Sys (IL cl.length (cjF cl)) (RL cl.length (cjF cl) css.length) (QL css cl) 49 ((lostP css cl).map (fun p => (⟨p, false⟩ : TS An)), B30) s := by
  refine ⟨s0L cl, il_0 cl, fun i t hi => ?_, fun i t hi hd => ?_, fun i t hi => ?_⟩
  all_goals
    simp only [List.getElem?_map, Option.map_eq_some_iff] at hi
    obtain ⟨p, hp, rfl⟩ := hi
    first | exact (lost_hs hnc h3 hc i p hp).1 | exact (lost_hs hnc h3 hc i p hp).2 | (exact absurd hd (by simp))
theorem lost_err {css : List (List Nat)} {cl : List Nat} {x : List (TS An) × BS} {s : SW cl.length (cjF cl)} (h : Sys (IL cl.length (cjF cl)) (RL cl.length (cjF cl) css.length) (QL css cl) 49 x s) {i : Nat} {t : TS An} {a : An} (ht : x.1[i]? = some t) (hp : t.p = .ret a) : a.err = 0 := by
  have := h.safe i t ht
  rw [hp] at this
  have this : QL css cl i a s := this
  unfold QL at this
  split at this
  · exact this.1
  · exact this.1
theorem lost_sz {css : List (List Nat)} {cl : List Nat} {x : List (TS An) × BS} {s : SW cl.length (cjF cl)} (h : Sys (IL cl.length (cjF cl)) (RL cl.length (cjF cl) css.length) (QL css cl) 49 x s) : ∀ q ∈ [(3, 2), (6, 2), (9, 2), (12, 1)], q ∈ x.2.sz := by
  obtain ⟨v0, v1, v2, h1⟩ := h.inv
  rw [h1]
  show ∀ q ∈ [(3, 2), (6, 2), (9, 2), (12, 1)], q ∈ [(1, 1), (3, 2), (6, 2), (9, 2), (12, 1)]
  simp
end Go.Proofs.YtkldpdldjalpeaaGreatDoor.Th

namespace Go.Proofs.YtkldpdldjalpeaaGreatDoor
open Go.RowKit Th
attribute [local go_sem] litStep_value

/-- One thread: its block, its log's value, its body, its log. -/
structure TD (α : Type) where
  tb : Nat
  lv : Value
  fid : FuncId
  caps : Array Value
  p : Pg α
  l : List En
def TD.own {α : Type} (d : TD α) : List Nat := TB d.tb d.lv
def foot {α : Type} (F : BFp) (S : List Nat) (ds : List (TD α)) : List Nat := F.l ++ S ++ ds.flatMap TD.own
theorem mem_foot {α : Type} {F : BFp} {S : List Nat} {ds : List (TD α)} {x : Nat} : x ∈ foot F S ds ↔ x ∈ F.l ∨ x ∈ S ∨ ∃ (i : Nat) (d : TD α), ds[i]? = some d ∧ x ∈ d.own := by
  simp only [foot, List.mem_append, List.mem_flatMap]
  constructor
  · rintro ((h | h) | ⟨d, hd, h⟩)
    · exact .inl h
    · exact .inr (.inl h)
    · obtain ⟨i, hi⟩ := List.getElem?_of_mem hd
      exact .inr (.inr ⟨i, d, hi, h⟩)
  · rintro (h | h | ⟨i, d, hi, h⟩)
    · exact .inl (.inl h)
    · exact .inl (.inr h)
    · exact .inr ⟨d, List.mem_of_getElem? hi, h⟩
section
variable {α : Type}
/-- What the bodies keep, all together. -/
structure MemAll (M : World → List Nat → List (Option α) → Prop) : Prop where
  fr : ∀ w w' T S rs, M w S rs → Upd T w w' → (∀ x ∈ T, x ∉ S) → M w' S rs
  lt : ∀ w S rs, M w S rs → ∀ x ∈ S, x < w.heap.size
theorem MemAll.at_ {M : World → List Nat → List (Option α) → Prop} (h : MemAll M) (rs : List (Option α)) (i : Nat) : MemOk (fun w S r => M w S (rs.set i r)) :=
  ⟨fun w w' T S r => h.fr w w' T S _, fun w S r => h.lt w S _⟩
structure SysSt (M : World → List Nat → List (Option α) → Prop) (w : World) (F : BFp) (B : BS) (S : List Nat) (ds : List (TD α)) (ts : List (TS α)) (rs : List (Option α)) : Prop where
  n1 : ds.length = ts.length
  n2 : rs.length = ts.length
  bs : BSt w F B
  m : M w S rs
  a2 : ∀ x ∈ S, x ∉ F.l
  st : ∀ (i : Nat) d t, ds[i]? = some d → ts[i]? = some t → ThSt w F.b0 d.tb d.lv d.fid d.caps d.l t.done
  ok : ∀ (i : Nat) d t, ds[i]? = some d → ts[i]? = some t → ThOk d.p B d.l t
  a1 : ∀ (i : Nat) d, ds[i]? = some d → ∀ x ∈ d.own, x ∉ F.l ∧ x ∉ S
  r0 : ∀ (i : Nat) t, ts[i]? = some t → t.done = true → rs[i]? = some (outP t.p)
  ap : ∀ (i j : Nat) d e, i ≠ j → ds[i]? = some d → ds[j]? = some e → ∀ x ∈ d.own, x ∉ e.own
variable {M : World → List Nat → List (Option α) → Prop}
theorem SysSt.one {w : World} {F : BFp} {B : BS} {S : List Nat} {ds : List (TD α)} {ts : List (TS α)} {rs : List (Option α)} (h : SysSt M w F B S ds ts rs) {i : Nat} {d : TD α} {t : TS α} (hd : ds[i]? = some d) (ht : ts[i]? = some t) :
    ∃ r, rs[i]? = some r ∧ TAll d.fid d.caps d.p (fun w S r => M w S (rs.set i r)) w F B d.tb d.lv S d.l r t := by
  have hl : i < rs.length := by rw [h.n2]; exact (List.getElem?_eq_some_iff.1 ht).1
  refine ⟨rs[i], List.getElem?_eq_getElem hl, h.st i d t hd ht, h.bs, h.ok i d t hd ht, ?_, fun x hx => (h.a1 i d hd x hx).1, h.a2, fun x hx hm => (h.a1 i d hd x hm).2 hx, fun hdn => ?_⟩
  · simp only [List.set_getElem_self]; exact h.m
  · have := h.r0 i t ht hdn
    rw [List.getElem?_eq_getElem hl] at this
    injection this
/-- What may have turned; who was there is there yet. -/
structure SNx (w w' : World) (F F' : BFp) (S S' : List Nat) (ds ds' : List (TD α)) : Prop where
  up : Upd (foot F S ds) w w'
  gr : ∀ x ∈ foot F' S' ds', x ∈ foot F S ds ∨ w.heap.size ≤ x
  b0 : F'.b0 = F.b0
  len : ds'.length = ds.length
  same : ∀ (i : Nat) d d', ds[i]? = some d → ds'[i]? = some d' → d'.tb = d.tb ∧ d'.fid = d.fid ∧ d'.caps = d.caps ∧ d'.p = d.p
theorem SNx.refl (w : World) (F : BFp) (S : List Nat) (ds : List (TD α)) : SNx w w F F S S ds ds := ⟨.refl _ _, fun _ h => .inl h, rfl, rfl, fun i d d' h h' => by rw [h] at h'; injection h' with h'; subst h'; exact ⟨rfl, rfl, rfl, rfl⟩⟩
theorem SNx.trans {w w1 w2 : World} {F F1 F2 : BFp} {S S1 S2 : List Nat} {ds ds1 ds2 : List (TD α)} (h : SNx w w1 F F1 S S1 ds ds1) (k : SNx w1 w2 F1 F2 S1 S2 ds1 ds2) : SNx w w2 F F2 S S2 ds ds2 := by
  refine ⟨h.up.trans' k.up h.gr, fun x hx => (k.gr x hx).elim (h.gr x) (fun e => .inr (Nat.le_trans h.up.size e)), k.b0.trans h.b0, k.len.trans h.len, fun i d d' hd hd' => ?_⟩
  have hl : i < ds1.length := by rw [h.len]; exact (List.getElem?_eq_some_iff.1 hd).1
  have e1 := h.same i d _ hd (List.getElem?_eq_getElem hl)
  have e2 := k.same i _ d' (List.getElem?_eq_getElem hl) hd'
  exact ⟨e2.1.trans e1.1, e2.2.1.trans e1.2.1, e2.2.2.1.trans e1.2.2.1, e2.2.2.2.trans e1.2.2.2⟩
theorem SNx.upd {w w1 w2 : World} {F F1 : BFp} {S S1 : List Nat} {ds ds1 : List (TD α)} (h : SNx w w1 F F1 S S1 ds ds1) (k : Upd [] w1 w2) : SNx w w2 F F1 S S1 ds ds1 := ⟨h.up.trans' k (by simp), h.gr, h.b0, h.len, h.same⟩
theorem SysSt.lt (MO : MemAll M) {w : World} {F : BFp} {B : BS} {S : List Nat} {ds : List (TD α)} {ts : List (TS α)} {rs : List (Option α)} (h : SysSt M w F B S ds ts rs) : ∀ x ∈ foot F S ds, x < w.heap.size := by
  intro x hx
  rcases mem_foot.1 hx with hx | hx | ⟨i, d, hd, hx⟩
  · exact h.bs.lt x hx
  · exact MO.lt _ _ _ h.m x hx
  · have hl : i < ts.length := by rw [← h.n1]; exact (List.getElem?_eq_some_iff.1 hd).1
    have hs := h.st i d _ hd (List.getElem?_eq_getElem hl)
    obtain ⟨n, hn⟩ := hs.hdr
    simp only [TD.own, TB, List.mem_cons] at hx
    rcases hx with rfl | hx
    · exact hn.lt
    · exact (own_lt hs.log (b := x) (by simpa using hx)).2
/-- What is new elsewhere leaves all as it is. -/
theorem SysSt.far (MO : MemAll M) {w w' : World} {F : BFp} {B : BS} {S : List Nat} {ds : List (TD α)} {ts : List (TS α)} {rs : List (Option α)} {T : List Nat} (h : SysSt M w F B S ds ts rs) (hu : Upd T w w') (hT : ∀ x ∈ T, x ∉ foot F S ds) : SysSt M w' F B S ds ts rs := by
  refine ⟨h.n1, h.n2, h.bs.upd hu (fun x hx hm => hT x hx (mem_foot.2 (.inl hm))), MO.fr _ _ _ _ _ h.m hu (fun x hx hm => hT x hx (mem_foot.2 (.inr (.inl hm)))), h.a2, fun i d t hd ht => ?_, h.ok, h.a1, h.r0, h.ap⟩
  refine (h.st i d t hd ht).upd hu (fun hm => hT _ hm (mem_foot.2 (.inr (.inr ⟨i, d, hd, by simp [TD.own, TB]⟩)))) (fun b hb hm => hT _ hm (mem_foot.2 (.inr (.inr ⟨i, d, hd, by simp [TD.own, TB, hb]⟩))))
/-- One of them has gone on. -/
theorem SysSt.put (MO : MemAll M) {w w' : World} {F F' : BFp} {B B' : BS} {S S' : List Nat} {ds : List (TD α)} {ts : List (TS α)} {rs : List (Option α)} {i : Nat} {d : TD α} {t t' : TS α} {lv' : Value} {l' : List En} {r' : Option α}
    (h : SysSt M w F B S ds ts rs) (hd : ds[i]? = some d) (ht : ts[i]? = some t) (k : TAll d.fid d.caps d.p (fun w S r => M w S (rs.set i r)) w' F' B' d.tb lv' S' l' r' t') (kn : TNx w w' F F' d.tb d.lv lv' S S') (hsz : ∀ q, q ∈ B.sz → q ∈ B'.sz) :
    SysSt M w' F' B' S' (ds.set i { d with lv := lv', l := l' }) (ts.set i t') (rs.set i r') ∧ SNx w w' F F' S S' ds (ds.set i { d with lv := lv', l := l' }) := by
  have hid := (List.getElem?_eq_some_iff.1 hd).1
  have hit := (List.getElem?_eq_some_iff.1 ht).1
  have hlt := h.lt MO
  have hsub : ∀ x, x ∈ F.l ++ TB d.tb d.lv ++ S → x ∈ foot F S ds := fun x hx => by
    simp only [List.mem_append] at hx
    rcases hx with (hx | hx) | hx
    · exact mem_foot.2 (.inl hx)
    · exact mem_foot.2 (.inr (.inr ⟨i, d, hd, hx⟩))
    · exact mem_foot.2 (.inr (.inl hx))
  -- another one's blocks are not touched
  have hoth : ∀ j e, j ≠ i → ds[j]? = some e → ∀ x ∈ e.own, x ∉ F.l ++ TB d.tb d.lv ++ S := fun j e hj he x hx hm => by
    simp only [List.mem_append] at hm
    rcases hm with (hm | hm) | hm
    · exact (h.a1 j e he x hx).1 hm
    · exact h.ap j i e d hj he hd x hx hm
    · exact (h.a1 j e he x hx).2 hm
  have hoth' : ∀ j e, j ≠ i → ds[j]? = some e → ∀ x ∈ e.own, x ∉ F'.l ++ TB d.tb lv' ++ S' := fun j e hj he x hx hm => by
    rcases kn.gr x hm with hm | hm
    · exact hoth j e hj he x hx hm
    · have := hlt x (mem_foot.2 (.inr (.inr ⟨j, e, he, hx⟩))); omega
  have get : ∀ (j : Nat) e, (ds.set i { d with lv := lv', l := l' })[j]? = some e → (j = i ∧ e = { d with lv := lv', l := l' }) ∨ (j ≠ i ∧ ds[j]? = some e) := fun j e he => by
    rw [List.getElem?_set] at he
    split at he
    · next e1 => simp only [hid, if_true, Option.some.injEq] at he; exact .inl ⟨e1.symm, he.symm⟩
    · next e1 => exact .inr ⟨fun e2 => e1 e2.symm, he⟩
  have gett : ∀ (j : Nat) u, (ts.set i t')[j]? = some u → (j = i ∧ u = t') ∨ (j ≠ i ∧ ts[j]? = some u) := fun j e he => by
    rw [List.getElem?_set] at he
    split at he
    · next e1 => simp only [hit, if_true, Option.some.injEq] at he; exact .inl ⟨e1.symm, he.symm⟩
    · next e1 => exact .inr ⟨fun e2 => e1 e2.symm, he⟩
  refine ⟨⟨by simp [h.n1], by simp [h.n2], k.bs, k.m, k.a2, fun j e u he hu => ?_, fun j e u he hu => ?_, fun j e he => ?_, fun j u hu hdn => ?_, fun j1 j2 e1 e2 hj h1 h2 x hx => ?_⟩, ⟨kn.up.mono (fun x hx => .inl (hsub x hx)), fun x hx => ?_, kn.b0, by simp, fun j e e' he he' => ?_⟩⟩
  · rcases get j e he with ⟨rfl, rfl⟩ | ⟨hj, he⟩
    · rcases gett j u hu with ⟨_, rfl⟩ | ⟨hj, _⟩
      · exact k.st
      · exact absurd rfl hj
    · rcases gett j u hu with ⟨hj', _⟩ | ⟨_, hu⟩
      · exact absurd hj' hj
      · rw [kn.b0]
        exact (h.st j e u he hu).upd kn.up (hoth j e hj he _ (by simp [TD.own, TB])) (fun b hb => hoth j e hj he _ (by simp [TD.own, TB, hb]))
  · rcases get j e he with ⟨rfl, rfl⟩ | ⟨hj, he⟩
    · rcases gett j u hu with ⟨_, rfl⟩ | ⟨hj, _⟩
      · exact k.ok
      · exact absurd rfl hj
    · rcases gett j u hu with ⟨hj', _⟩ | ⟨_, hu⟩
      · exact absurd hj' hj
      · exact (h.ok j e u he hu).mono hsz
  · rcases get j e he with ⟨rfl, rfl⟩ | ⟨hj, he⟩
    · exact fun x hx => ⟨k.a1 x hx, fun hm => k.a3 x hm hx⟩
    · intro x hx
      have := hoth' j e hj he x hx
      simp only [List.mem_append, not_or] at this
      exact ⟨this.1.1, this.2⟩
  · rcases gett j u hu with ⟨rfl, rfl⟩ | ⟨hj, hu⟩
    · rw [List.getElem?_set_self (by rw [h.n2]; exact hit), k.r0 hdn]
    · rw [List.getElem?_set_ne (fun e => hj e.symm)]
      exact h.r0 j u hu hdn
  · rcases get j1 e1 h1 with ⟨rfl, rfl⟩ | ⟨hj1, h1⟩
    · rcases get j2 e2 h2 with ⟨e, _⟩ | ⟨hj2, h2⟩
      · exact absurd e.symm hj
      · intro hm
        have := hoth' j2 e2 hj2 h2 x hm
        simp only [List.mem_append, not_or] at this
        exact this.1.2 hx
    · rcases get j2 e2 h2 with ⟨e0, e00⟩ | ⟨hj2, h2⟩
      · have := hoth' j1 e1 hj1 h1 x hx
        rw [e00]
        simp only [List.mem_append, not_or] at this
        exact this.1.2
      · exact h.ap j1 j2 e1 e2 hj h1 h2 x hx
  · rcases mem_foot.1 hx with hx | hx | ⟨j, e, he, hx⟩
    · exact (kn.gr x (by simp [hx])).imp (hsub x) id
    · exact (kn.gr x (by simp [hx])).imp (hsub x) id
    · rcases get j e he with ⟨rfl, rfl⟩ | ⟨hj, he⟩
      · exact (kn.gr x (by simp only [List.mem_append]; exact .inl (.inr hx))).imp (hsub x) id
      · exact .inl (mem_foot.2 (.inr (.inr ⟨j, e, he, hx⟩)))
  · rcases get j e' he' with ⟨rfl, rfl⟩ | ⟨hj, he'⟩
    · rw [hd] at he; injection he with he; subst he; exact ⟨rfl, rfl, rfl, rfl⟩
    · rw [he] at he'; injection he' with he'; subst he'; exact ⟨rfl, rfl, rfl, rfl⟩
/-- One more, that has done nothing yet. -/
theorem SysSt.push (MO : MemAll M) {M' : World → List Nat → List (Option α) → Prop} {w w' : World} {F : BFp} {B : BS} {S S' : List Nat} {ds : List (TD α)} {ts : List (TS α)} {rs : List (Option α)} (d : TD α) (h : SysSt M w F B S ds ts rs) (hu : Upd [] w w')
    (hst : ThSt w' F.b0 d.tb d.lv d.fid d.caps [] false) (hl : d.l = []) (hown : ∀ x ∈ d.own, w.heap.size ≤ x) (hm : M' w' S' (rs ++ [none])) (hS : ∀ x ∈ S', x ∈ S ∨ (w.heap.size ≤ x ∧ x ∉ d.own)) :
    SysSt M' w' F B S' (ds ++ [d]) (ts ++ [⟨d.p, false⟩]) (rs ++ [none]) := by
  have hlt := h.lt MO
  have get : ∀ (j : Nat) e, (ds ++ [d])[j]? = some e → (j = ds.length ∧ e = d) ∨ (j < ds.length ∧ ds[j]? = some e) := fun j e he => by
    by_cases hj : j < ds.length
    · rw [List.getElem?_append_left hj] at he; exact .inr ⟨hj, he⟩
    · rw [List.getElem?_append_right (by omega)] at he
      have : j - ds.length = 0 := by
        cases hk : j - ds.length with
        | zero => rfl
        | succ k => rw [hk] at he; simp at he
      rw [this] at he
      simp at he
      exact .inl ⟨by omega, he.symm⟩
  have gett : ∀ (j : Nat) e, (ts ++ [⟨d.p, false⟩])[j]? = some e → (j = ts.length ∧ e = ⟨d.p, false⟩) ∨ (j < ts.length ∧ ts[j]? = some e) := fun j e he => by
    by_cases hj : j < ts.length
    · rw [List.getElem?_append_left hj] at he; exact .inr ⟨hj, he⟩
    · rw [List.getElem?_append_right (by omega)] at he
      have : j - ts.length = 0 := by
        cases hk : j - ts.length with
        | zero => rfl
        | succ k => rw [hk] at he; simp at he
      rw [this] at he
      simp at he
      exact .inl ⟨by omega, he.symm⟩
  have holdlt : ∀ (j : Nat) e, ds[j]? = some e → ∀ x ∈ e.own, x < w.heap.size := fun j e he x hx => hlt x (mem_foot.2 (.inr (.inr ⟨j, e, he, hx⟩)))
  refine ⟨by simp [h.n1], by simp [h.n2], h.bs.upd hu (by simp), hm, fun x hx hmm => ?_, fun j e u he hu2 => ?_, fun j e u he hu2 => ?_, fun j e he x hx => ?_, fun j u hu2 hdn => ?_, fun j1 j2 e1 e2 hj h1 h2 x hx => ?_⟩
  · rcases hS x hx with hx | hx
    · exact h.a2 x hx hmm
    · have := h.bs.lt x hmm; omega
  · rcases get j e he with ⟨hj, rfl⟩ | ⟨hj, he⟩
    · rcases gett j u hu2 with ⟨_, rfl⟩ | ⟨hj', _⟩
      · rw [hl]; exact hst
      · rw [h.n1] at hj; omega
    · rcases gett j u hu2 with ⟨hj', rfl⟩ | ⟨_, hu2⟩
      · rw [h.n1] at hj; omega
      · exact (h.st j e u he hu2).upd hu (by simp) (by simp)
  · rcases get j e he with ⟨hj, rfl⟩ | ⟨hj, he⟩
    · rcases gett j u hu2 with ⟨_, rfl⟩ | ⟨hj', _⟩
      · rw [hl]; exact ThOk.start _ _
      · rw [h.n1] at hj; omega
    · rcases gett j u hu2 with ⟨hj', rfl⟩ | ⟨_, hu2⟩
      · rw [h.n1] at hj; omega
      · exact h.ok j e u he hu2
  · rcases get j e he with ⟨hj, rfl⟩ | ⟨hj, he⟩
    · have h1 := hown x hx
      refine ⟨fun hmm => by have := h.bs.lt x hmm; omega, fun hmm => ?_⟩
      rcases hS x hmm with hmm | hmm
      · have := MO.lt _ _ _ h.m x hmm; omega
      · exact hmm.2 hx
    · refine ⟨(h.a1 j e he x hx).1, fun hmm => ?_⟩
      rcases hS x hmm with hmm | hmm
      · exact (h.a1 j e he x hx).2 hmm
      · have := holdlt j e he x hx; omega
  · rcases gett j u hu2 with ⟨hj, rfl⟩ | ⟨hj, hu2⟩
    · cases hdn
    · rw [List.getElem?_append_left (by rw [h.n2]; exact hj)]
      exact h.r0 j u hu2 hdn
  · rcases get j1 e1 h1 with ⟨hj1, rfl⟩ | ⟨hj1, h1⟩
    · rcases get j2 e2 h2 with ⟨hj2, _⟩ | ⟨hj2, h2⟩
      · omega
      · intro hmm
        have := holdlt j2 e2 h2 x hmm
        have := hown x hx
        omega
    · rcases get j2 e2 h2 with ⟨hj2, e00⟩ | ⟨hj2, h2⟩
      · intro hmm
        rw [e00] at hmm
        have := holdlt j1 e1 h1 x hx
        have := hown x hmm
        omega
      · exact h.ap j1 j2 e1 e2 hj h1 h2 x hx
/-- The same, kept in another way. -/
theorem SysSt.re {M' : World → List Nat → List (Option α) → Prop} {w : World} {F : BFp} {B : BS} {S : List Nat} {ds : List (TD α)} {ts : List (TS α)} {rs : List (Option α)} (h : SysSt M w F B S ds ts rs) (hm : M' w S rs) : SysSt M' w F B S ds ts rs :=
  ⟨h.n1, h.n2, h.bs, hm, h.a2, h.st, h.ok, h.a1, h.r0, h.ap⟩
/-- The bodies of all. -/
def Bodies (Bad : α → Prop) (J : BS → Prop) (M : World → List Nat → List (Option α) → Prop) (ds : List (TD α)) : Prop :=
  ∀ (i : Nat) (d : TD α), ds[i]? = some d → ∀ rs : List (Option α), rs.length = ds.length → BodyOk d.fid d.caps d.p Bad J (fun w S r => M w S (rs.set i r))
theorem Bodies.same {Bad : α → Prop} {J : BS → Prop} {w w' : World} {F F' : BFp} {S S' : List Nat} {ds ds' : List (TD α)} (h : Bodies Bad J M ds) (k : SNx w w' F F' S S' ds ds') : Bodies Bad J M ds' := by
  intro i d hd rs hr
  have hl : i < ds.length := by rw [← k.len]; exact (List.getElem?_eq_some_iff.1 hd).1
  obtain ⟨_, e2, e3, e4⟩ := k.same i _ d (List.getElem?_eq_getElem hl) hd
  rw [e2, e3, e4]
  exact h i _ (List.getElem?_eq_getElem hl) rs (by rw [hr, k.len])
/-- What holds along all steps. -/
structure SGo (Bad : α → Prop) (J : BS → Prop) (Good : List (TS α) × BS → Prop) : Prop where
  step : ∀ x k, Good x → Good (sysStep x.1 x.2 k)
  bad : ∀ (x : List (TS α) × BS) (i : Nat) t a, Good x → x.1[i]? = some t → t.p = .ret a → ¬ Bad a
  j : ∀ x, Good x → J x.2
def LenLe (n : Nat) (ds ds' : List (TD α)) : Prop := ∀ (i : Nat) d d', ds[i]? = some d → ds'[i]? = some d' → d'.l.length ≤ d.l.length + n
theorem LenLe.refl (ds : List (TD α)) : LenLe 0 ds ds := fun i d d' h h' => by rw [h] at h'; injection h' with h'; subst h'; exact Nat.le_refl _
theorem LenLe.trans {n m : Nat} {ds ds1 ds2 : List (TD α)} (h : LenLe n ds ds1) (k : LenLe m ds1 ds2) (hl : ds1.length = ds.length) : LenLe (n + m) ds ds2 := fun i d d' hd hd' => by
  have hi : i < ds1.length := by rw [hl]; exact (List.getElem?_eq_some_iff.1 hd).1
  have := h i d _ hd (List.getElem?_eq_getElem hi)
  have := k i _ d' (List.getElem?_eq_getElem hi) hd'
  omega
theorem lenLe_set {n : Nat} {ds : List (TD α)} {i : Nat} {d : TD α} {lv' : Value} {l' : List En} (hd : ds[i]? = some d) (hl : l'.length ≤ d.l.length + n) : LenLe n ds (ds.set i { d with lv := lv', l := l' }) := fun j e e' he he' => by
  have hid := (List.getElem?_eq_some_iff.1 hd).1
  rw [List.getElem?_set] at he'
  split at he'
  · next e1 =>
    subst e1
    simp only [hid, if_true, Option.some.injEq] at he'
    rw [hd] at he
    injection he with he
    subst he he'
    exact hl
  · rw [he] at he'; injection he' with he'; subst he'; omega
variable {Bad : α → Prop} {J : BS → Prop} {Good : List (TS α) × BS → Prop}
def SPost (M : World → List Nat → List (Option α) → Prop) (w : World) (F : BFp) (S : List Nat) (ds : List (TD α)) (n : Nat) (x : List (TS α) × BS) (w' : World) : Prop :=
  ∃ F' S' ds' rs', SysSt M w' F' x.2 S' ds' x.1 rs' ∧ SNx w w' F F' S S' ds ds' ∧ LenLe n ds ds'
theorem sstep_ok (MO : MemAll M) (HG : SGo Bad J Good) (w : World) {F : BFp} {B : BS} {S : List Nat} {ds : List (TD α)} {ts : List (TS α)} {rs : List (Option α)} (h : SysSt M w F B S ds ts rs) (i : Nat) (d : TD α) (hd : ds[i]? = some d) (hb : BodyOk d.fid d.caps d.p Bad J (fun w S r => M w S (rs.set i r))) (hg : Good (ts, B)) (hlen : d.l.length < 6000) :
    Calls Tryz.prog 11 #[.pointer (some ⟨d.tb, 0, none⟩)] w fun e w' => e = .returned .nilIface ∧ SPost M w F S ds 1 (sysStep ts B i) w' := by
  have hl : i < ts.length := by rw [← h.n1]; exact (List.getElem?_eq_some_iff.1 hd).1
  have ht : ts[i]? = some ts[i] := List.getElem?_eq_getElem hl
  obtain ⟨r, hr, ha⟩ := h.one hd ht
  have hst := sysStep_at (B := B) ht
  have hg2 := HG.step _ i hg
  simp only [hst] at hg2
  refine (tstep' hb (MO.at_ rs i) w ha (HG.j _ hg) hlen (fun a hp => HG.bad _ i (Th.stepT ts[i] B).1 a hg2 (by simp [hl]) hp)).mono ?_
  rintro e w' ⟨rfl, F', lv', S', l', r', g1, g2, g3, g4⟩
  obtain ⟨k1, k2⟩ := h.put MO hd ht g1 g2 g4
  rw [hst]
  exact ⟨rfl, F', S', _, _, k1, k2, lenLe_set hd g3⟩
theorem srun_ok (MO : MemAll M) (HG : SGo Bad J Good) (w : World) {F : BFp} {B : BS} {S : List Nat} {ds : List (TD α)} {ts : List (TS α)} {rs : List (Option α)} (h : SysSt M w F B S ds ts rs) (i n : Nat) (d : TD α) (hd : ds[i]? = some d) (hb : BodyOk d.fid d.caps d.p Bad J (fun w S r => M w S (rs.set i r))) (hg : Good (ts, B)) (hlen : d.l.length + n < 6000) :
    Calls Tryz.prog 13 #[.pointer (some ⟨d.tb, 0, none⟩), .int .i64 n] w fun e w' => e = .returned .nilIface ∧ SPost M w F S ds n (sysRun n ts B i) w' ∧ Good (sysRun n ts B i) := by
  have hl : i < ts.length := by rw [← h.n1]; exact (List.getElem?_eq_some_iff.1 hd).1
  have ht : ts[i]? = some ts[i] := List.getElem?_eq_getElem hl
  obtain ⟨r, hr, ha⟩ := h.one hd ht
  have hst : sysRun n ts B i = (ts.set i (soloT n ts[i] B).1, (soloT n ts[i] B).2) := by unfold sysRun; rw [ht]
  have HGo : Going Bad J (fun t B' => Good (ts.set i t, B')) := ⟨fun t B' hx _ => by
      have := HG.step _ i hx
      rw [show sysStep (ts.set i t, B').1 (ts.set i t, B').2 i = _ from sysStep_at (B := B') (t := t) (by simp [hl])] at this
      simpa using this, fun t B' a hx hp => HG.bad _ i t a hx (by simp [hl]) hp, fun t B' hx => HG.j _ hx⟩
  refine (trun_ok hb (MO.at_ rs i) HGo w n ha (by simpa using hg) hlen).mono ?_
  rintro e w' ⟨rfl, F', lv', S', l', r', g1, g2, g3, g5, g4⟩
  obtain ⟨k1, k2⟩ := h.put MO hd ht g1 g2 g4
  rw [hst]
  exact ⟨rfl, ⟨F', S', _, _, k1, k2, lenLe_set hd g3⟩, g5⟩
end
end Go.Proofs.YtkldpdldjalpeaaGreatDoor

namespace Go.Proofs.YtkldpdldjalpeaaGreatDoor
open Go.RowKit Th
attribute [local go_sem] litStep_value

/-- A list of cells' references. -/
def RfE : Enc Nat := ⟨fun x => [.int .u64 (clR x)], 1, fun _ => rfl, by intro a u hu; simp at hu; subst hu; rfl, by omega⟩
structure SlD where
  cells : List Nat
  lv : Value
  cbx : Nat
  rb : Nat
  pb : Nat
structure CoD where
  x : Nat
  pb : Nat
  cb : Nat
  rb : Nat
structure SlR (tb : Nat) (w : World) (S : List Nat) (i : Nat) (d : SlD) : Prop where
  b1 : Blk w d.cbx 27 #[d.lv]
  b2 : Blk w d.rb 26 #[.int .u64 12]
  b3 : Blk w d.pb 36 #[.pointer (some ⟨tb, i, none⟩)]
  ls : Ow RfE 26 w 0 d.lv d.cells
  mem : (d.cbx ∈ S ∧ d.rb ∈ S ∧ d.pb ∈ S) ∧ ∀ b, d.lv.ownBlock = some b → b ∈ S
structure CoR (db : Nat) (w : World) (S : List Nat) (j : Nat) (d : CoD) : Prop where
  b1 : Blk w d.cb 26 #[.int .u64 (clR d.x)]
  b2 : Blk w d.rb 26 #[.int .u64 12]
  b3 : Blk w d.pb 38 #[.pointer (some ⟨db, j, none⟩)]
  mem : d.cb ∈ S ∧ d.rb ∈ S ∧ d.pb ∈ S
theorem SlR.upd {tb : Nat} {w w' : World} {S T : List Nat} {i : Nat} {d : SlD} (h : SlR tb w S i d) (hu : Upd T w w') (hT : ∀ x ∈ T, x ∉ S) : SlR tb w' S i d := by
  have hn : ∀ x, x ∈ S → x ∉ T := fun x hx hm => hT x hm hx
  exact ⟨h.b1.upd hu (hn _ h.mem.1.1), h.b2.upd hu (hn _ h.mem.1.2.1), h.b3.upd hu (hn _ h.mem.1.2.2), h.ls.upd hu (fun b hb => hn _ (h.mem.2 b hb)), h.mem⟩
theorem CoR.upd {db : Nat} {w w' : World} {S T : List Nat} {j : Nat} {d : CoD} (h : CoR db w S j d) (hu : Upd T w w') (hT : ∀ x ∈ T, x ∉ S) : CoR db w' S j d := by
  have hn : ∀ x, x ∈ S → x ∉ T := fun x hx hm => hT x hm hx
  exact ⟨h.b1.upd hu (hn _ h.mem.1), h.b2.upd hu (hn _ h.mem.2.1), h.b3.upd hu (hn _ h.mem.2.2), h.mem⟩
/-- What all bodies keep. -/
structure M15 (sl : List SlD) (co : List CoD) (ns nc tb db : Nat) (w : World) (S : List Nat) (rs : List (Option An)) : Prop where
  row : ∀ (i : Nat) d, sl[i]? = some d → SlR tb w S i d
  crow : ∀ (j : Nat) d, co[j]? = some d → CoR db w S j d
  tks : ∃ tv : List Int, tv.length = ns ∧ Blk w tb 3 (tv.map (Value.int .i64)).toArray ∧ ∀ (i : Nat) a, i < ns → rs[i]? = some (some a) → tv[i]? = some a.n
  dns : ∃ dv : List Bool, dv.length = nc ∧ Blk w db 4 (dv.map Value.bool).toArray ∧ ∀ (j : Nat) a, rs[ns + j]? = some (some a) → dv[j]? = some (a.n == 1)
  mem : tb ∈ S ∧ db ∈ S
  lt : ∀ x ∈ S, x < w.heap.size
theorem m15_ok (sl : List SlD) (co : List CoD) (ns nc tb db : Nat) : MemAll (M15 sl co ns nc tb db) := by
  refine ⟨fun w w' T S rs h hu hT => ?_, fun w S rs h => h.lt⟩
  have hn : ∀ x, x ∈ S → x ∉ T := fun x hx hm => hT x hm hx
  obtain ⟨tv, t1, t2, t3⟩ := h.tks
  obtain ⟨dv, d1, d2, d3⟩ := h.dns
  exact ⟨fun i d hd => (h.row i d hd).upd hu hT, fun j d hd => (h.crow j d hd).upd hu hT, ⟨tv, t1, t2.upd hu (hn _ h.mem.1), t3⟩, ⟨dv, d1, d2.upd hu (hn _ h.mem.2), d3⟩, h.mem, fun x hx => Nat.lt_of_lt_of_le (h.lt x hx) hu.size⟩
theorem seen_elem : Elem Tryz.prog 57 56 2 16 := .mk' (z := ((Tryz.prog.info? 56).bind (·.zero)).getD undef) Tryz.underlying57 (by kernel_rfl) (by kernel_rfl) (by omega)
theorem stoppedW {p : Prop} (h : Hid p) : p := h.out
/-- What the sleeper's closure leaves. -/
def SlPost (F : BFp) (cb : Nat) (lv : Value) (c : CS) (tb i : Nat) (tv : List Int) (cells : List Nat) (w : World) (v : Value) (w' : World) : Prop :=
  ∃ lv' q, CSt w' F cb lv' (run (sleeperT cells) c).2 ∧ Upd (tb :: SS F cb lv) w w' ∧ (∀ x ∈ SS F cb lv', x ∈ SS F cb lv ∨ w.heap.size ≤ x) ∧ Blk w' tb 3 ((tv.set i q).map (Value.int .i64)).toArray ∧ (∀ a, (run (sleeperT cells) c).1 = some a → q = a.n) ∧ BdV w' w.heap.size v (run (sleeperT cells) c).1
/-- One ticket is written. -/
theorem tk_set {w1 : World} {tb i : Nat} {tv : List Int} (h : Blk w1 tb 3 (tv.map (Value.int .i64)).toArray) (q : Int) : Blk (w1.setCell ⟨tb, i, none⟩ (.int .i64 q)) tb 3 ((tv.set i q).map (Value.int .i64)).toArray := by
  refine h.set_eq ?_
  rw [List.map_set]
  simp
theorem sl_fin {F : BFp} {cb : Nat} {lv lv1 : Value} {c c1 : CS} {tb i : Nat} {tv : List Int} {cells : List Nat} {w w1 w2 : World} {q : Int} {r : Option An} {v : Value} (hr : run (sleeperT cells) c = (r, c1)) (h1 : CSt w1 F cb lv1 c1) (h2 : CNx w w1 F F cb lv lv1) (hns : tb ∉ SS F cb lv1) (hu : Upd [tb] w1 w2) (hb : Blk w2 tb 3 ((tv.set i q).map (Value.int .i64)).toArray) (hq : ∀ a, r = some a → q = a.n) (hv : BdV w2 w.heap.size v r) : SlPost F cb lv c tb i tv cells w v w2 := by
  unfold SlPost
  rw [hr]
  exact ⟨lv1, q, h1.far hu (by simpa using hns), (h2.up.mono (fun y hy => .inl (by simp [hy]))).trans' hu (by simp), h2.gr, hb, hq, hv⟩
set_option maxRecDepth 20000 in
set_option maxHeartbeats 2000000 in
theorem sleeper1_ok (tb i : Nat) (tv : List Int) (d : SlD) {F : BFp} {cb : Nat} {lv : Value} {c : CS} {S : List Nat} (w : World) (h : CSt w F cb lv c) (hJ : ∀ q ∈ [(3, 2), (6, 2), (9, 2), (12, 1)], q ∈ c.B.sz) (hR : SlR tb w S i d) (hT : Blk w tb 3 (tv.map (Value.int .i64)).toArray) (hi : i < tv.length) (htS : tb ∈ S) (hlt : ∀ x ∈ S, x < w.heap.size) (hS : ∀ x ∈ S, x ∉ SS F cb lv) (hc : d.cells.length ≤ 3 ∧ ∀ x ∈ d.cells, x < 3) :
    Calls Tryz.prog 31 #[.pointer (some ⟨cb, 0, none⟩), .int .i64 0, .pointer (some ⟨d.cbx, 0, none⟩), .pointer (some ⟨d.rb, 0, none⟩), .pointer (some ⟨d.pb, 0, none⟩)] w fun e w' => ∃ v, e = .returned v ∧ SlPost F cb lv c tb i tv d.cells w v w' := by
  obtain ⟨A, n0, hlv, _, _⟩ := hR.ls.form
  obtain ⟨n, hn⟩ : ∃ n, n = d.cells.length := ⟨_, rfl⟩
  rw [← hn] at hlv
  have HN : Hid (n = d.cells.length ∧ n ≤ 3) := Lib.hid ⟨hn, by omega⟩
  have HLV := Lib.hid hlv
  have H0 := Lib.hid h
  have HJ := Lib.hid hJ
  have HR := Lib.hid hR
  have HT := Lib.hid hT
  have HI := Lib.hid hi
  have HTS := Lib.hid htS
  have HLT := Lib.hid hlt
  have HS := Lib.hid hS
  have HC := Lib.hid hc
  have b1 := hR.b1
  rw [hlv] at b1
  have f1 := b1.facts
  have hn3 : (n : Int) ≤ 3 := by omega
  clear h hJ hR hT hi htS hlt hS hc hlv b1 hn
  go_enter Tryz.func31, Tryz.ntmps31
  go_wp2_with fail
  clear f1
  go_loopw [8, 10, 15] (fun u8 u10 u15 wr => ∃ j : Nat, u15 = .int .i64 j ∧ j ≤ n ∧ Hid (Upd [] w wr ∧ Ow SnE 56 wr w.heap.size u8 ((d.cells.take j).map fun x => (clR x, 0)))) (fun _ _ u _ => n - (intOf u).toNat)
  case atStart => exact ⟨0, rfl, by omega, Lib.hid ⟨.refl _ _, Ow.nil _ _ _ _⟩⟩
  case round =>
    obtain ⟨j, rfl, hj, KX⟩ := hrel
    rename World => wr
    have HRR : Hid (SlR tb wr S i d) := Lib.hid (HR.out.upd KX.out.1 (by simp))
    by_cases hlt : j < n
    · have hjn : (j : Int) < n := by omega
      obtain ⟨x, hx⟩ : ∃ x, d.cells[j]? = some x := ⟨_, List.getElem?_eq_getElem (by rw [← HN.out.1]; exact hlt)⟩
      have hov := HRR.out.ls
      rw [HLV.out] at hov
      obtain ⟨g, cp', _, hv, _⟩ := own_form hov (by rw [← HN.out.1]; omega)
      injection hv with hv1 hv2 hv3
      subst hv1
      have c1 : wr.cell? ⟨g, j, none⟩ = some (.int .u64 (clR x)) := by
        have := hov.at_ hx 0 _ rfl
        simpa [RfE] using this
      have gal : g < wr.heap.size := (own_lt hov (b := g) rfl).2
      have HX := Lib.hid hx
      have HJ2 := Lib.hid hlt
      clear hj hlt hx hov hv2 hv3
      go_wp2_with (at_builtin; refine stoppedW ?_)
      refine Lib.hid ?_
      have hlen : ((d.cells.take j).map fun x => (clR x, (0 : Int))).length = j := by
        have := HN.out.1; have := HJ2.out
        simp; omega
      refine wpList_app _ (by rfl) (.tmp 19) (.tmp 22) _ (by rfl) seen_elem u8 _ (by rfl) (by rfl) (KX.out.2.upd0 ((Upd.refl [] wr).alloc _)) (.of_blk (Blk.new wr _ _) (m := 1) 1 rfl) (flat_cells (E := SnE) (L := [(clR x, 0)])) (by have := HN.out; have := HJ2.out; simp only [maxLen, hlen]; omega) (by have := HN.out; have := HJ2.out; rw [hlen]; omega) (by have := KX.out.1.size; simp; omega) ?_
      intro v5 w5 o5 u5 b5
      have X5 : Hid (Upd [] w w5 ∧ Ow SnE 56 w5 w.heap.size v5 ((d.cells.take (j + 1)).map fun x => (clR x, 0))) := Lib.hid (by
        refine ⟨(KX.out.1.alloc _).trans' u5 (fun y hy => .inr (own_lt KX.out.2 (b := y) (by simpa using hy)).1), ?_⟩
        unfold Ow
        rw [List.take_add_one, HX.out]
        simp only [Option.toList_some, List.map_append, List.map_cons, List.map_nil]
        rw [flat_append, List.length_append]
        exact o5)
      clear o5 u5 b5 hlen
      go_wp2_with fail
      go_round
      case rel => exact ⟨j + 1, by simp, by have := HJ2.out; omega, X5⟩
      case measure => have := HJ2.out; simp [intOf]; omega
    · have hjn : ¬ ((j : Int) < n) := by omega
      have hjj : j = n := by omega
      subst hjj
      have b2 := HRR.out.b2.facts
      have hsn : Ow SnE 56 wr w.heap.size u8 (d.cells.map fun x => (clR x, 0)) := by
        have := KX.out.2
        rwa [List.take_of_length_le (by rw [← HN.out.1]; exact Nat.le_refl _)] at this
      have HSl := Lib.hid (sleep_ok wr (H0.out.upd0 KX.out.1) 12 (HJ.out _ (by simp)) (d.cells.map fun x => (clR x, 0)) u8 (own_base hsn (Nat.zero_le _)) (fun b hb hm => by
        have := (own_lt hsn hb).1
        have := SS_lt H0.out b hm
        omega) (by have := HC.out.1; simp; omega) (fun q hq => by
        obtain ⟨x, hx, rfl⟩ := List.mem_map.1 hq
        have := HC.out.2 x hx
        refine HJ.out _ ?_
        have h3 : x = 0 ∨ x = 1 ∨ x = 2 := by omega
        rcases h3 with rfl | rfl | rfl <;> simp [clR]))
      clear hj hlt hsn
      go_wp2_with fail
      refine HSl.out.mono ?_
      rintro e w1 ⟨lv1, v, rfl, h1, h2, h3⟩
      have N1 := Lib.hid (h2.upd0 KX.out.1)
      have R1 : Hid (SlR tb w1 S i d) := Lib.hid (HRR.out.upd h2.up (fun x hx hm => HS.out x hm hx))
      have T1 : Hid (Blk w1 tb 3 (tv.map (Value.int .i64)).toArray) := Lib.hid (HT.out.upd N1.out.up (fun hm => HS.out tb HTS.out hm))
      have b3 := R1.out.b3.facts
      have t1 : w1.cell? ⟨tb, i, none⟩ = some (.int .i64 (tv.getD i 0)) := by
        rw [T1.out.cell i]
        have := HI.out
        simp [List.getD_eq_getElem?_getD, List.getElem?_eq_getElem this]
      have t2 : w1.frozen? ⟨tb, i, none⟩ = false := T1.out.facts.2.1 i
      have t3 : tb < w1.heap.size := T1.out.lt
      have hne : d.pb ≠ tb := R1.out.b3.ne_ T1.out (by decide)
      have hne' : tb ≠ d.pb := fun e => hne e.symm
      have NS : Hid (tb ∉ SS F cb lv1) := Lib.hid (fun hm => (N1.out.gr tb hm).elim (HS.out tb HTS.out) (fun h => by have := HLT.out tb HTS.out; omega))
      have TL : Hid (tb < w.heap.size) := Lib.hid (HLT.out tb HTS.out)
      cases hr : run (sleepT 12 (d.cells.map fun x => (clR x, 0))) c with
      | mk o c1 =>
        rw [hr] at h1 h3
        have H1 := Lib.hid h1
        have H3 := Lib.hid (h3.base KX.out.1.size)
        cases o with
        | none =>
          have HR2 : Hid (run (sleeperT d.cells) c = (none, c1)) := Lib.hid (run_bind_none hr)
          have hc := h3.cases
          simp only [resA] at hc
          obtain ⟨⟨t, x, rfl⟩, _⟩ := hc.resolve_left (by omega)
          clear h1 h2 h3 hc hr b2
          simp only [resA]
          go_wp2_with fail
          refine (no_er ((H3.out.upd (S := [tb]) ((Upd.refl _ _).setCell (by simp) _) (by intro y hy; simp at hy; subst hy; exact TL.out)).er (by omega))).mono ?_
          rintro e w' ⟨rfl, rfl⟩
          simp only [resA]
          go_wp2_with fail
          go_ret
          have hu : Upd [tb] w1 (w1.setCell ⟨tb, i, none⟩ (.int .i64 (-1))) := (Upd.refl _ _).setCell (by simp) _
          exact ⟨_, rfl, sl_fin HR2.out H1.out N1.out NS.out hu (tk_set T1.out (-1)) (by intro a ha; cases ha) (ErK.upd H3.out hu (by intro y hy; simp at hy; subst hy; exact TL.out))⟩
        | some a =>
          have HR2 : Hid (run (sleeperT d.cells) c = (some ⟨0, 0, if a.err = 0 then a.n else -1⟩, c1)) := Lib.hid (run_bind_some hr)
          have hee : a.err = 0 ∨ a.err = 12 := retAll_run (P := E012) (e012_sleep _ _) (by rw [hr])
          rcases hee with he | he
          · have hr2 := HR2.out
            rw [if_pos he] at hr2
            have HR3 := Lib.hid hr2
            simp only [resA, he] at h3
            obtain rfl := h3.zero
            obtain ⟨an, han⟩ : ∃ an, an = a.n := ⟨_, rfl⟩
            have HAN := Lib.hid han
            simp only [resA]
            rw [← han]
            clear h1 h2 h3 hr hr2 he han b2
            go_wp2_with fail
            refine (no_er (Er.nil _ 0)).mono ?_
            rintro e w' ⟨rfl, rfl⟩
            go_wp2_with fail
            go_ret
            have hu : Upd [tb] w1 ((w1.setCell ⟨tb, i, none⟩ (.int .i64 (-1))).setCell ⟨tb, i, none⟩ (.int .i64 an)) := ((Upd.refl _ _).setCell (by simp) _).setCell (by simp) _
            refine ⟨_, rfl, sl_fin (q := an) HR3.out H1.out N1.out NS.out hu ?_ (by intro b hb; injection hb with hb; rw [← hb]; exact HAN.out) rfl⟩
            have := tk_set (i := i) (tk_set (i := i) T1.out (-1)) an
            rwa [List.set_set] at this
          · have hr2 := HR2.out
            rw [if_neg (by omega)] at hr2
            have HR3 := Lib.hid hr2
            have hc := h3.cases
            simp only [resA, he] at hc
            obtain ⟨⟨t, x, rfl⟩, _⟩ := hc.resolve_left (by omega)
            have HE := H3.out
            simp only [resA, he] at HE
            have HE2 := Lib.hid HE
            clear h1 h2 h3 hr hr2 he b2 HE hc
            simp only [resA]
            go_wp2_with fail
            refine (no_er ((HE2.out.upd (S := [tb]) ((Upd.refl _ _).setCell (by simp) _) (by intro y hy; simp at hy; subst hy; exact TL.out)).er (by omega))).mono ?_
            rintro e w' ⟨rfl, rfl⟩
            go_wp2_with fail
            go_ret
            have hu : Upd [tb] w1 (w1.setCell ⟨tb, i, none⟩ (.int .i64 (-1))) := (Upd.refl _ _).setCell (by simp) _
            exact ⟨_, rfl, sl_fin HR3.out H1.out N1.out NS.out hu (tk_set T1.out (-1)) (by intro b hb; injection hb with hb; rw [← hb]) rfl⟩
/-- What the committer's closure leaves. -/
def CoPost (F : BFp) (cb : Nat) (lv : Value) (c : CS) (db j : Nat) (dv : List Bool) (x : Nat) (w : World) (v : Value) (w' : World) : Prop :=
  ∃ lv' q, CSt w' F cb lv' (run (committerT x) c).2 ∧ Upd (db :: SS F cb lv) w w' ∧ (∀ y ∈ SS F cb lv', y ∈ SS F cb lv ∨ w.heap.size ≤ y) ∧ Blk w' db 4 ((dv.set j q).map Value.bool).toArray ∧ (∀ a, (run (committerT x) c).1 = some a → q = (a.n == 1)) ∧ BdV w' w.heap.size v (run (committerT x) c).1
theorem dn_set {w1 : World} {db j : Nat} {dv : List Bool} (h : Blk w1 db 4 (dv.map Value.bool).toArray) (q : Bool) : Blk (w1.setCell ⟨db, j, none⟩ (.bool q)) db 4 ((dv.set j q).map Value.bool).toArray := by
  refine h.set_eq ?_
  rw [List.map_set]
  simp
/-- Amid it: what is there, the cell of done being q. -/
structure CoW (F : BFp) (cb : Nat) (lv : Value) (S : List Nat) (db j : Nat) (dv : List Bool) (d : CoD) (w : World) (q : Bool) (lv1 : Value) (c1 : CS) (w1 : World) : Prop where
  st : CSt w1 F cb lv1 c1
  up : Upd (db :: SS F cb lv) w w1
  gr : ∀ x ∈ SS F cb lv1, x ∈ SS F cb lv ∨ w.heap.size ≤ x
  ns : ∀ x ∈ S, x ∉ SS F cb lv1
  r : CoR db w1 S j d
  b : Blk w1 db 4 ((dv.set j q).map Value.bool).toArray
theorem CoW.call {F : BFp} {cb : Nat} {lv lv1 lv2 : Value} {S : List Nat} {db j : Nat} {dv : List Bool} {d : CoD} {w w1 w2 : World} {q : Bool} {c1 c2 : CS} (h : CoW F cb lv S db j dv d w q lv1 c1 w1) (hlt : ∀ x ∈ S, x < w.heap.size) (hdb : db ∈ S) (h1 : CSt w2 F cb lv2 c2) (h2 : CNx w1 w2 F F cb lv1 lv2) : CoW F cb lv S db j dv d w q lv2 c2 w2 := by
  refine ⟨h1, h.up.trans' h2.up (fun x hx => (h.gr x hx).imp (List.mem_cons_of_mem _) id), fun x hx => ?_, fun x hx hm => ?_, h.r.upd h2.up (fun x hx hm => h.ns x hm hx), h.b.upd h2.up (h.ns db hdb)⟩
  · rcases h2.gr x hx with h3 | h3
    · exact h.gr x h3
    · exact .inr (Nat.le_trans h.up.size h3)
  · rcases h2.gr x hm with h3 | h3
    · exact h.ns x hx h3
    · have := hlt x hx; have := h.up.size; omega
theorem CoW.put {F : BFp} {cb : Nat} {lv lv1 : Value} {S : List Nat} {db j : Nat} {dv : List Bool} {d : CoD} {w w1 : World} {q : Bool} {c1 : CS} (h : CoW F cb lv S db j dv d w q lv1 c1 w1) (hdb : db ∈ S) (q' : Bool) : CoW F cb lv S db j dv d w q' lv1 c1 (w1.setCell ⟨db, j, none⟩ (.bool q')) := by
  have hu : Upd [db] w1 (w1.setCell ⟨db, j, none⟩ (.bool q')) := (Upd.refl _ _).setCell (by simp) _
  refine ⟨h.st.far hu (by simpa using h.ns db hdb), h.up.trans' hu (by simp), h.gr, h.ns, ?_, ?_⟩
  · exact ⟨h.r.b1.upd hu (by simpa using h.r.b1.ne_ h.b (by decide)), h.r.b2.upd hu (by simpa using h.r.b2.ne_ h.b (by decide)), h.r.b3.upd hu (by simpa using h.r.b3.ne_ h.b (by decide)), h.r.mem⟩
  · have := dn_set (j := j) h.b q'
    rwa [List.set_set] at this
theorem CoW.fin {F : BFp} {cb : Nat} {lv lv1 : Value} {c : CS} {S : List Nat} {db j : Nat} {dv : List Bool} {d : CoD} {w w1 : World} {q : Bool} {c1 : CS} {r : Option An} {v : Value} (h : CoW F cb lv S db j dv d w q lv1 c1 w1) (hr : run (committerT d.x) c = (r, c1)) (hq : ∀ a, r = some a → q = (a.n == 1)) (hv : BdV w1 w.heap.size v r) : CoPost F cb lv c db j dv d.x w v w1 := by
  unfold CoPost
  rw [hr]
  exact ⟨lv1, q, h.st, h.up, h.gr, h.b, hq, hv⟩
theorem CoW.facts {F : BFp} {cb : Nat} {lv lv1 : Value} {S : List Nat} {db j : Nat} {dv : List Bool} {d : CoD} {w w1 : World} {q : Bool} {c1 : CS} (h : CoW F cb lv S db j dv d w q lv1 c1 w1) (hj : j < dv.length) : w1.cell? ⟨db, j, none⟩ = some (.bool q) ∧ w1.frozen? ⟨db, j, none⟩ = false ∧ db < w1.heap.size := by
  refine ⟨?_, h.b.facts.2.1 j, h.b.lt⟩
  rw [h.b.cell j]
  simp [List.getElem?_set, hj]
set_option maxRecDepth 20000 in
set_option maxHeartbeats 2000000 in
theorem committer1_ok (db j : Nat) (dv : List Bool) (d : CoD) {F : BFp} {cb : Nat} {lv : Value} {c : CS} {S : List Nat} (w : World) (h : CSt w F cb lv c) (hJ : ∀ q ∈ [(3, 2), (6, 2), (9, 2), (12, 1)], q ∈ c.B.sz) (hR : CoR db w S j d) (hT : Blk w db 4 (dv.map Value.bool).toArray) (hj : j < dv.length) (htS : db ∈ S) (hlt : ∀ x ∈ S, x < w.heap.size) (hS : ∀ x ∈ S, x ∉ SS F cb lv) (hc : d.x < 3) (hf : ∀ a, (run (committerT d.x) c).1 = some a → a.err = 0) :
    Calls Tryz.prog 32 #[.pointer (some ⟨cb, 0, none⟩), .int .i64 0, .pointer (some ⟨d.pb, 0, none⟩), .pointer (some ⟨d.cb, 0, none⟩), .pointer (some ⟨d.rb, 0, none⟩)] w fun e w' => ∃ v, e = .returned v ∧ CoPost F cb lv c db j dv d.x w v w' := by
  have D0 : Hid (CoW F cb lv S db j dv d w false lv c (w.setCell ⟨db, j, none⟩ (.bool false))) := Lib.hid (CoW.put (q := dv.getD j false) ⟨h, .refl _ _, fun _ h => .inl h, hS, hR, by
    have e : dv.set j (dv.getD j false) = dv := by
      apply List.ext_getElem?
      intro k
      rw [List.getElem?_set]
      split
      · next e => subst e; simp [hj, List.getD_eq_getElem?_getD, List.getElem?_eq_getElem hj]
      · rfl
    rw [e]; exact hT⟩ htS false)
  have HM : Hid ((clR d.x, 2) ∈ c.B.sz ∧ (12, 1) ∈ c.B.sz) := Lib.hid ⟨by
    refine hJ _ ?_
    have h3 : d.x = 0 ∨ d.x = 1 ∨ d.x = 2 := by omega
    rcases h3 with h3 | h3 | h3 <;> rw [h3] <;> simp [clR], hJ _ (by simp)⟩
  have t1 : w.cell? ⟨db, j, none⟩ = some (.bool (dv.getD j false)) := by
    rw [hT.cell j]
    simp [List.getD_eq_getElem?_getD, List.getElem?_eq_getElem hj]
  have t2 : w.frozen? ⟨db, j, none⟩ = false := hT.facts.2.1 j
  have t3 : db < w.heap.size := hT.lt
  have b3 := hR.b3.facts
  have b1 := hR.b1.facts
  have n1 : d.cb ≠ db := hR.b1.ne_ hT (by decide)
  have n2 : d.pb ≠ db := hR.b3.ne_ hT (by decide)
  have n3 : db ≠ d.cb := fun e => n1 e.symm
  have n4 : db ≠ d.pb := fun e => n2 e.symm
  have HJ := Lib.hid hj
  have HTS := Lib.hid htS
  have HLT := Lib.hid hlt
  have HF := Lib.hid hf
  have HL := Lib.hid (mlock_ok _ D0.out.st (clR d.x) HM.out.1 0 1 (by omega))
  clear h hJ hR hT hj htS hlt hS hc hf
  go_enter Tryz.func32, Tryz.ntmps32
  go_wp2_with fail
  refine HL.out.mono ?_
  rintro e w1 ⟨lv1, v, rfl, h1, h2, h3⟩
  have D1 := Lib.hid (D0.out.call HLT.out HTS.out h1 h2)
  have hs0 : w.heap.size ≤ (w.setCell ⟨db, j, none⟩ (.bool false)).heap.size := D0.out.up.size
  cases hr : run (turnT (clR d.x) 0 (lockTo 1) 8) c with
  | mk o c1 =>
    rw [hr] at D1 h3
    have H3 := Lib.hid (h3.base hs0)
    clear t1 t2 t3 b1 b3 n1 n2 n3 n4 h1 h2
    cases o with
    | none =>
      have HR : Hid (run (committerT d.x) c = (none, c1)) := Lib.hid (run_bind_none hr)
      have hc := h3.cases
      simp only [resA] at hc
      obtain ⟨⟨t, x, rfl⟩, _⟩ := hc.resolve_left (by omega)
      clear h3 hc hr hs0
      go_wp2_with fail
      refine (no_er (H3.out.er (by omega))).mono ?_
      rintro e w' ⟨rfl, rfl⟩
      simp only [resA]
      go_wp2_with fail
      go_ret
      exact ⟨_, rfl, D1.out.fin HR.out (by intro a ha; cases ha) H3.out⟩
    | some a =>
      have hR := run_bind_some (f := fun a : An => if a.err = 0 then ((commitT (clR d.x) 7 1).bind fun b => if b.err = 0 then (if b.n = 1 then (wakeT 12).bind fun d => .ret (⟨d.err, 0, 1⟩ : An) else .ret ⟨0, 0, 1⟩) else .ret ⟨b.err, 0, 0⟩) else .ret ⟨0, 0, 0⟩) hr
      have hR : run (committerT d.x) c = _ := hR
      have hee : a.err = 0 ∨ a.err = 12 := retAll_run (P := E012) (e012_turn _ _ _ _) (by rw [hr])
      rcases hee with he | he
      · rw [if_pos he] at hR
        have HR1 := Lib.hid hR
        simp only [resA, he] at h3
        obtain rfl := h3.zero
        have b1 := D1.out.r.b1.facts
        have HCM := Lib.hid (mcommit_ok w1 D1.out.st (clR d.x) (run_mem hr HM.out.1) 7 1 (by omega) (by omega))
        have HM1 : Hid ((12, 1) ∈ c1.B.sz) := Lib.hid (run_mem hr HM.out.2)
        clear h3 hr hs0 he hR
        go_wp2_with fail
        refine (no_er (Er.nil _ 0)).mono ?_
        rintro e w' ⟨rfl, rfl⟩
        go_wp2_with fail
        refine HCM.out.mono ?_
        rintro e w2 ⟨lv2, v, rfl, h1, h2, h3⟩
        have D2 := Lib.hid (D1.out.call HLT.out HTS.out h1 h2)
        cases hr : run (commitT (clR d.x) 7 1) c1 with
        | mk o c2 =>
          rw [hr] at D2 h3
          have H3 := Lib.hid (h3.base D1.out.up.size)
          clear b1 h1 h2
          cases o with
          | none =>
            have HR : Hid (run (committerT d.x) c = (none, c2)) := Lib.hid (by rw [HR1.out]; exact run_bind_none hr)
            have hc := h3.cases
            simp only [resA] at hc
            obtain ⟨⟨t, x, rfl⟩, _⟩ := hc.resolve_left (by omega)
            clear h3 hc hr
            go_wp2_with fail
            go_ret
            exact ⟨_, rfl, D2.out.fin HR.out (by intro a ha; cases ha) H3.out⟩
          | some b =>
            have hR2 := run_bind_some (f := fun b : An => if b.err = 0 then (if b.n = 1 then (wakeT 12).bind fun d => .ret (⟨d.err, 0, 1⟩ : An) else .ret ⟨0, 0, 1⟩) else .ret ⟨b.err, 0, 0⟩) hr
            rw [← HR1.out] at hR2
            have he : b.err = 0 := Classical.byContradiction fun h0 => by
              rw [if_neg h0, run_ret] at hR2
              exact h0 (HF.out ⟨b.err, 0, 0⟩ (by rw [hR2]))
            rw [if_pos he] at hR2
            simp only [resA, he] at h3
            obtain rfl := h3.zero
            by_cases hb : b.n = 1
            · rw [if_pos hb] at hR2
              have HR2 := Lib.hid hR2
              have b2 := D2.out.r.b2.facts
              have HW := Lib.hid (wake_ok w2 D2.out.st 12 (run_mem hr HM1.out) (fun a ha h98 => by
                have := run_bind_some (f := fun d : An => .ret (⟨d.err, 0, 1⟩ : An)) (c' := (run (wakeT 12) c2).2) (Prod.ext ha rfl)
                rw [← hR2, run_ret] at this
                have := HF.out ⟨a.err, 0, 1⟩ (by rw [this])
                simp only at this
                omega))
              have hbb : (b.n == 1) = true := by simpa using hb
              simp only [resA, hbb]
              clear h3 hr he hR2 hb hbb
              go_wp2_with fail
              refine HW.out.mono ?_
              rintro e w3 ⟨lv3, v, rfl, h1, h2, h3⟩
              have D3 := Lib.hid (D2.out.call HLT.out HTS.out h1 h2)
              cases hr : run (wakeT 12) c2 with
              | mk o c3 =>
                rw [hr] at D3 h3
                have H3' := Lib.hid ((h3.base D2.out.up.size).up (show 1 ≤ 2 by omega))
                clear b2 h1 h2
                cases o with
                | none =>
                  have HR : Hid (run (committerT d.x) c = (none, c3)) := Lib.hid (by rw [HR2.out]; exact run_bind_none hr)
                  have hc := h3.cases
                  simp only [resA] at hc
                  obtain ⟨⟨t, x, rfl⟩, _⟩ := hc.resolve_left (by omega)
                  clear h3 hc hr
                  go_wp2_with fail
                  go_ret
                  exact ⟨_, rfl, D3.out.fin HR.out (by intro a ha; cases ha) H3'.out⟩
                | some a =>
                  have hR3 := run_bind_some (f := fun d : An => .ret (⟨d.err, 0, 1⟩ : An)) hr
                  rw [← HR2.out, run_ret] at hR3
                  have he : a.err = 0 := HF.out ⟨a.err, 0, 1⟩ (by rw [hR3])
                  rw [he] at hR3
                  have HR3 := Lib.hid hR3
                  simp only [resA, he] at h3
                  obtain rfl := h3.zero
                  have b3 := D3.out.r.b3.facts
                  obtain ⟨t1, t2, t3⟩ := D3.out.facts HJ.out
                  have D4 := Lib.hid (D3.out.put HTS.out true)
                  clear h3 hr hR3 he
                  go_wp2_with fail
                  go_ret
                  exact ⟨_, rfl, D4.out.fin HR3.out (by intro a ha; injection ha with ha; subst ha; rfl) rfl⟩
            · rw [if_neg hb, run_ret] at hR2
              have HR2 := Lib.hid hR2
              have hbb : (b.n == 1) = false := by simpa using hb
              have b3 := D2.out.r.b3.facts
              obtain ⟨t1, t2, t3⟩ := D2.out.facts HJ.out
              have D4 := Lib.hid (D2.out.put HTS.out true)
              simp only [resA, hbb]
              clear h3 hr he hR2 hb hbb
              go_wp2_with fail
              go_ret
              exact ⟨_, rfl, D4.out.fin HR2.out (by intro a ha; injection ha with ha; subst ha; rfl) rfl⟩
      · rw [if_neg (by omega), run_ret] at hR
        have HR := Lib.hid hR
        have hc := h3.cases
        simp only [resA, he] at hc
        obtain ⟨⟨t, x, rfl⟩, _⟩ := hc.resolve_left (by omega)
        have HE := H3.out
        simp only [resA, he] at HE
        have HE2 := Lib.hid HE
        clear h3 hc hr hs0 he HE hR
        go_wp2_with fail
        refine (no_er (HE2.out.er (by omega))).mono ?_
        rintro e w' ⟨rfl, rfl⟩
        go_wp2_with fail
        go_ret
        exact ⟨_, rfl, D1.out.fin HR.out (by intro a ha; injection ha with ha; subst ha; rfl) rfl⟩
end Go.Proofs.YtkldpdldjalpeaaGreatDoor

namespace Go.Proofs.YtkldpdldjalpeaaGreatDoor
open Go.RowKit Th

theorem SlR.keep {tb : Nat} {w w' : World} {S T : List Nat} {i b : Nat} {t : TypeId} {cs : Array Value} {d : SlD} (h : SlR tb w S i d) (hb : Blk w b t cs) (h1 : 27 ≠ t) (h2 : 26 ≠ t) (h3 : 36 ≠ t) (hu : Upd (b :: T) w w') (hT : ∀ x ∈ T, x ∉ S) : SlR tb w' S i d := by
  have hn : ∀ x, x ∈ S → x ≠ b → x ∉ b :: T := fun x hx he hm => (List.mem_cons.1 hm).elim he (fun hm => hT x hm hx)
  exact ⟨h.b1.upd hu (hn _ h.mem.1.1 (h.b1.ne_ hb h1)), h.b2.upd hu (hn _ h.mem.1.2.1 (h.b2.ne_ hb h2)), h.b3.upd hu (hn _ h.mem.1.2.2 (h.b3.ne_ hb h3)), h.ls.upd hu (fun x hx => hn _ (h.mem.2 x hx) (fun e => own_type h.ls hb (Ne.symm h2) (e ▸ hx))), h.mem⟩
theorem CoR.keep {db : Nat} {w w' : World} {S T : List Nat} {j b : Nat} {t : TypeId} {cs : Array Value} {d : CoD} (h : CoR db w S j d) (hb : Blk w b t cs) (h2 : 26 ≠ t) (h3 : 38 ≠ t) (hu : Upd (b :: T) w w') (hT : ∀ x ∈ T, x ∉ S) : CoR db w' S j d := by
  have hn : ∀ x, x ∈ S → x ≠ b → x ∉ b :: T := fun x hx he hm => (List.mem_cons.1 hm).elim he (fun hm => hT x hm hx)
  exact ⟨h.b1.upd hu (hn _ h.mem.1 (h.b1.ne_ hb h2)), h.b2.upd hu (hn _ h.mem.2.1 (h.b2.ne_ hb h2)), h.b3.upd hu (hn _ h.mem.2.2 (h.b3.ne_ hb h3)), h.mem⟩
def J15 (B : BS) : Prop := ∀ q ∈ [(3, 2), (6, 2), (9, 2), (12, 1)], q ∈ B.sz
set_option maxRecDepth 20000 in
theorem sleeper_body (sl : List SlD) (co : List CoD) (ns nc tb db : Nat) (i : Nat) (d : SlD) (hd : sl[i]? = some d) (hi : i < ns) (hc : d.cells.length ≤ 3 ∧ ∀ x ∈ d.cells, x < 3) (rs : List (Option An)) (hr : rs.length = ns + nc) :
    BodyOk 31 #[.pointer (some ⟨d.cbx, 0, none⟩), .pointer (some ⟨d.rb, 0, none⟩), .pointer (some ⟨d.pb, 0, none⟩)] (sleeperT d.cells) (fun a => a.err ≠ 0) J15 (fun w S r => M15 sl co ns nc tb db w S (rs.set i r)) where
  ent := fun _ _ => rfl
  run := fun w F cb lv c S r0 h _ _ hJ _ hM hS _ => by
    obtain ⟨tv, t1, t2, t3⟩ := hM.tks
    obtain ⟨dv, d1, d2, d3⟩ := hM.dns
    refine (sleeper1_ok tb i tv d w h hJ (hM.row i d hd) t2 (by omega) hM.mem.1 hM.lt hS hc).mono ?_
    rintro e w' ⟨v, rfl, lv', q, g1, g2, g3, g4, g5, g6⟩
    have hsn : ∀ x ∈ SS F cb lv, x ∉ S := fun x hx hm => hS x hm hx
    refine ⟨F, lv', S, v, rfl, g1, rfl, g2.mono (fun x hx => .inl ?_), fun x hx => ?_, fun x hx hm => ?_, ⟨fun k e he => (hM.row k e he).keep t2 (by decide) (by decide) (by decide) g2 hsn, fun k e he => (hM.crow k e he).keep t2 (by decide) (by decide) g2 hsn, ⟨tv.set i q, by simpa using t1, g4, fun k a hk ha => ?_⟩, ⟨dv, d1, d2.upd g2 (fun hm => ?_), fun k a ha => ?_⟩, hM.mem, fun x hx => Nat.lt_of_lt_of_le (hM.lt x hx) g2.size⟩, g6⟩
    · rcases List.mem_cons.1 hx with rfl | hx
      · exact List.mem_append_left _ hM.mem.1
      · exact List.mem_append_right _ hx
    · rcases List.mem_append.1 hx with hx | hx
      · exact .inl (List.mem_append_left _ hx)
      · exact (g3 x hx).imp (List.mem_append_right _) id
    · rcases g3 x hm with h | h
      · exact hS x hx h
      · have := hM.lt x hx; omega
    · rw [List.getElem?_set] at ha ⊢
      by_cases e : i = k
      · subst e
        rw [if_pos rfl, if_pos (by omega)] at ha ⊢
        injection ha with ha
        rw [g5 a ha]
      · rw [if_neg e] at ha ⊢
        exact t3 k a hk (by rw [List.getElem?_set_ne e]; exact ha)
    · rcases List.mem_cons.1 hm with hm | hm
      · exact d2.ne_ t2 (by decide) hm
      · exact hsn _ hm hM.mem.2
    · exact d3 k a (by rw [List.getElem?_set_ne (by omega)] at ha ⊢; exact ha)
set_option maxRecDepth 20000 in
theorem committer_body (sl : List SlD) (co : List CoD) (ns nc tb db : Nat) (j : Nat) (d : CoD) (hd : co[j]? = some d) (hj : j < nc) (hc : d.x < 3) (rs : List (Option An)) (hr : rs.length = ns + nc) :
    BodyOk 32 #[.pointer (some ⟨d.pb, 0, none⟩), .pointer (some ⟨d.cb, 0, none⟩), .pointer (some ⟨d.rb, 0, none⟩)] (committerT d.x) (fun a => a.err ≠ 0) J15 (fun w S r => M15 sl co ns nc tb db w S (rs.set (ns + j) r)) where
  ent := fun _ _ => rfl
  run := fun w F cb lv c S r0 h _ _ hJ _ hM hS hf => by
    obtain ⟨tv, t1, t2, t3⟩ := hM.tks
    obtain ⟨dv, d1, d2, d3⟩ := hM.dns
    refine (committer1_ok db j dv d w h hJ (hM.crow j d hd) d2 (by omega) hM.mem.2 hM.lt hS hc (fun a ha => Classical.byContradiction (hf a ha))).mono ?_
    rintro e w' ⟨v, rfl, lv', q, g1, g2, g3, g4, g5, g6⟩
    have hsn : ∀ x ∈ SS F cb lv, x ∉ S := fun x hx hm => hS x hm hx
    refine ⟨F, lv', S, v, rfl, g1, rfl, g2.mono (fun x hx => .inl ?_), fun x hx => ?_, fun x hx hm => ?_, ⟨fun k e he => (hM.row k e he).keep d2 (by decide) (by decide) (by decide) g2 hsn, fun k e he => (hM.crow k e he).keep d2 (by decide) (by decide) g2 hsn, ⟨tv, t1, t2.upd g2 (fun hm => ?_), fun k a hk ha => ?_⟩, ⟨dv.set j q, by simpa using d1, g4, fun k a ha => ?_⟩, hM.mem, fun x hx => Nat.lt_of_lt_of_le (hM.lt x hx) g2.size⟩, g6⟩
    · rcases List.mem_cons.1 hx with rfl | hx
      · exact List.mem_append_left _ hM.mem.2
      · exact List.mem_append_right _ hx
    · rcases List.mem_append.1 hx with hx | hx
      · exact .inl (List.mem_append_left _ hx)
      · exact (g3 x hx).imp (List.mem_append_right _) id
    · rcases g3 x hm with h | h
      · exact hS x hx h
      · have := hM.lt x hx; omega
    · rcases List.mem_cons.1 hm with hm | hm
      · exact t2.ne_ d2 (by decide) hm
      · exact hsn _ hm hM.mem.1
    · exact t3 k a hk (by rw [List.getElem?_set_ne (by omega)] at ha ⊢; exact ha)
    · rw [List.getElem?_set] at ha ⊢
      by_cases e : j = k
      · subst e
        rw [if_pos rfl, if_pos (by omega)] at ha ⊢
        injection ha with ha
        rw [g5 a ha]
      · rw [if_neg (by omega)] at ha
        rw [if_neg e]
        exact d3 k a (by rw [List.getElem?_set_ne (by omega)]; exact ha)
end Go.Proofs.YtkldpdldjalpeaaGreatDoor

namespace Go.Proofs.YtkldpdldjalpeaaGreatDoor
open Go.RowKit Th

set_option maxRecDepth 20000 in
set_option maxHeartbeats 1000000 in
theorem bnew_ok (a r fr : Nat) (ws : List Int) (w : World) (h : Ar w a r ws) (h1 : 1 ≤ fr) (h2 : fr ≤ ws.length) (h3 : ws.length ≤ 16384) (hw : ∀ x, x ∈ ws → 0 ≤ x ∧ x < 18446744073709551616) :
    Calls Tryz.prog 62 #[.pointer (some ⟨a, 0, none⟩), .int .i64 fr] w fun e w' => ∃ F : BFp, e = .returned (.tuple #[.pointer (some ⟨F.b0, 0, none⟩), .nilIface]) ∧ F.a = a ∧ F.r = r ∧ (∀ x ∈ F.l, x = a ∨ x = r ∨ w.heap.size ≤ x) ∧ BSt w' F ⟨fr, [], ws⟩ ∧ Upd [] w w' := by
  have HA := Lib.hid h
  have HL := Lib.hid (show 1 ≤ ws.length by omega)
  have HH := Lib.hid (show 1 ≤ fr ∧ fr ≤ ws.length ∧ ws.length ≤ 16384 from ⟨h1, h2, h3⟩)
  have HW := Lib.hid hw
  have hf : (1 : Int) ≤ fr ∧ (fr : Int) ≤ ws.length ∧ (1 : Int) ≤ ws.length := by omega
  have m1 : ∀ w, (Instr.makeMap 126 none).run Tryz.prog w = .ok (.map (some w.heap.size)) (w.alloc (.map #[] 0)) := fun _ => by kernel_rfl
  have m2 : ∀ w, (Instr.makeMap 127 none).run Tryz.prog w = .ok (.map (some w.heap.size)) (w.alloc (.map #[] 0)) := fun _ => by kernel_rfl
  clear h h1 h2 h3 hw
  go_enter Tryz.func62, Tryz.ntmps62
  go_wp2_with fail
  refine (len_x a r ws _ HA.out HL.out).mono ?_; rintro e w' ⟨rfl, rfl⟩
  go_wp2_with fail
  refine (len_x a r ws _ HA.out HL.out).mono ?_; rintro e w' ⟨rfl, rfl⟩
  go_wp2_with fail
  go_ret2
  have hl := HA.out.lt
  have hn := HA.out.ne
  have hh := HH.out
  have u : Upd [] w (((w.alloc (.map #[] 0)).alloc (.map #[] 0)).alloc (Obj.cells #[.pointer (some ⟨a, 0, none⟩), .int .i64 fr, .map (some w.heap.size), .map (some (w.heap.size + 1))] 129)) := (((Upd.refl _ _).alloc _).alloc _).alloc _
  have u1 : Upd [] (w.alloc (.map #[] 0)) (((w.alloc (.map #[] 0)).alloc (.map #[] 0)).alloc (Obj.cells #[.pointer (some ⟨a, 0, none⟩), .int .i64 fr, .map (some w.heap.size), .map (some (w.heap.size + 1))] 129)) := ((Upd.refl _ _).alloc _).alloc _
  have u2 : Upd [] ((w.alloc (.map #[] 0)).alloc (.map #[] 0)) (((w.alloc (.map #[] 0)).alloc (.map #[] 0)).alloc (Obj.cells #[.pointer (some ⟨a, 0, none⟩), .int .i64 fr, .map (some w.heap.size), .map (some (w.heap.size + 1))] 129)) := (Upd.refl _ _).alloc _
  have i1 : IMap ((w.alloc (.map #[] 0)).alloc (.map #[] 0)) .i64 (w.heap.size + 1) (fun _ => none) 0 := by
    have := IMap.new (w.alloc (.map #[] 0)) .i64
    rwa [show (w.alloc (.map #[] 0)).heap.size = w.heap.size + 1 by simp] at this
  refine ⟨⟨w.heap.size + 1 + 1, a, r, w.heap.size, w.heap.size + 1, []⟩, rfl, rfl, rfl, ?_, ⟨?_, HA.out.upd u (by simp) (by simp), ?_, ?_, rfl, ?_, ?_, ?_, hh, ?_, HW.out⟩, u⟩
  · intro x hx
    simp only [BFp.l, List.mem_cons, List.not_mem_nil, or_false] at hx
    rcases hx with rfl | rfl | rfl | rfl | rfl
    · exact .inr (.inr (by omega))
    · exact .inl rfl
    · exact .inr (.inl rfl)
    · exact .inr (.inr (by omega))
    · exact .inr (.inr (by omega))
  · exact Blk.newAt _ _ (by simp)
  · exact ((IMap.new w .i64).upd u1 (by simp)).congr (fun k => rfl)
  · exact i1.upd u2 (by simp)
  · intro i r n g hi; simp at hi
  · intro i j p q hi; simp at hi
  · intro p hp; simp at hp
  · simp only [BFp.l, List.nodup_cons, List.mem_cons, List.not_mem_nil, or_false, not_or, List.nodup_nil, and_true, not_false_eq_true]
    exact ⟨⟨by omega, by omega, by omega, by omega⟩, ⟨hn, by omega, by omega⟩, ⟨by omega, by omega⟩, by omega⟩
end Go.Proofs.YtkldpdldjalpeaaGreatDoor

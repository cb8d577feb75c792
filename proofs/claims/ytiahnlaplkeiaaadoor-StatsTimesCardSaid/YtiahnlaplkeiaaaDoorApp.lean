/-
  append onto a slice that the call owns, of whatever source; slices of slices. No program in sight.
-/
import Derived.Test.YtiahnlaplkeiaaaDoorOwn
import Derived.Maps.AppendAt
import Derived.Deep.AppendLies
import Derived.RegionTactic
import Derived.OwnWalk
import Derived.Deep.Slices
import Derived.Deep.Fields
namespace Go.Proofs.YtiahnlaplkeiaaaDoor
open Go.RowKit

/-- What append asks of the element's type: its number, its cells, its bytes. -/
structure Elem (P : Program) (t e : TypeId) (s bytes : Nat) : Prop where
  und : P.underlying t = some (.slice e)
  info : ∃ i z, P.info? e = some i ∧ i.zero = some z ∧ i.size = s ∧ i.bytes = bytes ∧ z.cells.size = s
  pos : 0 < s
theorem Elem.mk' {P : Program} {t e : TypeId} {s bytes : Nat} {z : Value} (und : P.underlying t = some (.slice e)) (info : (P.info? e).map (fun i => (i.zero, i.size, i.bytes)) = some (some z, s, bytes)) (hz : z.cells.size = s) (pos : 0 < s) : Elem P t e s bytes := by
  obtain ⟨i, h1, h2, h3, h4⟩ := info_parts info
  exact ⟨und, ⟨i, z, h1, h2, h3, h4, hz⟩, pos⟩

/-- A slice value that reads as these cells. -/
def Src (w : World) (s : Nat) (x : Value) (m : Nat) (news : List Value) : Prop :=
  news.length = m * s ∧ ∃ A c, x = .slice A m c ∧ ∀ j u, news[j]? = some u → ∃ ad : Addr, A = some ad ∧ ad.block < w.heap.size ∧ w.cell? (ad.add j) = some u
theorem add_more (a : Addr) (i j : Nat) : a.add (i + (j + 1)) = ⟨(a.add i).block, (a.add i).off + (j + 1), none⟩ := by
  unfold Addr.add
  by_cases h : i = 0
  · subst h; simp
  · simp [h]; omega
theorem block_add (a : Addr) (n : Nat) : (a.add n).block = a.block := by unfold Addr.add; split <;> rfl

section
variable {w w' : World} {B s n m cap g : Nat} {e : TypeId} {v x : Value} {xs news : List Value}
theorem Src.upd {S : List Nat} (h : Src w s x m news) (hu : Upd S w w') (hS : ∀ b, x.ownBlock = some b → b ∉ S) : Src w' s x m news := by
  obtain ⟨h1, A, c, rfl, h2⟩ := h
  refine ⟨h1, A, c, rfl, fun j u hj => ?_⟩
  obtain ⟨ad, rfl, hl, hc⟩ := h2 j u hj
  refine ⟨ad, rfl, Nat.lt_of_lt_of_le hl hu.size, (World.cell?_of_block ?_).trans hc⟩
  exact hu.keep _ (by rw [block_add]; exact hl) (by rw [block_add]; exact hS _ rfl)
theorem Src.upd0 (h : Src w s x m news) (hu : Upd [] w w') : Src w' s x m news := h.upd hu (by simp)
theorem Src.of_own (h : w.ownsRow B e s v n xs) : Src w s v n xs := by
  refine ⟨h.1, ?_⟩
  rcases h.2 with ⟨rfl, rfl⟩ | ⟨g, cap, cur, rfl, _, hb, _, _, _, _⟩
  · have : xs = [] := List.eq_nil_of_length_eq_zero (by simpa using h.1)
    subst this
    exact ⟨none, 0, rfl, by simp⟩
  · exact ⟨_, cap, rfl, fun j u hj => ⟨_, rfl, Blk.lt hb, by rw [add_head]; exact own_cell h j u hj⟩⟩
theorem Src.of_blk {q : Nat} {cs : Array Value} {t : TypeId} (h : Blk w q t cs) (c : Nat) (hl : cs.size = m * s) : Src w s (.slice (some ⟨q, 0, none⟩) m c) m cs.toList :=
  ⟨by simpa using hl, _, c, rfl, fun j u hj => ⟨_, rfl, h.lt, by rw [add_head, h.cell, ← Array.getElem?_toList]; exact hj⟩⟩
theorem own_slice (h : w.ownsRow B e s v n xs) : ∃ A c, v = .slice A n c ∧ n ≤ c ∧ c ≤ maxLen := by
  rcases h.2 with ⟨rfl, rfl⟩ | ⟨g, cap, cur, rfl, _, _, h4, h5, _⟩
  · exact ⟨_, _, rfl, Nat.le_refl _, by simp [maxLen]⟩
  · exact ⟨_, _, rfl, h4, h5⟩
/-- x[:k] of a slice that reads as some cells. -/
theorem Src.take {A : Option Addr} {c : Nat} (h : Src w s (.slice A n c) n xs) (k : Nat) (hk : k ≤ n) (c' : Nat) : Src w s (.slice A k c') k (xs.take (k * s)) := by
  obtain ⟨h1, A', c2, he, h2⟩ := h
  injection he with hA _ _
  subst hA
  refine ⟨by rw [List.length_take, h1]; exact Nat.min_eq_left (Nat.mul_le_mul_right s hk), _, c', rfl, fun j u hj => ?_⟩
  rw [List.getElem?_take] at hj
  split at hj
  · exact h2 j u hj
  · cases hj
/-- x[k:]. -/
theorem Src.drop {A : Option Addr} {c : Nat} (h : Src w s (.slice A n c) n xs) (k : Nat) (hk : k ≤ n) (hc : n ≤ c) (c' : Nat) : Src w s (.slice (if c = k then A else A.map (·.add (k * s))) (n - k) c') (n - k) (xs.drop (k * s)) := by
  obtain ⟨h1, A', c2, he, h2⟩ := h
  injection he with hA _ _
  subst hA
  have hl : (xs.drop (k * s)).length = (n - k) * s := by rw [List.length_drop, h1, Nat.sub_mul]
  refine ⟨hl, _, c', rfl, fun j u hj => ?_⟩
  have hj' := (List.getElem?_eq_some_iff.1 hj).1
  have hck : c ≠ k := by
    intro e
    have : n = k := by omega
    subst this
    rw [hl] at hj'
    simp at hj'
  rw [if_neg hck]
  rw [List.getElem?_drop] at hj
  obtain ⟨ad, rfl, hb, hcell⟩ := h2 _ u hj
  exact ⟨_, rfl, by rw [block_add]; exact hb, by show w.cell? ((ad.add (k * s)).add j) = some u; rw [Go.Deep.add_add]; exact hcell⟩
end

section
variable {P : Program} (w : World) {B s n m c bytes : Nat} {t e : TypeId} {v x : Value} {xs news : List Value}
theorem run_app (ET : Elem P t e s bytes) (ty : TypeId) (hown : w.ownsRow B e s v n xs) (hs : Src w s x m news) (h1 : ∀ u ∈ news, u.oneCell' = true) (h63 : n + m ≤ maxLen) (hby : (n + m) * bytes ≤ 140737488355328) (hB : B ≤ w.heap.size) :
    ∃ v' w', (Builtin.append_ #[t, t] ty #[v, x]).run P w = .ok v' w' ∧ w'.ownsRow B e s v' (n + m) (xs ++ news) ∧ Upd v.ownBlock.toList w w' ∧ (v'.ownBlock = v.ownBlock ∨ v'.ownBlock = some w.heap.size) := by
  obtain ⟨i, z, hi, hz, hz1, hz2, hzs⟩ := ET.info
  obtain ⟨hl, A, cx, rfl, hc⟩ := hs
  rcases A with _ | ad
  · have hn : news = [] := by
      cases news with
      | nil => rfl
      | cons u r => obtain ⟨ad, h, _⟩ := hc 0 u rfl; cases h
    subst hn
    have hm : m = 0 := by
      have hp := ET.pos
      rcases Nat.eq_zero_or_pos m with h | h
      · exact h
      · have := Nat.mul_pos h hp
        simp at hl
        omega
    subst hm
    refine ⟨v, w, ?_, by simpa using hown, .refl _ _, .inl rfl⟩
    rcases hown.2 with ⟨rfl, rfl⟩ | ⟨g, cap, cur, rfl, _, _, hnc, _⟩
    · simp [Builtin.append_, run_underlying ET.und, sizeOf, typeInfo, hi, Builtin.lenOf, Builtin.firstCells]
    · simp [Builtin.append_, run_underlying ET.und, sizeOf, typeInfo, hi, Builtin.lenOf, Builtin.firstCells, hnc, storeCells]
  · have hcells : ∀ j u, news[j]? = some u → w.cell? (ad.add j) = some u := fun j u hj => by
      obtain ⟨ad', h, _, h2⟩ := hc j u hj
      cases h
      exact h2
    obtain ⟨v', w', hr, h2, h3, _, h5⟩ := run_append_own_at (P := P) w B t ty e i z s bytes ET.und hi hz hz1 hz2 hzs ET.pos v n xs hown ad m cx news hl hcells h1 h63 hby hB
    exact ⟨v', w', hr, h2, own_upd_of_grown h3, h5⟩

theorem wp_app {o : Oper} {a : Act} {K : Act → World → Prop} {Q : Exit → Act → World → Prop} (s' x' : Operand) (t : TypeId) (ho : o.op = .call { callee := .builtin .append, args := #[s', x'], argTypes := #[t, t] })
    (ET : Elem P t e s bytes) (v x : Value) (hs : a.eval s' = v) (hx : a.eval x' = x) (hown : w.ownsRow B e s v n xs) (hsrc : Src w s x m news) (h1 : ∀ u ∈ news, u.oneCell' = true) (h63 : n + m ≤ maxLen) (hby : (n + m) * bytes ≤ 140737488355328) (hB : B ≤ w.heap.size)
    (h : ∀ v' w', w'.ownsRow B e s v' (n + m) (xs ++ news) → Upd v.ownBlock.toList w w' → (v'.ownBlock = v.ownBlock ∨ v'.ownBlock = some w.heap.size) → K (a.put o.dst v') w') : o.wp P a w K Q := by
  obtain ⟨v', w', hr, h2, h3, h4⟩ := run_app (P := P) w ET o.type hown hsrc h1 h63 hby hB
  unfold Oper.wp execOp
  simp only [ho, resolve, invoke, builtin, Sem.run_bind, Sem.run_pure, Result.andThen_ok, List.map_toArray, List.map_cons, List.map_nil, hs, hx, hr]
  exact h v' w' h2 h3 h4
/-- In a plain region. -/
theorem wpList_app {ops : Array Oper} {rest : List Oper} {o : Oper} {a : Act} {Q : Exit → Act → World → Prop} (hgd : o.guard = none) (s' x' : Operand) (t : TypeId) (ho : o.op = .call { callee := .builtin .append, args := #[s', x'], argTypes := #[t, t] })
    (ET : Elem P t e s bytes) (v x : Value) (hs : a.eval s' = v) (hx : a.eval x' = x) (hown : w.ownsRow B e s v n xs) (hsrc : Src w s x m news) (h1 : ∀ u ∈ news, u.oneCell' = true) (h63 : n + m ≤ maxLen) (hby : (n + m) * bytes ≤ 140737488355328) (hB : B ≤ w.heap.size)
    (h : ∀ v' w', w'.ownsRow B e s v' (n + m) (xs ++ news) → Upd v.ownBlock.toList w w' → (v'.ownBlock = v.ownBlock ∨ v'.ownBlock = some w.heap.size) → wpList P ops Q rest (a.put o.dst v') w') : wpList P ops Q (o :: rest) a w :=
  wpList_plain hgd fun _ hK => wp_app w s' x' t ho ET v x hs hx hown hsrc h1 h63 hby hB fun v' w' h2 h3 h4 => hK _ _ (h v' w' h2 h3 h4)
/-- At a step of a region that draws its order. -/
theorem step_app {ops : Array Oper} {o : Oper} {a : Act} {K : Act → World → Prop} {Q : Exit → Act → World → Prop} {E : Prop} (hgd : o.guard = none) (s' x' : Operand) (t : TypeId) (ho : o.op = .call { callee := .builtin .append, args := #[s', x'], argTypes := #[t, t] })
    (ET : Elem P t e s bytes) (v x : Value) (hs : a.eval s' = v) (hx : a.eval x' = x) (hown : w.ownsRow B e s v n xs) (hsrc : Src w s x m news) (h1 : ∀ u ∈ news, u.oneCell' = true) (h63 : n + m ≤ maxLen) (hby : (n + m) * bytes ≤ 140737488355328) (hB : B ≤ w.heap.size)
    (h : ∀ v' w', w'.ownsRow B e s v' (n + m) (xs ++ news) → Upd v.ownBlock.toList w w' → (v'.ownBlock = v.ownBlock ∨ v'.ownBlock = some w.heap.size) → K (a.put o.dst v') w') :
    if Region.wanted o (yielded ops a.tmps) = true then Oper.wp P o a w K Q else E := by
  rw [if_pos (by simp [Region.wanted, hgd])]
  exact wp_app w s' x' t ho ET v x hs hx hown hsrc h1 h63 hby hB h
end

section
variable {P : Program} {s n c k bytes : Nat} {t e : TypeId} {A : Option Addr}
/-- x[:k]. -/
theorem cut_head (ET : Elem P t e s bytes) (A : Option Addr) (n c k : Nat) (hk : k ≤ n) (hc : n ≤ c) :
    ∃ X, (∀ W, (Instr.slice t (.slice A n c) none (some (.int .i64 k)) none).run P W = .ok X W) ∧ Value.ownBlock X = Value.ownBlock (.slice A n c) ∧ ∀ W xs, Src W s (.slice A n c) n xs → Src W s X k (xs.take (k * s)) := by
  obtain ⟨i, z, hi, hz, hz1, hz2, hzs⟩ := ET.info
  refine ⟨.slice A k c, fun W => ?_, by cases A <;> rfl, fun W xs h => h.take k hk c⟩
  have h2 : k ≤ c := by omega
  have h3 : (if c = 0 then A else Option.map (fun x => x.add 0) A) = A := by
    have : (fun x : Addr => x.add 0) = id := by funext x; rfl
    rw [this]; simp
  simp [Instr.slice, run_underlying ET.und, Instr.sliceBounds, Instr.sliceBound, asIntOf, h2, sizeOf, typeInfo, hi, h3]
/-- x[k:]. -/
theorem cut_tail (ET : Elem P t e s bytes) (A : Option Addr) (n c k : Nat) (hk : k ≤ n) (hc : n ≤ c) :
    ∃ X, (∀ W, (Instr.slice t (.slice A n c) (some (.int .i64 k)) none none).run P W = .ok X W) ∧ Value.ownBlock X = Value.ownBlock (.slice A n c) ∧ ∀ W xs, Src W s (.slice A n c) n xs → Src W s X (n - k) (xs.drop (k * s)) := by
  obtain ⟨i, z, hi, hz, hz1, hz2, hzs⟩ := ET.info
  refine ⟨.slice (if c = k then A else A.map (·.add (k * s))) (n - k) (c - k), fun W => ?_, ?_, fun W xs h => h.drop k hk hc (c - k)⟩
  · simp [Instr.slice, run_underlying ET.und, Instr.sliceBounds, Instr.sliceBound, asIntOf, sizeOf, typeInfo, hi, hz1]
    omega
  · cases A with
    | none => simp [Value.ownBlock]
    | some a =>
      by_cases h : c = k
      · simp [h, Value.ownBlock]
      · simp [h, Value.ownBlock, block_add]
/-- What a slice literal of no elements makes. -/
theorem own_made {W : World} {H B : Nat} (s : Nat) (h : Blk W H e #[]) (hB : B ≤ H) : W.ownsRow B e s (.slice (some ⟨H, 0, none⟩) 0 0) 0 [] :=
  ⟨by simp, .inr ⟨H, 0, #[], rfl, hB, h, Nat.le_refl _, by simp [maxLen], by simp, by simp⟩⟩
end
end Go.Proofs.YtiahnlaplkeiaaaDoor

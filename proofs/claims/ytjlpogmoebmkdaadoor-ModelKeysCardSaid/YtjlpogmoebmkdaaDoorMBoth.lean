/-
  The program's state and the document's, beside one another; both have the same.
-/
import Derived.Test.YtjlpogmoebmkdaaDoorRMdl5
import Derived.Test.YtjlpogmoebmkdaaDoorMdl7
import Derived.Test.YtjlpogmoebmkdaaDoorNo
import Derived.Test.YtjlpogmoebmkdaaDoorErrV
set_option linter.unusedVariables false
namespace Go.Proofs.YtjlpogmoebmkdaaDoor
open Go.RowKit Assoc MP

abbrev MAct := Int × Int × Int × Int
def stepM (s : MS) (a : MAct) : MS :=
  if a.1 = 1 ∨ a.1 = 2 then (if isC s a.2.1 then mPut s a.2.1.toNat a.2.2.1 a.2.2.2 else s)
  else if a.1 = 3 then (if isC s a.2.1 then mDel s a.2.1.toNat a.2.2.1 else s) else s
theorem Mdl.off {B sb g : Nat} {F : List Nat} {w : World} {s : MS} {t : TypeId} {cs : Array Value} (h : Mdl B sb F w s) (hb : Blk w g t cs) (h1 : t ≠ 75) (h2 : t ≠ 3) (h3 : t ≠ 59) : g ∉ F := by
  obtain ⟨_, vk, gc, cc, ms, rfl, h⟩ := h
  intro hg
  unfold fpM at hg
  simp only [List.mem_cons, List.mem_append, Option.mem_toList] at hg
  rcases hg with rfl | rfl | hg | hg
  · exact (Blk.ne_ hb h.box h1) rfl
  · exact own_type h.c hb h3 rfl
  · exact own_type h.k hb h2 hg
  · obtain ⟨i, hi, rfl⟩ := List.getElem_of_mem hg
    have hi' : i < s.L.length := by rw [← h.mlen]; exact hi
    obtain ⟨m, hm, him⟩ := h.at_ hi'
    rw [List.getElem?_eq_getElem hi] at hm
    injection hm with hm
    subst hm
    exact blk_map hb him rfl
theorem RMdl.off {B rb g : Nat} {F : List Nat} {w : World} {s : MS} {t : TypeId} {cs : Array Value} (h : RMdl B rb F w s) (hb : Blk w g t cs) (h1 : t ≠ 80) (h2 : t ≠ 3) (h3 : t ≠ 27) (h4 : t ≠ 36) : g ∉ F := by
  obtain ⟨_, vk, vl, ms, rfl, h⟩ := h
  intro hg
  unfold fpRM at hg
  simp only [List.mem_cons, List.mem_append, Option.mem_toList] at hg
  rcases hg with rfl | (hg | hg) | hg
  · exact (Blk.ne_ hb h.box h1) rfl
  · exact own_type h.k hb h2 hg
  · exact own_type h.l hb h3 hg
  · obtain ⟨v, hv, hvb⟩ := mem_owns.1 hg
    obtain ⟨l, _, ho⟩ := h.mem hv
    exact own_type ho hb h4 hvb
theorem ErrV.off {w w' : World} {v : Value} {n a : Int} {T : List Nat} (h : ErrV w v n a) (hu : Upd T w w') (hT : ∀ g cs, Blk w g 78 cs → g ∉ T) : ErrV w' v n a := by
  rcases h with h | h | ⟨g, h1, h2, h3, h4⟩
  · exact .inl h
  · exact .inr (.inl h)
  · exact .inr (.inr ⟨g, h1, h2.upd hu (hT g _ h2), h3, h4⟩)
theorem ErrV.byD {B rb : Nat} {G : List Nat} {w w' : World} {d : MS} {v : Value} {n a : Int} (h : ErrV w v n a) (hr : RMdl B rb G w d) (hu : Upd G w w') : ErrV w' v n a :=
  h.off hu fun g cs hb => hr.off hb (by decide) (by decide) (by decide) (by decide)
def MBoth (B sb rb : Nat) (w : World) (s : MS) : Prop := ∃ F G, Mdl B sb F w s ∧ RMdl B rb G w s ∧ Disj F G
section
variable {B sb rb : Nat} {w w' w0 w1 : World} {s s' d d' : MS} {F F' G G' : List Nat}
theorem MBoth.upd0 (h : MBoth B sb rb w s) (hu : Upd [] w w') : MBoth B sb rb w' s := by
  obtain ⟨F, G, h1, h2, h3⟩ := h
  exact ⟨F, G, h1.upd0 hu, h2.upd0 hu, h3⟩
theorem mboth_s (h1 : Mdl B sb F w s) (h2 : RMdl B rb G w d) (h3 : Disj F G) (hf : Frm F F' w w') : RMdl B rb G w' d ∧ Disj F' G :=
  ⟨h2.upd hf.upd h3.symm, hf.disj h3 fun k hk => (h2.lt k hk).2⟩
theorem mboth_d (h1 : Mdl B sb F w s) (h2 : RMdl B rb G w d) (h3 : Disj F G) (hf : Frm G G' w w') : Mdl B sb F w' s ∧ Disj F G' :=
  ⟨h1.upd hf.upd h3, (hf.disj h3.symm fun k hk => (h1.lt k hk).2).symm⟩
theorem mboth_us (h1 : Mdl B sb F w s) (hu : Upd [] w0 w) (hf : Frm F F' w w') (hB : w0.heap.size ≤ B) : Upd [] w0 w' := hf.rest hu fun k hk => Nat.le_trans hB (h1.lt k hk).1
theorem mboth_ud (h1 : RMdl B rb G w d) (hu : Upd [] w0 w) (hf : Frm G G' w w') (hB : w0.heap.size ≤ B) : Upd [] w0 w' := hf.rest hu fun k hk => Nat.le_trans hB (h1.lt k hk).1
theorem frm_same (hu : Upd F w w') : Frm F F w w' := ⟨hu, fun k hk => .inl hk⟩
end
end Go.Proofs.YtjlpogmoebmkdaaDoor

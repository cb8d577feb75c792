/-
  The program's sets and the document's, beside one another.
-/
import Derived.Test.YtbpmkbcpnnpdjaaDoorRefS4
import Derived.Test.YtbpmkbcpnnpdjaaDoorSets6
import Derived.Test.YtbpmkbcpnnpdjaaDoorNo
set_option linter.unusedVariables false
namespace Go.Proofs.YtbpmkbcpnnpdjaaDoor
open Go.RowKit Assoc SP

theorem Sets.off {B sb am wm g : Nat} {F : List Nat} {w : World} {s : SS} {t : TypeId} {cs : Array Value} (h : Sets B sb am wm F w s) (hb : Blk w g t cs) (h1 : t ≠ 62) (h2 : t ≠ 47) (h3 : t ≠ 75) (h4 : t ≠ 3) : g ∉ F := by
  obtain ⟨_, vr, vl, vk, rfl, h⟩ := h
  intro hg
  unfold fpS at hg
  simp only [List.mem_cons, List.mem_append, Option.mem_toList] at hg
  rcases hg with rfl | rfl | rfl | (hg | hg) | hg
  · exact (Blk.ne_ hb h.box h1) rfl
  · exact blk_map hb h.a rfl
  · exact blk_map hb h.m rfl
  · exact own_type h.r hb h2 hg
  · exact own_type h.l hb h3 hg
  · exact own_type h.k hb h4 hg
theorem RefS.off {B rb g : Nat} {F : List Nat} {w : World} {d : DS} {t : TypeId} {cs : Array Value} (h : RefS B rb F w d) (hb : Blk w g t cs) (h1 : t ≠ 37) (h2 : t ≠ 47) (h3 : t ≠ 55) (h4 : t ≠ 26) : g ∉ F := by
  obtain ⟨_, vr, vw, vm, ms, rfl, h⟩ := h
  intro hg
  unfold fpD at hg
  simp only [List.mem_cons, List.mem_append, Option.mem_toList] at hg
  rcases hg with rfl | ((hg | hg) | hg) | hg
  · exact (Blk.ne_ hb h.box h1) rfl
  · exact own_type h.r hb h2 hg
  · exact own_type h.ww hb h3 hg
  · exact own_type h.m hb h4 hg
  · obtain ⟨v, hv, hvb⟩ := mem_owns.1 hg
    obtain ⟨l, _, ho⟩ := h.mem hv
    exact own_type ho hb h3 hvb
theorem ErrV.off {w w' : World} {v : Value} {n a : Int} {T : List Nat} (h : ErrV w v n a) (hu : Upd T w w') (hT : ∀ g cs, Blk w g 83 cs → g ∉ T) : ErrV w' v n a := by
  rcases h with h | h | ⟨g, h1, h2, h3, h4⟩
  · exact .inl h
  · exact .inr (.inl h)
  · exact .inr (.inr ⟨g, h1, h2.upd hu (hT g _ h2), h3, h4⟩)
theorem ErrV.byD {B rb : Nat} {G : List Nat} {w w' : World} {d : DS} {v : Value} {n a : Int} (h : ErrV w v n a) (hr : RefS B rb G w d) (hu : Upd G w w') : ErrV w' v n a :=
  h.off hu fun g cs hb => hr.off hb (by decide) (by decide) (by decide) (by decide)
/-- The program's sets and the document's: no block of both. -/
def Both (B sb am wm rb : Nat) (w : World) (s : SS) (d : DS) : Prop := ∃ F G, Sets B sb am wm F w s ∧ RefS B rb G w d ∧ Disj F G
section
variable {B sb am wm rb : Nat} {w w' w0 w1 : World} {s s' : SS} {d d' : DS} {F F' G G' : List Nat} {t : TypeId} {cs : Array Value} {g : Nat}
theorem Both.upd0 (h : Both B sb am wm rb w s d) (hu : Upd [] w w') : Both B sb am wm rb w' s d := by
  obtain ⟨F, G, h1, h2, h3⟩ := h
  exact ⟨F, G, h1.upd0 hu, h2.upd0 hu, h3⟩
theorem both_s (h1 : Sets B sb am wm F w s) (h2 : RefS B rb G w d) (h3 : Disj F G) (hs : Sets B sb am wm F' w' s') (hf : Frm F F' w w') : RefS B rb G w' d ∧ Disj F' G :=
  ⟨h2.upd hf.upd h3.symm, hf.disj h3 fun k hk => (h2.lt k hk).2⟩
theorem both_d (h1 : Sets B sb am wm F w s) (h2 : RefS B rb G w d) (h3 : Disj F G) (hs : RefS B rb G' w' d') (hf : Frm G G' w w') : Sets B sb am wm F w' s ∧ Disj F G' :=
  ⟨h1.upd hf.upd h3, (hf.disj h3.symm fun k hk => (h1.lt k hk).2).symm⟩
theorem both_us (h1 : Sets B sb am wm F w s) (hu : Upd [] w0 w) (hf : Frm F F' w w') (hB : w0.heap.size ≤ B) : Upd [] w0 w' := hf.rest hu fun k hk => Nat.le_trans hB (h1.lt k hk).1
theorem both_ud (h1 : RefS B rb G w d) (hu : Upd [] w0 w) (hf : Frm G G' w w') (hB : w0.heap.size ≤ B) : Upd [] w0 w' := hf.rest hu fun k hk => Nat.le_trans hB (h1.lt k hk).1
end
end Go.Proofs.YtbpmkbcpnnpdjaaDoor

/-
 concordref08.State: Put.
 The program's state and the document's, beside one another; both have the same.
-/
import Derived.Test.YtmjnmpifibemjaaGreatDoorJoB13
import Derived.Test.YtmjnmpifibemjaaGreatDoorJoB9
import Derived.Test.YtmjnmpifibemjaaGreatDoorJoB2
set_option linter.unusedVariables false
namespace Go.Proofs.YtmjnmpifibemjaaGreatDoor
open Go.RowKit Assoc MP
attribute [local go_sem] litStep_value

end Go.Proofs.YtmjnmpifibemjaaGreatDoor

namespace Go.Proofs.YtmjnmpifibemjaaGreatDoor
open Go.RowKit Assoc MP

theorem Mdl.off {B sb g : Nat} {F : List Nat} {w : World} {s : MS} {t : TypeId} {cs : Array Value} (h : Mdl B sb F w s) (hb : Blk w g t cs) (h1 : t ≠ 148) (h2 : t ≠ 3) (h3 : t ≠ 149) : g ∉ F := by
 obtain ⟨_, vk, gc, cc, ms, rfl, h⟩ := h
 intro hg
 unfold fpM at hg
 simp only [List.mem_cons, List.mem_append, Option.mem_toList] at hg
 rcases hg with rfl | rfl | hg | hg
 ·exact (Blk.ne_ hb h.box h1) rfl
 ·exact own_type h.c hb h3 rfl
 ·exact own_type h.k hb h2 hg
 ·obtain ⟨i, hi, rfl⟩ := List.getElem_of_mem hg
  have hi' : i < s.L.length := by rw [← h.mlen]; exact hi
  obtain ⟨m, hm, him⟩ := h.at_ hi'
  rw [List.getElem?_eq_getElem hi] at hm
  injection hm with hm
  subst hm
  exact blk_map hb him rfl
theorem RMdl.off {B rb g : Nat} {F : List Nat} {w : World} {s : MS} {t : TypeId} {cs : Array Value} (h : RMdl B rb F w s) (hb : Blk w g t cs) (h1 : t ≠ 65) (h2 : t ≠ 3) (h3 : t ≠ 103) (h4 : t ≠ 157) : g ∉ F := by
 obtain ⟨_, vk, vl, ms, rfl, h⟩ := h
 intro hg
 unfold fpRM at hg
 simp only [List.mem_cons, List.mem_append, Option.mem_toList] at hg
 rcases hg with rfl | (hg | hg) | hg
 ·exact (Blk.ne_ hb h.box h1) rfl
 ·exact own_type h.k hb h2 hg
 ·exact own_type h.l hb h3 hg
 ·obtain ⟨v, hv, hvb⟩ := mem_owns.1 hg
  obtain ⟨l, _, ho⟩ := h.mem hv
  exact own_type ho hb h4 hvb
theorem ErrV.off {w w' : World} {v : Value} {n a : Int} {T : List Nat} (h : ErrV w v n a) (hu : Upd T w w') (hT : ∀ g cs, Blk w g 100 cs → g ∉ T) : ErrV w' v n a := by
 rcases h with h | h | ⟨g, h1, h2, h3, h4⟩
 ·exact .inl h
 ·exact .inr (.inl h)
 ·exact .inr (.inr ⟨g, h1, h2.upd hu (hT g _ h2), h3, h4⟩)
def MBoth (B sb rb : Nat) (w : World) (s : MS) : Prop := ∃ F G, Mdl B sb F w s ∧ RMdl B rb G w s ∧ Disj F G
section
variable {B sb rb : Nat} {w w' w0 w1 : World} {s s' d d' : MS} {F F' G G' : List Nat}
theorem MBoth.upd0 (h : MBoth B sb rb w s) (hu : Upd [] w w') : MBoth B sb rb w' s := by
 obtain ⟨F, G, h1, h2, h3⟩ := h
 exact ⟨F, G, h1.upd0 hu, h2.upd0 hu, h3⟩
end
end Go.Proofs.YtmjnmpifibemjaaGreatDoor

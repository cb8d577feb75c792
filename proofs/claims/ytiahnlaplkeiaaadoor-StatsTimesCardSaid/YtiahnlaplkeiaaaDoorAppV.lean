/-
  append, and slice literals, as operations of a drawn region. No program in sight.
-/
import Derived.Test.YtiahnlaplkeiaaaDoorDrawK
set_option linter.unusedVariables false
namespace Go.Proofs.YtiahnlaplkeiaaaDoor
open Go Go.RowKit

section
variable {P : Program} {ops : Array Oper} {Q : Exit → Act → World → Prop} {o : Oper} {l : List Oper} {j s : Nat} {A : Act} {G : List (Nat × Value)}
variable {S : List Nat} {w0 : World} {Kx : Nat → World → Prop} {L : List (Nat × Spec)} {C : List (Nat × List Nat)} {CH : List Nat} {nb : Nat} {tl : List Oper}
theorem outV_own {w w' : World} {v v' : Value} {B N sz : Nat} {e : TypeId} {XS : List Value} (hch : CH.contains j = false) (hsp : specOf L j = .own B e sz N XS) (hu : usedV (mkI S w0 Kx L C CH nb tl) j G = v.ownBlock.toList)
    (o' : w'.ownsRow B e sz v' N XS) (u' : Upd v.ownBlock.toList w w') (b' : v'.ownBlock = v.ownBlock ∨ v'.ownBlock = some w.heap.size) : outV (mkI S w0 Kx L C CH nb tl) j s G w v' w' := by
  refine ⟨?_, fun b hb => ?_, ?_, fun h => ?_⟩
  · show (specOf L j).R _ _
    rw [hsp]; exact o'
  · have hb' : b ∈ (specOf L j).fp v' := hb
    rw [hsp] at hb'
    have hb2 : v'.ownBlock = some b := by simpa [Spec.own] using hb'
    rw [hu]
    rcases b' with e1 | e1
    · left
      rw [← e1, hb2]; simp
    · right
      rw [e1] at hb2
      injection hb2 with hb2
      subst hb2
      exact ⟨Nat.le_refl _, (own_lt o' e1).2⟩
  · show Upd (if CH.contains j = true then _ else _) _ _
    rw [hch, hu]
    exact u'
  · have : CH.contains j = true := h
    rw [hch] at this
    cases this
/-- append. -/
theorem wpV_app {w : World} {K : Act → World → Prop} {B N n m sz bytes : Nat} {e : TypeId} {XS xs news : List Value}
    (hK : Hid (∀ v w', outV (mkI S w0 Kx L C CH nb tl) j s G w v w' → K (A.put o.dst v) w')) (s' x' : Operand) (t : TypeId) (ho : o.op = .call { callee := .builtin .append, args := #[s', x'], argTypes := #[t, t] })
    (ET : Elem P t e sz bytes) (v x : Value) (hs : A.eval s' = v) (hx : A.eval x' = x) (hch : CH.contains j = false) (hsp : specOf L j = .own B e sz N XS) (hu : usedV (mkI S w0 Kx L C CH nb tl) j G = v.ownBlock.toList)
    (hown : w.ownsRow B e sz v n xs) (hsrc : Src w sz x m news) (hN : N = n + m) (hXS : XS = xs ++ news) (h1 : ∀ u ∈ news, u.oneCell' = true) (h63 : n + m ≤ maxLen) (hby : (n + m) * bytes ≤ 140737488355328) (hB : B ≤ w.heap.size) : o.wp P A w K Q := by
  subst hN hXS
  refine wp_app w s' x' t ho ET v x hs hx hown hsrc h1 h63 hby hB ?_
  intro v' w' o' u' b'
  exact hK.out v' w' (outV_own hch hsp hu o' u' b')
/-- A slice literal of no elements, to be appended to. -/
theorem wpV_made {w : World} {K : Act → World → Prop} {B sz H : Nat} {e : TypeId} {d : Option Tmp} (hK : Hid (∀ v w', outV (mkI S w0 Kx L C CH nb tl) j s G w v w' → K (A.put d v) w')) (hch : CH.contains j = false) (hsp : specOf L j = .own B e sz 0 []) (hu : usedV (mkI S w0 Kx L C CH nb tl) j G = [])
    (hH : w.heap.size = H) (hB : B ≤ w.heap.size) : K (A.put d (.slice (some ⟨H, 0, none⟩) 0 0)) (w.alloc (.cells #[] e)) := by
  subst hH
  refine hK.out _ _ (outV_own (v := undef) hch hsp (by rw [hu]; rfl) (own_made sz (Blk.new w e #[]) hB) ((Upd.refl _ w).alloc _) (.inr rfl))
end
end Go.Proofs.YtiahnlaplkeiaaaDoor

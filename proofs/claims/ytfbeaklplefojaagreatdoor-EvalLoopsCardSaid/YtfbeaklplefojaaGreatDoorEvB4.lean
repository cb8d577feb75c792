/-
  The rule for drawn regions, as walks use it. No program in sight.
  append, and slice literals, as operations of a drawn region. No program in sight.
  model.State: what it keeps; coll, Get, Size, Kinds.
  model.State: Get, Size, Put, Del.
-/
import Derived.Test.YtfbeaklplefojaaGreatDoorEvBsDraw3
import Derived.Test.YtfbeaklplefojaaGreatDoorEvB0
import Derived.Test.YtfbeaklplefojaaGreatDoorEvB1
import Derived.OwnWalk
set_option linter.unusedVariables false
namespace Go.Proofs.YtfbeaklplefojaaGreatDoor
open Go Go.RowKit

/-- What is said of the value of an operation: the blocks it owns, and a fact that lasts. -/
structure Spec where
  fp : Value → List Nat
  R : Value → World → Prop
  adm : Value → Prop
namespace Spec
def any : Spec := ⟨fun _ => [], fun _ _ => True, fun _ => True⟩
def det (v0 : Value) : Spec := ⟨fun _ => [], fun v _ => v = v0, fun v => v = v0⟩
/-- Any fact of the value alone. -/
def val (F : Value → Prop) : Spec := ⟨fun _ => [], fun v _ => F v, F⟩
def own (B : Nat) (e : TypeId) (s n : Nat) (xs : List Value) : Spec := ⟨fun v => v.ownBlock.toList, fun v w => w.ownsRow B e s v n xs, fun v => ∃ A c, v = .slice A n c ∧ n ≤ c ∧ c ≤ maxLen⟩
def src (s m : Nat) (news : List Value) : Spec := ⟨fun v => v.ownBlock.toList, fun v w => Src w s v m news, fun v => ∃ A c, v = .slice A m c⟩
def ptrBlocks : Value → List Nat
  | .pointer (some a) => [a.block]
  | .iface _ (.pointer (some a)) => [a.block]
  | _ => []
/-- A pointer to a new block. -/
def box (t : TypeId) (cs : Array Value) : Spec := ⟨ptrBlocks, fun v w => ∃ g, v = .pointer (some ⟨g, 0, none⟩) ∧ Blk w g t cs, fun v => ∃ g, v = .pointer (some ⟨g, 0, none⟩)⟩
/-- A slice of a new block, known whole. -/
def lit (t : TypeId) (cs : Array Value) (n : Nat) : Spec := ⟨fun v => v.ownBlock.toList, fun v w => ∃ g, v = .slice (some ⟨g, 0, none⟩) n n ∧ Blk w g t cs, fun v => ∃ g, v = .slice (some ⟨g, 0, none⟩) n n⟩
end Spec
structure Lasts (S : List Nat) (w0 : World) (s : Spec) : Prop where
  lasts : ∀ v (w w' : World) T, Upd S w0 w → s.R v w → Upd T w w' → (∀ b ∈ T, b ∉ s.fp v) → (∀ b ∈ T, b ∈ S ∨ w0.heap.size ≤ b) → s.R v w'
  wit : ∃ v, s.adm v
  adm : ∀ v w, s.R v w → s.adm v
section
variable {S : List Nat} {w0 : World}
theorem lasts_any : Lasts S w0 .any := ⟨fun _ _ _ _ _ _ _ _ _ => trivial, ⟨undef, trivial⟩, fun _ _ _ => trivial⟩
theorem lasts_det (v0 : Value) : Lasts S w0 (.det v0) := ⟨fun _ _ _ _ _ h _ _ _ => h, ⟨v0, rfl⟩, fun _ _ h => h⟩
theorem lasts_val (F : Value → Prop) (hF : ∃ v, F v) : Lasts S w0 (.val F) := ⟨fun _ _ _ _ _ h _ _ _ => h, hF, fun _ _ h => h⟩
theorem lasts_own (B : Nat) (e : TypeId) (s n : Nat) (xs : List Value) (hn : n ≤ maxLen) : Lasts S w0 (.own B e s n xs) := ⟨fun v w w' T _ h hu hT _ =>
  own_upd h hu fun b hb hm => hT b hm (by simp [Spec.own, hb]), ⟨_, none, n, rfl, Nat.le_refl _, hn⟩, fun _ _ h => own_slice h⟩
theorem lasts_src (s m : Nat) (news : List Value) : Lasts S w0 (.src s m news) := ⟨fun v w w' T _ h hu hT _ =>
  Src.upd h hu fun b hb hm => hT b hm (by simp [Spec.src, hb]), ⟨_, none, m, rfl⟩, fun _ _ h => let ⟨_, A, c, e, _⟩ := h; ⟨A, c, e⟩⟩
theorem lasts_lit (t : TypeId) (cs : Array Value) (n : Nat) : Lasts S w0 (.lit t cs n) := ⟨fun v w w' T _ h hu hT _ => by
  obtain ⟨g, rfl, hb⟩ := h
  exact ⟨g, rfl, hb.upd hu fun hm => hT g hm (by simp [Spec.lit, Value.ownBlock])⟩, ⟨_, 0, rfl⟩, fun _ _ ⟨g, e, _⟩ => ⟨g, e⟩⟩
theorem lasts_box (t : TypeId) (cs : Array Value) : Lasts S w0 (.box t cs) := ⟨fun v w w' T _ h hu hT _ => by
  obtain ⟨g, rfl, hb⟩ := h
  exact ⟨g, rfl, hb.upd hu fun hm => hT g hm (by simp [Spec.box, Spec.ptrBlocks])⟩, ⟨_, 0, rfl⟩, fun _ _ ⟨g, e, _⟩ => ⟨g, e⟩⟩
end
theorem Blk.newAt {W : World} {H : Nat} (t : TypeId) (cs : Array Value) (h : W.heap.size = H) : Blk (W.alloc (.cells cs t)) H t cs := h ▸ Blk.new W t cs
theorem Src.newAt {W : World} {H : Nat} {t : TypeId} {cs : Array Value} {s m : Nat} (h : W.heap.size = H) (c : Nat) (hl : cs.size = m * s) : Src (W.alloc (.cells cs t)) s (.slice (some ⟨H, 0, none⟩) m c) m cs.toList := .of_blk (Blk.newAt t cs h) c hl

def specOf : List (Nat × Spec) → Nat → Spec
  | [], _ => .any
  | (i, s) :: L, j => if j = i then s else specOf L j
def conOf : List (Nat × List Nat) → Nat → List Nat
  | [], _ => []
  | (i, s) :: L, j => if j = i then s else conOf L j
def LastsAll (S : List Nat) (w0 : World) : List (Nat × Spec) → Prop
  | [] => True
  | (_, s) :: L => Lasts S w0 s ∧ LastsAll S w0 L
theorem lastsAll_of {S : List Nat} {w0 : World} : ∀ (L : List (Nat × Spec)), LastsAll S w0 L → ∀ j, Lasts S w0 (specOf L j)
  | [], _, _ => lasts_any
  | (i, s) :: L, h, j => by
    unfold specOf
    split
    · exact h.1
    · exact lastsAll_of L h.2 j
def mkI (S : List Nat) (w0 : World) (K : Nat → World → Prop) (L : List (Nat × Spec)) (C : List (Nat × List Nat)) (CH : List Nat) (nb : Nat) (tl : List Oper) : Inv :=
  { nb := nb, tl := tl, S := S, w0 := w0, K := K, R := fun j => (specOf L j).R, adm := fun j => (specOf L j).adm, fp := fun j => (specOf L j).fp, con := conOf C, ch := fun j => CH.contains j }

section
variable {P : Program} {ops : Array Oper} {I : Inv} {Q : Exit → Act → World → Prop} {o : Oper} {l : List Oper} {j s : Nat} {A : Act} {G : List (Nat × Value)}
/-- With calls that turn old blocks, and with operations behind all others. -/
theorem wp_invT {id : Nat} {a : Act} {w : World} (nb : Nat) (S : List Nat) (K : Nat → World → Prop) (L : List (Nat × Spec)) (C : List (Nat × List Nat)) (CH : List Nat) (hm : P.follows .mixedOrders = true) (hnb : nb ≤ l.length) (hc : invB l.toArray (conOf C) (fun j => CH.contains j) = true) (htb : tailB l.toArray nb = true)
    (hS : ∀ b ∈ S, b < w.heap.size) (hL : LastsAll S w.drew L) (hK : ∀ s (w1 w' : World) T, K s w1 → Upd T w1 w' → (∀ b ∈ T, w.heap.size ≤ b) → K s w') (hK0 : K 0 w.drew)
    (h : wpV P l.toArray (mkI S w.drew K L C CH nb (l.drop nb)) (NoPanic Q) (l.take nb) 0 0 a []) : (Code.region id l.toArray true).wp P Q a w :=
  wp_inv (mkI S w.drew K L C CH nb (l.drop nb)) hm rfl hnb rfl hc htb hS (fun j v w1 w' T a b c d e _ => (lastsAll_of L hL j).lasts v w1 w' T a b c d e) hK hK0 (fun j => (lastsAll_of L hL j).wit) (fun j v w1 => (lastsAll_of L hL j).adm v w1) h
theorem tailB_all (l : List Oper) (h : floatsOk l.toArray (floats l.toArray) (Array.replicate l.toArray.size false) = true) : tailB l.toArray l.length = true := by
  unfold tailB
  rw [Bool.and_eq_true]
  refine ⟨h, ?_⟩
  rw [List.all_eq_true]
  intro j hj
  have := List.mem_range.1 hj
  simp at this
  simp [this]
/-- With calls that turn old blocks. -/
theorem wp_invK {id : Nat} {a : Act} {w : World} (S : List Nat) (K : Nat → World → Prop) (L : List (Nat × Spec)) (C : List (Nat × List Nat)) (CH : List Nat) (hm : P.follows .mixedOrders = true) (hc : invB l.toArray (conOf C) (fun j => CH.contains j) = true) (hfo : floatsOk l.toArray (floats l.toArray) (Array.replicate l.toArray.size false) = true)
    (hS : ∀ b ∈ S, b < w.heap.size) (hL : LastsAll S w.drew L) (hK : ∀ s (w1 w' : World) T, K s w1 → Upd T w1 w' → (∀ b ∈ T, w.heap.size ≤ b) → K s w') (hK0 : K 0 w.drew)
    (h : wpV P l.toArray (mkI S w.drew K L C CH l.length []) (NoPanic Q) l 0 0 a []) : (Code.region id l.toArray true).wp P Q a w :=
  wp_invT l.length S K L C CH hm (Nat.le_refl _) hc (tailB_all l hfo) hS hL hK hK0 (by rw [List.take_length, List.drop_length]; exact h)
/-- Nothing that was there turns. -/
theorem wp_invN {id : Nat} {a : Act} {w : World} (L : List (Nat × Spec)) (C : List (Nat × List Nat)) (hm : P.follows .mixedOrders = true) (hc : invB l.toArray (conOf C) (fun j => ([] : List Nat).contains j) = true) (hfo : floatsOk l.toArray (floats l.toArray) (Array.replicate l.toArray.size false) = true) (hL : LastsAll [] w.drew L)
    (h : wpV P l.toArray (mkI [] w.drew (fun _ _ => True) L C [] l.length []) (NoPanic Q) l 0 0 a []) : (Code.region id l.toArray true).wp P Q a w :=
  wp_invK [] (fun _ _ => True) L C [] hm hc hfo (by simp) hL (fun _ _ _ _ _ _ _ => trivial) trivial h
/-- The same, with operations behind all others. -/
theorem wp_invNT {id : Nat} {a : Act} {w : World} (nb : Nat) (L : List (Nat × Spec)) (C : List (Nat × List Nat)) (hm : P.follows .mixedOrders = true) (hnb : nb ≤ l.length) (hc : invB l.toArray (conOf C) (fun j => ([] : List Nat).contains j) = true) (htb : tailB l.toArray nb = true) (hL : LastsAll [] w.drew L)
    (h : wpV P l.toArray (mkI [] w.drew (fun _ _ => True) L C [] nb (l.drop nb)) (NoPanic Q) (l.take nb) 0 0 a []) : (Code.region id l.toArray true).wp P Q a w :=
  wp_invT nb [] (fun _ _ => True) L C [] hm hnb hc htb (by simp) hL (fun _ _ _ _ _ _ _ => trivial) trivial h
/-- Where no operation turns a block that was there, nor uses one up: facts need last only where nothing turns. -/
structure Lasts0 (w0 : World) (s : Spec) : Prop where
  lasts : ∀ v (w w' : World), Upd [] w0 w → s.R v w → Upd [] w w' → s.R v w'
  wit : ∃ v, s.adm v
  adm : ∀ v w, s.R v w → s.adm v
def LastsAll0 (w0 : World) : List (Nat × Spec) → Prop
  | [] => True
  | (_, s) :: L => Lasts0 w0 s ∧ LastsAll0 w0 L
theorem lasts0_of {w0 : World} {s : Spec} (h : Lasts [] w0 s) : Lasts0 w0 s := ⟨fun v w w' a b c => h.lasts v w w' [] a b c (by simp) (by simp), h.wit, h.adm⟩
theorem lastsAll0_of {w0 : World} : ∀ (L : List (Nat × Spec)), LastsAll0 w0 L → ∀ j, Lasts0 w0 (specOf L j)
  | [], _, _ => lasts0_of lasts_any
  | (i, s) :: L, h, j => by
    unfold specOf
    split
    · exact h.1
    · exact lastsAll0_of L h.2 j
theorem wp_invNT0 {id : Nat} {a : Act} {w : World} (nb : Nat) (L : List (Nat × Spec)) (hm : P.follows .mixedOrders = true) (hnb : nb ≤ l.length) (hc : invB l.toArray (conOf []) (fun j => ([] : List Nat).contains j) = true) (htb : tailB l.toArray nb = true) (hL : LastsAll0 w.drew L)
    (h : wpV P l.toArray (mkI [] w.drew (fun _ _ => True) L [] [] nb (l.drop nb)) (NoPanic Q) (l.take nb) 0 0 a []) : (Code.region id l.toArray true).wp P Q a w :=
  wp_inv (mkI [] w.drew (fun _ _ => True) L [] [] nb (l.drop nb)) hm rfl hnb rfl hc htb (by simp [mkI]) (fun j v w1 w' T a1 b1 c1 d1 e1 f1 => by
    obtain rfl := f1 (fun j => ⟨rfl, rfl⟩)
    exact (lastsAll0_of L hL j).lasts v w1 w' a1 b1 c1) (fun _ _ _ _ _ _ _ => trivial) trivial (fun j => (lastsAll0_of L hL j).wit) (fun j v w1 => (lastsAll0_of L hL j).adm v w1) h
theorem wpT_op {a : Act} {w : World} (hw : Region.wanted o (yielded ops a.tmps) = true) (h : ∀ K : Act → World → Prop, Hid (∀ a' w', wpT P ops Q l a' w' → K a' w') → o.wp P a w K Q) : wpT P ops Q (o :: l) a w := by
  unfold wpT
  rw [if_pos hw]
  exact h _ (Lib.hid fun _ _ h => h)
theorem wpT_skip {a : Act} {w : World} (hw : Region.wanted o (yielded ops a.tmps) = false) (h : wpT P ops Q l (a.put o.dst undef) w) : wpT P ops Q (o :: l) a w := by
  unfold wpT
  rw [if_neg (by rw [hw]; simp)]
  exact h
theorem wpT_end {a : Act} {w : World} (h : Q .normal a w) : wpT P ops (NoPanic Q) [] a w := h

theorem wpV_light {v : Value} (hl : lightOp o.op = true) (h1 : ∀ w, Upd I.S I.w0 w → Hid (factsV I (availB ops I.con j) G w) → if Region.wanted o (yielded ops A.tmps) then litStep ((execOp A.eval o).run P w) w (fun x => x = v) else v = undef)
    (h2 : wpV P ops I Q l (j + 1) s (A.put o.dst v) G) : wpV P ops I Q (o :: l) j s A G := by
  unfold wpV
  rw [if_pos hl]
  exact ⟨v, fun w hu hf => h1 w hu (Lib.hid hf), h2⟩
theorem wpV_skip (hw : Region.wanted o (yielded ops A.tmps) = false) (hl : lightOp o.op = true) (h2 : wpV P ops I Q l (j + 1) s (A.put o.dst undef) G) : wpV P ops I Q (o :: l) j s A G := by
  unfold wpV
  rw [if_pos hl]
  exact ⟨undef, fun w _ _ => by rw [hw]; rfl, h2⟩
theorem wpV_heavy (hl : lightOp o.op = false) (hw : Region.wanted o (yielded ops A.tmps) = true)
    (h1 : ∀ w, Upd I.S I.w0 w → (I.ch j = true → I.K s w) → Hid (factsV I (availB ops I.con j) G w) → ∀ K : Act → World → Prop, Hid (∀ v w', outV I j s G w v w' → K (A.put o.dst v) w') → o.wp P A w K Q)
    (h2 : ∀ v, I.adm j v → wpV P ops I Q l (j + 1) (if I.ch j then s + 1 else s) (A.put o.dst v) (G ++ [(j, v)])) : wpV P ops I Q (o :: l) j s A G := by
  unfold wpV
  rw [if_neg (by rw [hl]; simp)]
  refine ⟨fun w hu hk hf => ?_, h2⟩
  rw [if_pos hw]
  exact h1 w hu hk (Lib.hid hf) _ (Lib.hid fun v w' h => ⟨v, rfl, h⟩)
/-- A slice literal. -/
theorem wpV_lit {S : List Nat} {w0 : World} {Kx : Nat → World → Prop} {L : List (Nat × Spec)} {C : List (Nat × List Nat)} {CH : List Nat} {nb : Nat} {tl : List Oper} {t : TypeId} {cs : Array Value} {n H : Nat} {w : World} {K : Act → World → Prop} {A : Act} {d : Option Tmp}
    (hK : Hid (∀ v w', outV (mkI S w0 Kx L C CH nb tl) j s G w v w' → K (A.put d v) w')) (hch : CH.contains j = false) (hs : specOf L j = .lit t cs n) (hH : w.heap.size = H) : K (A.put d (.slice (some ⟨H, 0, none⟩) n n)) (w.alloc (.cells cs t)) := by
  subst hH
  refine hK.out _ _ ⟨?_, fun b hb => ?_, ?_, fun h => ?_⟩
  · show (specOf L j).R _ _
    rw [hs]
    exact ⟨_, rfl, Blk.new _ _ _⟩
  · have hb' : b ∈ (specOf L j).fp (.slice (some ⟨w.heap.size, 0, none⟩) n n) := hb
    rw [hs] at hb'
    simp [Spec.lit, Value.ownBlock] at hb'
    subst hb'
    exact .inr ⟨Nat.le_refl _, by simp⟩
  · show Upd (if CH.contains j = true then _ else _) _ _
    rw [hch]
    exact ((Upd.refl [] w).alloc _).mono (by simp)
  · have : CH.contains j = true := h
    rw [hch] at this
    cases this
theorem wpV_heavySkip (hl : lightOp o.op = false) (hw : Region.wanted o (yielded ops A.tmps) = false) (h1 : ∀ w, Upd I.S I.w0 w → (I.ch j = true → I.K s w) → outV I j s G w undef w)
    (h2 : ∀ v, I.adm j v → wpV P ops I Q l (j + 1) (if I.ch j then s + 1 else s) (A.put o.dst v) (G ++ [(j, v)])) : wpV P ops I Q (o :: l) j s A G := by
  unfold wpV
  rw [if_neg (by rw [hl]; simp)]
  refine ⟨fun w hu hk hf => ?_, h2⟩
  rw [hw]
  exact h1 w hu hk
theorem wpV_end (h : ∀ w, Upd I.S I.w0 w → I.K s w → Hid (factsV I (endB ops I.con) G w) → wpT P ops Q I.tl A w) : wpV P ops I Q [] j s A G := fun w hu hk hf => h w hu hk (Lib.hid hf)
/-- What an operation leaves that turns nothing and uses nothing up. -/
theorem outV_new {w w' : World} {v : Value} (hch : I.ch j = false) (hr : I.R j v w') (hfp : ∀ b ∈ I.fp j v, w.heap.size ≤ b ∧ b < w'.heap.size) (hu : Upd [] w w') : outV I j s G w v w' :=
  ⟨hr, fun b hb => .inr (hfp b hb), by rw [hch]; exact hu.mono (by simp), by rw [hch]; simp⟩
end
end Go.Proofs.YtfbeaklplefojaaGreatDoor

namespace Go.Proofs.YtfbeaklplefojaaGreatDoor
open Go Go.RowKit

section
variable {P : Program} {ops : Array Oper} {Q : Exit → Act → World → Prop} {o : Oper} {l : List Oper} {j s : Nat} {A : Act} {G : List (Nat × Value)}
variable {S : List Nat} {w0 : World} {Kx : Nat → World → Prop} {L : List (Nat × Spec)} {C : List (Nat × List Nat)} {CH : List Nat} {nb : Nat} {tl : List Oper}
theorem outV_own {w w' : World} {v v' : Value} {B N sz : Nat} {e : TypeId} {XS : List Value} (hch : CH.contains j = false) (hsp : specOf L j = .own B e sz N XS) (hu : usedV (mkI S w0 Kx L C CH nb tl) j G = v.ownBlock.toList)
    (o' : w'.ownsRow B e sz v' N XS) (u' : Upd v.ownBlock.toList w w') (b' : v'.ownBlock = v.ownBlock ∨ v'.ownBlock = some w.heap.size) : outV (mkI S w0 Kx L C CH nb tl) j s G w v' w' := by
  refine ⟨?_, fun b hb => ?_, ?_, fun h => ?_⟩
  · show (specOf L j).R _ _
    rw [hsp]; exact o'
  · have hb' : b ∈ (specOf L j).fp v' := hb
    rw [hsp] at hb'
    have hb2 : v'.ownBlock = some b := by simpa [Spec.own] using hb'
    rw [hu]
    rcases b' with e1 | e1
    · left
      rw [← e1, hb2]; simp
    · right
      rw [e1] at hb2
      injection hb2 with hb2
      subst hb2
      exact ⟨Nat.le_refl _, (own_lt o' e1).2⟩
  · show Upd (if CH.contains j = true then _ else _) _ _
    rw [hch, hu]
    exact u'
  · have : CH.contains j = true := h
    rw [hch] at this
    cases this
/-- append. -/
theorem wpV_app {w : World} {K : Act → World → Prop} {B N n m sz bytes : Nat} {e : TypeId} {XS xs news : List Value}
    (hK : Hid (∀ v w', outV (mkI S w0 Kx L C CH nb tl) j s G w v w' → K (A.put o.dst v) w')) (s' x' : Operand) (t : TypeId) (ho : o.op = .call { callee := .builtin .append, args := #[s', x'], argTypes := #[t, t] })
    (ET : Elem P t e sz bytes) (v x : Value) (hs : A.eval s' = v) (hx : A.eval x' = x) (hch : CH.contains j = false) (hsp : specOf L j = .own B e sz N XS) (hu : usedV (mkI S w0 Kx L C CH nb tl) j G = v.ownBlock.toList)
    (hown : w.ownsRow B e sz v n xs) (hsrc : Src w sz x m news) (hN : N = n + m) (hXS : XS = xs ++ news) (h1 : ∀ u ∈ news, u.oneCell' = true) (h63 : n + m ≤ maxLen) (hby : (n + m) * bytes ≤ 140737488355328) (hB : B ≤ w.heap.size) : o.wp P A w K Q := by
  subst hN hXS
  refine wp_app w s' x' t ho ET v x hs hx hown hsrc h1 h63 hby hB ?_
  intro v' w' o' u' b'
  exact hK.out v' w' (outV_own hch hsp hu o' u' b')
/-- A slice literal of no elements, to be appended to. -/
theorem wpV_made {w : World} {K : Act → World → Prop} {B sz H : Nat} {e : TypeId} {d : Option Tmp} (hK : Hid (∀ v w', outV (mkI S w0 Kx L C CH nb tl) j s G w v w' → K (A.put d v) w')) (hch : CH.contains j = false) (hsp : specOf L j = .own B e sz 0 []) (hu : usedV (mkI S w0 Kx L C CH nb tl) j G = [])
    (hH : w.heap.size = H) (hB : B ≤ w.heap.size) : K (A.put d (.slice (some ⟨H, 0, none⟩) 0 0)) (w.alloc (.cells #[] e)) := by
  subst hH
  refine hK.out _ _ (outV_own (v := undef) hch hsp (by rw [hu]; rfl) (own_made sz (Blk.new w e #[]) hB) ((Upd.refl _ w).alloc _) (.inr rfl))
end
end Go.Proofs.YtfbeaklplefojaaGreatDoor

namespace Go.Proofs.YtfbeaklplefojaaGreatDoor
open Go.RowKit Assoc MP
attribute [local go_sem] litStep_value

theorem stopped {p : Prop} (h : Hid p) : p := h.out
theorem blk_map {w : World} {b : Nat} {t : TypeId} {cs : Array Value} {q : IntKind} {f : Int → Option Value} {n : Nat} (h : Blk w b t cs) {m : Nat} (hm : IMap w q m f n) : b ≠ m := by
  rintro rfl
  obtain ⟨L, c, hr, _⟩ := hm
  have := hr.blk
  unfold Blk at h
  rw [h] at this
  cases this
theorem own_map {w : World} {B s n m k : Nat} {e : TypeId} {v : Value} {xs : List Value} {q : IntKind} {f : Int → Option Value} (h : w.ownsRow B e s v n xs) (hm : IMap w q m f k) : v.ownBlock ≠ some m := by
  intro hb
  rcases h.2 with ⟨e, _⟩ | ⟨g, cap, cur, e, _, hg, _⟩
  · rw [e] at hb; simp [Value.ownBlock] at hb
  · rw [e] at hb
    simp only [Value.ownBlock, Option.some.injEq] at hb
    subst hb
    exact (blk_map hg hm) rfl
theorem run_len_int {P : Program} {w : World} {q : IntKind} {b n : Nat} {f : Int → Option Value} {mt kt et : TypeId} (hm : P.underlying mt = some (.map kt et)) (h : IMap w q b f n) (ty : TypeId) : (Builtin.len_ #[mt] ty #[.map (some b)]).run P w = .ok (.int .i64 n) w := by
  obtain ⟨L, c, h, _, hn⟩ := h
  simp [Builtin.len_, run_underlying hm, run_getObj_blk h.blk, goInt, Result.andThen, hn]
def mapI (l : AL) : Int → Option Value := fun c => (get l c).map (Value.int .i64)
theorem mapI_put {l : AL} (h : Srt l) (c v k : Int) : mapI (put l c v) k = putI (mapI l) c (.int .i64 v) k := by
  unfold mapI putI
  rw [get_put h]
  by_cases e : k = c <;> simp [e]
theorem mapI_del {l : AL} (c k : Int) : mapI (del l c) k = delI (mapI l) c k := by
  unfold mapI delI
  rw [get_del]
  by_cases e : k = c <;> simp [e]
theorem mapI_some (l : AL) (c : Int) : (mapI l c).isSome = (get l c).isSome := by unfold mapI; cases get l c <;> rfl
theorem imapI_put {w : World} {m : Nat} {l : AL} {c x : Int} (hs : Srt l) (h : IMap w .i64 m (putI (mapI l) c (.int .i64 x)) (if (mapI l c).isSome then l.length else l.length + 1)) : IMap w .i64 m (mapI (put l c x)) (put l c x).length := by
  rw [mapI_some] at h
  rw [len_put hs]
  exact h.congr (fun k => by rw [mapI_put hs])
theorem imapI_del {w : World} {m : Nat} {l : AL} {c : Int} (hs : Srt l) (h : IMap w .i64 m (delI (mapI l) c) (if (mapI l c).isSome then l.length - 1 else l.length)) : IMap w .i64 m (mapI (del l c)) (del l c).length := by
  rw [mapI_some] at h
  rw [len_del hs]
  exact h.congr (fun k => by rw [mapI_del])
abbrev encK : Enc Int := encI .i64
def mapsV (ms : List Nat) : List Value := ms.map (fun m => .map (some m))
/-- A state: the block, the kinds, the maps. -/
structure MdlSt (B sb : Nat) (vk : Value) (gc cc : Nat) (ms : List Nat) (w : World) (s : MS) : Prop where
  box : Blk w sb 75 #[vk, .slice (some ⟨gc, 0, none⟩) s.L.length cc]
  k : Ow encK 3 w B vk s.K
  c : w.ownsRow B 77 1 (.slice (some ⟨gc, 0, none⟩) s.L.length cc) s.L.length (mapsV ms)
  each : ∀ (i m : Nat) (l : AL), ms[i]? = some m → s.L[i]? = some l → IMap w .i64 m (mapI l) l.length
  nd : ms.Nodup
  bs : B ≤ sb
  bm : ∀ m ∈ ms, B ≤ m
def fpM (sb : Nat) (vk : Value) (gc : Nat) (ms : List Nat) : List Nat := sb :: gc :: (vk.ownBlock.toList ++ ms)
def Mdl (B sb : Nat) (F : List Nat) (w : World) (s : MS) : Prop := MP.Good s ∧ ∃ vk gc cc ms, F = fpM sb vk gc ms ∧ MdlSt B sb vk gc cc ms w s
section
variable {B sb gc cc : Nat} {vk : Value} {ms : List Nat} {w w' : World} {s : MS} {F T : List Nat}
theorem MdlSt.mlen (h : MdlSt B sb vk gc cc ms w s) : ms.length = s.L.length := by have := own_len h.c; simp [mapsV] at this; omega
theorem MdlSt.at_ (h : MdlSt B sb vk gc cc ms w s) {i : Nat} (hi : i < s.L.length) : ∃ m, ms[i]? = some m ∧ IMap w .i64 m (mapI (coll s i)) (coll s i).length := by
  have hm : i < ms.length := by rw [h.mlen]; exact hi
  exact ⟨ms[i], List.getElem?_eq_getElem hm, h.each i _ _ (List.getElem?_eq_getElem hm) (coll_get hi)⟩
theorem MdlSt.mem (h : MdlSt B sb vk gc cc ms w s) {m : Nat} (hm : m ∈ ms) : ∃ f n, IMap w .i64 m f n := by
  obtain ⟨i, hi, rfl⟩ := List.getElem_of_mem hm
  have hi' : i < s.L.length := by rw [← h.mlen]; exact hi
  exact ⟨_, _, h.each i _ _ (List.getElem?_eq_getElem hi) (coll_get hi')⟩
theorem MdlSt.upd (h : MdlSt B sb vk gc cc ms w s) (hu : Upd T w w') (hT : ∀ k ∈ fpM sb vk gc ms, k ∉ T) : MdlSt B sb vk gc cc ms w' s := by
  unfold fpM at hT
  simp only [List.mem_cons, List.mem_append, Option.mem_toList] at hT
  refine ⟨h.box.upd hu (hT _ (.inl rfl)), h.k.upd hu fun b hb => hT b (.inr (.inr (.inl hb))), own_upd h.c hu fun b hb => hT b (.inr (.inl (by simp [Value.ownBlock] at hb; exact hb.symm))), fun i m l hm hl => (h.each i m l hm hl).upd hu (hT m (.inr (.inr (.inr (List.mem_of_getElem? hm))))), h.nd, h.bs, h.bm⟩
theorem Mdl.upd (h : Mdl B sb F w s) (hu : Upd T w w') (hT : Disj F T) : Mdl B sb F w' s := by
  obtain ⟨g, vk, gc, cc, ms, rfl, h⟩ := h
  exact ⟨g, vk, gc, cc, ms, rfl, h.upd hu hT⟩
theorem Mdl.upd0 (h : Mdl B sb F w s) (hu : Upd [] w w') : Mdl B sb F w' s := h.upd hu (fun k _ => by simp)
theorem MdlSt.lt (h : MdlSt B sb vk gc cc ms w s) : ∀ k ∈ fpM sb vk gc ms, B ≤ k ∧ k < w.heap.size := by
  intro k hk
  unfold fpM at hk
  simp only [List.mem_cons, List.mem_append, Option.mem_toList] at hk
  rcases hk with rfl | rfl | hk | hk
  · exact ⟨h.bs, h.box.lt⟩
  · exact own_lt h.c rfl
  · exact own_lt h.k hk
  · obtain ⟨f, n, hm⟩ := h.mem hk
    exact ⟨h.bm k hk, hm.lt⟩
theorem Mdl.lt (h : Mdl B sb F w s) : ∀ k ∈ F, B ≤ k ∧ k < w.heap.size := by
  obtain ⟨g, vk, gc, cc, ms, rfl, h⟩ := h
  exact h.lt
/-- A map has turned. -/
theorem MdlSt.turn (h : MdlSt B sb vk gc cc ms w s) {i m : Nat} (hi : i < s.L.length) (hm : ms[i]? = some m) {l : AL} (hu : Upd [m] w w') (hl : IMap w' .i64 m (mapI l) l.length) : MdlSt B sb vk gc cc ms w' (setC s i l) := by
  obtain ⟨f, n, hmm⟩ := h.mem (List.mem_of_getElem? hm)
  have e : (setC s i l).L.length = s.L.length := by simp [setC]
  refine ⟨by rw [e]; exact h.box.upd hu (by simp; exact blk_map h.box hmm), h.k.upd hu fun b hb => by simp; rintro rfl; exact own_map h.k hmm hb, by rw [e]; exact own_upd h.c hu fun b hb => by simp; rintro rfl; exact own_map h.c hmm hb, fun j m' l' hj hl' => ?_, h.nd, h.bs, h.bm⟩
  have hl2 : (s.L.set i l)[j]? = some l' := hl'
  rw [List.getElem?_set] at hl2
  by_cases hij : i = j
  · subst hij
    rw [if_pos rfl, if_pos hi] at hl2
    rw [hm] at hj
    injection hj with hj
    injection hl2 with hl2
    subst hj hl2
    exact hl
  · rw [if_neg hij] at hl2
    refine (h.each j m' l' hj hl2).upd hu ?_
    simp
    rintro rfl
    have hd := h.nd
    have h1 := List.getElem?_eq_some_iff.1 hm
    have h2 := List.getElem?_eq_some_iff.1 hj
    obtain ⟨l1, e1⟩ := h1
    obtain ⟨l2, e2⟩ := h2
    rcases Nat.lt_or_ge i j with h3 | h3
    · exact List.pairwise_iff_getElem.1 hd i j l1 l2 h3 (e1.trans e2.symm)
    · exact List.pairwise_iff_getElem.1 hd j i l2 l1 (by omega) (e2.trans e1.symm)
end

def CollPost (s : MS) (ms : List Nat) (c : Int) (w : World) (e : Ending) (w' : World) : Prop :=
  (isC s c = true ∧ w = w' ∧ ∃ (i m : Nat), c = i ∧ i < s.L.length ∧ ms[i]? = some m ∧ e = .returned (.tuple #[.map (some m), .nilIface])) ∨
  (isC s c = false ∧ Upd [] w w' ∧ ∃ g, e = .returned (.tuple #[.map none, .iface 96 (.pointer (some ⟨g, 0, none⟩))]) ∧ Blk w' g 98 #[.int .i64 c, .int .i64 3])
set_option maxRecDepth 100000 in
set_option maxHeartbeats 1000000 in
theorem m_coll (B sb : Nat) (vk : Value) (gc cc : Nat) (ms : List Nat) (s : MS) (c : Int) (w : World) (h : MdlSt B sb vk gc cc ms w s) (hk8 : s.L.length ≤ 8) :
    Calls Tryz.prog 32 #[.pointer (some ⟨sb, 0, none⟩), .int .i64 c] w fun e w' => CollPost s ms c w e w' := by
  have eq0 := @Lib.run_eql_slice_nil Tryz.prog
  have HS := Lib.hid h
  obtain ⟨n, hn⟩ : ∃ n, s.L.length = n := ⟨_, rfl⟩
  have HN := Lib.hid hn
  have c1 : w.cell? ⟨sb, 1, none⟩ = some (.slice (some ⟨gc, 0, none⟩) n cc) := by rw [← hn]; exact h.box.cell 1
  rw [hn] at hk8
  clear h hn
  go_enter Tryz.func32, Tryz.ntmps32
  by_cases h1 : c < 0
  · have HI : Hid (isC s c = false) := Lib.hid (by unfold isC; rw [decide_eq_false_iff_not]; omega)
    go_wp2_with fail
    go_ret2
    unfold CollPost
    exact .inr ⟨HI.out, (Upd.refl [] w).alloc _, w.heap.size, rfl, Blk.new w _ _⟩
  · by_cases h2 : (n : Int) ≤ c
    · have HI : Hid (isC s c = false) := Lib.hid (by unfold isC; rw [decide_eq_false_iff_not, HN.out]; omega)
      go_wp2_with fail
      go_ret2
      unfold CollPost
      exact .inr ⟨HI.out, (Upd.refl [] w).alloc _, w.heap.size, rfl, Blk.new w _ _⟩
    · have HI : Hid (isC s c = true) := Lib.hid (by unfold isC; rw [decide_eq_true_iff, HN.out]; omega)
      obtain ⟨i, rfl, hi⟩ := isC_form HI.out
      obtain ⟨m, hm, _⟩ := HS.out.at_ hi
      have hin : i < n := by rw [← HN.out]; exact hi
      have HM := Lib.hid hm
      have HII := Lib.hid hi
      have e0 : w.cell? ⟨gc, i, none⟩ = some (.map (some m)) := own_cell HS.out.c i _ (by unfold mapsV; rw [List.getElem?_map, hm]; rfl)
      have q1 : (0 : Int) ≤ (i : Int) := by omega
      have q2 : (i : Int) < (n : Int) := by omega
      clear hm hi
      go_wp2_with fail
      go_ret2
      unfold CollPost
      exact .inl ⟨HI.out, rfl, i, m, rfl, HII.out, HM.out, rfl⟩
end Go.Proofs.YtfbeaklplefojaaGreatDoor

namespace Go.Proofs.YtfbeaklplefojaaGreatDoor
open Go.RowKit Assoc MP
attribute [local go_sem] litStep_value

def GetPost (s : MS) (c k : Int) (w : World) (e : Ending) (w' : World) : Prop := ∃ v, e = .returned (.tuple #[.int .i64 (if isC s c then (get (coll s c.toNat) k).getD 0 else 0), .bool (if isC s c then (get (coll s c.toNat) k).isSome else false), v]) ∧ ErrV w' v (if isC s c then 0 else 3) (if isC s c then 0 else c) ∧ Upd [] w w'
set_option maxRecDepth 100000 in
set_option maxHeartbeats 2000000 in
theorem m_get (B sb : Nat) (F : List Nat) (s : MS) (c k : Int) (w : World) (h : Mdl B sb F w s) :
    Calls Tryz.prog 49 #[.pointer (some ⟨sb, 0, none⟩), .int .i64 c, .int .i64 k] w fun e w' => GetPost s c k w e w' := by
  have H := Lib.hid h
  obtain ⟨g, vk, gc, cc, ms, hF, h⟩ := h
  have HF := Lib.hid hF
  have HS := Lib.hid h
  have HG := Lib.hid g
  have K8 := Lib.hid (show s.L.length ≤ 8 by have := g.k8; rw [g.kl] at this; exact this)
  clear g hF h
  go_enter Tryz.func49, Tryz.ntmps49
  go_wp2_with fail
  refine (m_coll B sb vk gc cc ms s c w HS.out K8.out).mono ?_
  rintro e w1 (⟨hc, rfl, i, m, rfl, hi, hm, rfl⟩ | ⟨hc, u1, gf, rfl, bf⟩)
  ·
    obtain ⟨m', hm', him⟩ := HS.out.at_ hi
    obtain rfl : m' = m := by rw [hm] at hm'; exact (Option.some.inj hm').symm
    obtain ⟨ov, hov⟩ : ∃ ov, (get (coll s i) k).getD 0 = ov := ⟨_, rfl⟩
    obtain ⟨is, his⟩ : ∃ is, (get (coll s i) k).isSome = is := ⟨_, rfl⟩
    have l0 : (Instr.lookup 77 (.map (some m')) (.int .i64 k) true).run Tryz.prog w = .ok (.tuple #[.int .i64 ov, .bool is]) w := by
      have hr := run_lookup_int (P := Tryz.prog) (z := .int .i64 0) (mt := 77) Tryz.underlying77 Tryz.underlying3 (w := w) (by kernel_rfl) him k
      rw [hr]
      unfold mapI
      rw [← hov, ← his]
      cases get (coll s i) k <;> rfl
    have HR : Hid ((get (coll s i) k).getD 0 = ov ∧ (get (coll s i) k).isSome = is) := Lib.hid ⟨hov, his⟩
    have HI := Lib.hid hc
    have HIM := Lib.hid him
    have HM := Lib.hid hm
    have HII := Lib.hid hi
    clear hov his hm hm' hi hc him
    go_wp2_with fail
    go_ret3
    unfold GetPost
    rw [HI.out, Int.toNat_natCast, HR.out.1, HR.out.2]
    exact ⟨_, rfl, ErrV.nil _, .refl _ _⟩
  · have U1 := Lib.hid u1
    have BF := Lib.hid bf
    have HI := Lib.hid hc
    clear u1 bf hc
    go_wp2_with fail
    go_ret3
    unfold GetPost
    rw [HI.out]
    exact ⟨_, rfl, ErrV.fault (no := 3) (at_ := c) BF.out (by omega) (by omega), U1.out⟩
def SizePost (s : MS) (c : Int) (w : World) (e : Ending) (w' : World) : Prop := ∃ v, e = .returned (.tuple #[.int .i64 (if isC s c then ((coll s c.toNat).length : Int) else 0), v]) ∧ ErrV w' v (if isC s c then 0 else 3) (if isC s c then 0 else c) ∧ Upd [] w w'
set_option maxRecDepth 100000 in
set_option maxHeartbeats 2000000 in
theorem m_size (B sb : Nat) (F : List Nat) (s : MS) (c : Int) (w : World) (h : Mdl B sb F w s) :
    Calls Tryz.prog 38 #[.pointer (some ⟨sb, 0, none⟩), .int .i64 c] w fun e w' => SizePost s c w e w' := by
  have ln0 : ∀ W, (Builtin.len_ #[77] 3 #[.map none]).run Tryz.prog W = .ok (.int .i64 0) W := fun W => by kernel_rfl
  have H := Lib.hid h
  obtain ⟨g, vk, gc, cc, ms, hF, h⟩ := h
  have HF := Lib.hid hF
  have HS := Lib.hid h
  have HG := Lib.hid g
  have K8 := Lib.hid (show s.L.length ≤ 8 by have := g.k8; rw [g.kl] at this; exact this)
  clear g hF h
  go_enter Tryz.func38, Tryz.ntmps38
  go_wp2_with fail
  refine (m_coll B sb vk gc cc ms s c w HS.out K8.out).mono ?_
  rintro e w1 (⟨hc, rfl, i, m, rfl, hi, hm, rfl⟩ | ⟨hc, u1, gf, rfl, bf⟩)
  · obtain ⟨m', hm', him⟩ := HS.out.at_ hi
    obtain rfl : m' = m := by rw [hm] at hm'; exact (Option.some.inj hm').symm
    obtain ⟨N, hN⟩ : ∃ N, (coll s i).length = N := ⟨_, rfl⟩
    have ln : (Builtin.len_ #[77] 3 #[.map (some m')]).run Tryz.prog w = .ok (.int .i64 N) w := hN ▸ run_len_int Tryz.underlying77 him _
    have HI := Lib.hid hc
    have HNN := Lib.hid hN
    clear hm hm' hi hc him hN
    go_wp2_with fail
    go_ret2
    unfold SizePost
    rw [HI.out, Int.toNat_natCast, HNN.out]
    exact ⟨_, rfl, ErrV.nil _, .refl _ _⟩
  · have U1 := Lib.hid u1
    have BF := Lib.hid bf
    have HI := Lib.hid hc
    clear u1 bf hc
    go_wp2_with fail
    go_ret2
    unfold SizePost
    rw [HI.out]
    exact ⟨_, rfl, ErrV.fault (no := 3) (at_ := c) BF.out (by omega) (by omega), U1.out⟩
def MPutPost (B sb : Nat) (F : List Nat) (s : MS) (c k v : Int) (w : World) (e : Ending) (w' : World) : Prop := ∃ u, e = .returned u ∧ ErrV w' u (if isC s c then putE (coll s c.toNat) k else 3) (if isC s c then 0 else c) ∧ Mdl B sb F w' (if isC s c then mPut s c.toNat k v else s) ∧ Upd F w w'
set_option maxRecDepth 100000 in
set_option maxHeartbeats 4000000 in
theorem m_put (B sb : Nat) (F : List Nat) (s : MS) (c k v : Int) (w : World) (h : Mdl B sb F w s) (hkb : kB k) :
    Calls Tryz.prog 52 #[.pointer (some ⟨sb, 0, none⟩), .int .i64 c, .int .i64 k, .int .i64 v] w fun e w' => MPutPost B sb F s c k v w e w' := by
  have HKB := Lib.hid hkb
  clear hkb
  have H := Lib.hid h
  obtain ⟨g, vk, gc, cc, ms, hF, h⟩ := h
  have HF := Lib.hid hF
  have HS := Lib.hid h
  have HG := Lib.hid g
  have K8 := Lib.hid (show s.L.length ≤ 8 by have := g.k8; rw [g.kl] at this; exact this)
  clear g hF h
  go_enter Tryz.func52, Tryz.ntmps52
  go_wp2_with fail
  refine (m_coll B sb vk gc cc ms s c w HS.out K8.out).mono ?_
  rintro e w1 (⟨hc, rfl, i, m, rfl, hi, hm, rfl⟩ | ⟨hc, u1, gf, rfl, bf⟩)
  ·
    obtain ⟨m', hm', him⟩ := HS.out.at_ hi
    obtain rfl : m' = m := by rw [hm] at hm'; exact (Option.some.inj hm').symm
    obtain ⟨ov, hov⟩ : ∃ ov, (get (coll s i) k).getD 0 = ov := ⟨_, rfl⟩
    obtain ⟨is, his⟩ : ∃ is, (get (coll s i) k).isSome = is := ⟨_, rfl⟩
    have l0 : (Instr.lookup 77 (.map (some m')) (.int .i64 k) true).run Tryz.prog w = .ok (.tuple #[.int .i64 ov, .bool is]) w := by
      have hr := run_lookup_int (P := Tryz.prog) (z := .int .i64 0) (mt := 77) Tryz.underlying77 Tryz.underlying3 (w := w) (by kernel_rfl) him k
      rw [hr]
      unfold mapI
      rw [← hov, ← his]
      cases get (coll s i) k <;> rfl
    have HR : Hid ((get (coll s i) k).getD 0 = ov ∧ (get (coll s i) k).isSome = is) := Lib.hid ⟨hov, his⟩
    have HI := Lib.hid hc
    have HIM := Lib.hid him
    have HM := Lib.hid hm
    have HII := Lib.hid hi
    obtain ⟨N, hN⟩ : ∃ N, (coll s i).length = N := ⟨_, rfl⟩
    have ln : (Builtin.len_ #[77] 3 #[.map (some m')]).run Tryz.prog w = .ok (.int .i64 N) w := hN ▸ run_len_int Tryz.underlying77 him _
    have HE : Hid (putE (coll s i) k = if is = false ∧ 100 ≤ N then 8 else 0) := Lib.hid (by unfold putE; rw [his, hN])
    have SR : Hid (Srt (coll s i)) := Lib.hid (HG.out.srt _ (coll_mem hi))
    obtain ⟨Ak, ck, rfl, hnk, _⟩ := own_slice HS.out.k
    obtain ⟨NK, hNK⟩ : ∃ NK, s.K.length = NK := ⟨_, rfl⟩
    have hik : i < NK := by rw [← hNK, HG.out.kl]; exact hi
    have OK : Hid (w.ownsRow B 3 1 (.slice Ak NK ck) NK (flat encK s.K)) := Lib.hid (by have := HS.out.k; unfold Ow at this; rw [hNK] at this; exact this)
    obtain ⟨gk, cg, cur, e1, _⟩ := own_form OK.out (by omega)
    injection e1 with e1 _ e1'
    subst e1 e1'
    obtain ⟨y, hy⟩ : ∃ y, s.K[i]? = some y := ⟨_, List.getElem?_eq_getElem (by rw [hNK]; exact hik)⟩
    have e0 : w.cell? ⟨gk, i, none⟩ = some (.int .i64 y) := by
      have := own_cell OK.out _ _ ((flat_get (E := encK) hy (j := 0) (by decide)).trans rfl)
      rwa [show i * encK.s + 0 = i by simp [encI]] at this
    have c0 : w.cell? ⟨sb, 0, none⟩ = some (.slice (some ⟨gk, 0, none⟩) NK ck) := by rw [← hNK]; exact HS.out.box.cell 0
    have q1 : (0 : Int) ≤ (i : Int) := by omega
    have q2 : (i : Int) < (NK : Int) := by omega
    have HV : Hid (putV s i v = if y = 2 then 1 else v) := Lib.hid (by unfold putV; rw [List.getD_eq_getElem?_getD, hy]; rfl)
    clear hov his hm hm' hi hc him hN hNK hy
    cases is with
    | true =>
      have HE0 : Hid (putE (coll s i) k = 0) := Lib.hid (by rw [HE.out, if_neg (by simp; try omega)])
      by_cases hy2 : y = 2
      · have d2 : (y == 2) = true := by simpa using hy2
        have HVV : Hid (putV s i v = 1) := Lib.hid (by rw [HV.out, if_pos hy2])
        clear hy2
        obtain ⟨W3, r3, m3, u3⟩ := run_mapUpdate_int (P := Tryz.prog) (mt := 77) Tryz.underlying77 Tryz.underlying3 HIM.out k (.int .i64 1)
        have M3 := Lib.hid (imapI_put SR.out m3)
        have U3 := Lib.hid u3
        clear m3 u3
        go_wp2_with fail
        go_ret
        unfold MPutPost
        rw [HI.out, Int.toNat_natCast, HE0.out]
        have GP := good_put HG.out HII.out k v HKB.out
        have EP : mPut s i k v = setC s i (put (coll s i) k 1) := by unfold mPut; rw [HE0.out, HVV.out]; rfl
        rw [EP] at GP ⊢
        refine ⟨_, rfl, ErrV.nil _, ⟨GP, _, gc, cc, ms, HF.out, HS.out.turn HII.out HM.out U3.out M3.out⟩, ?_⟩
        rw [HF.out]
        exact U3.out.mono (by intro y hy; simp at hy; subst hy; exact .inl (by unfold fpM; simp [List.mem_of_getElem? HM.out]))
      · have d2 : (y == 2) = false := by simpa using hy2
        have HVV : Hid (putV s i v = v) := Lib.hid (by rw [HV.out, if_neg hy2])
        clear hy2
        obtain ⟨W3, r3, m3, u3⟩ := run_mapUpdate_int (P := Tryz.prog) (mt := 77) Tryz.underlying77 Tryz.underlying3 HIM.out k (.int .i64 v)
        have M3 := Lib.hid (imapI_put SR.out m3)
        have U3 := Lib.hid u3
        clear m3 u3
        go_wp2_with fail
        go_ret
        unfold MPutPost
        rw [HI.out, Int.toNat_natCast, HE0.out]
        have GP := good_put HG.out HII.out k v HKB.out
        have EP : mPut s i k v = setC s i (put (coll s i) k v) := by unfold mPut; rw [HE0.out, HVV.out]; rfl
        rw [EP] at GP ⊢
        refine ⟨_, rfl, ErrV.nil _, ⟨GP, _, gc, cc, ms, HF.out, HS.out.turn HII.out HM.out U3.out M3.out⟩, ?_⟩
        rw [HF.out]
        exact U3.out.mono (by intro y hy; simp at hy; subst hy; exact .inl (by unfold fpM; simp [List.mem_of_getElem? HM.out]))
    | false =>
      by_cases h5 : 100 ≤ N
      · have d : decide ((100 : Int) ≤ (N : Int)) = true := by simp; omega
        have HE8 : Hid (putE (coll s i) k = 8) := Lib.hid (by rw [HE.out, if_pos ⟨rfl, h5⟩])
        go_wp2_with fail
        go_ret
        unfold MPutPost
        rw [HI.out, Int.toNat_natCast, HE8.out]
        refine ⟨_, rfl, ErrV.errno _ 8 (by omega) (by omega), ?_, .refl _ _⟩
        have EP : mPut s i k v = s := by unfold mPut; rw [HE8.out]; rfl
        rw [EP]
        exact H.out
      · have d5 : decide ((100 : Int) ≤ (N : Int)) = false := by simp; omega
        have HE0 : Hid (putE (coll s i) k = 0) := Lib.hid (by rw [HE.out, if_neg (by simp; try omega)])
        by_cases hy2 : y = 2
        · have d2 : (y == 2) = true := by simpa using hy2
          have HVV : Hid (putV s i v = 1) := Lib.hid (by rw [HV.out, if_pos hy2])
          clear hy2
          obtain ⟨W3, r3, m3, u3⟩ := run_mapUpdate_int (P := Tryz.prog) (mt := 77) Tryz.underlying77 Tryz.underlying3 HIM.out k (.int .i64 1)
          have M3 := Lib.hid (imapI_put SR.out m3)
          have U3 := Lib.hid u3
          clear m3 u3
          go_wp2_with fail
          go_ret
          unfold MPutPost
          rw [HI.out, Int.toNat_natCast, HE0.out]
          have GP := good_put HG.out HII.out k v HKB.out
          have EP : mPut s i k v = setC s i (put (coll s i) k 1) := by unfold mPut; rw [HE0.out, HVV.out]; rfl
          rw [EP] at GP ⊢
          refine ⟨_, rfl, ErrV.nil _, ⟨GP, _, gc, cc, ms, HF.out, HS.out.turn HII.out HM.out U3.out M3.out⟩, ?_⟩
          rw [HF.out]
          exact U3.out.mono (by intro y hy; simp at hy; subst hy; exact .inl (by unfold fpM; simp [List.mem_of_getElem? HM.out]))
        · have d2 : (y == 2) = false := by simpa using hy2
          have HVV : Hid (putV s i v = v) := Lib.hid (by rw [HV.out, if_neg hy2])
          clear hy2
          obtain ⟨W3, r3, m3, u3⟩ := run_mapUpdate_int (P := Tryz.prog) (mt := 77) Tryz.underlying77 Tryz.underlying3 HIM.out k (.int .i64 v)
          have M3 := Lib.hid (imapI_put SR.out m3)
          have U3 := Lib.hid u3
          clear m3 u3
          go_wp2_with fail
          go_ret
          unfold MPutPost
          rw [HI.out, Int.toNat_natCast, HE0.out]
          have GP := good_put HG.out HII.out k v HKB.out
          have EP : mPut s i k v = setC s i (put (coll s i) k v) := by unfold mPut; rw [HE0.out, HVV.out]; rfl
          rw [EP] at GP ⊢
          refine ⟨_, rfl, ErrV.nil _, ⟨GP, _, gc, cc, ms, HF.out, HS.out.turn HII.out HM.out U3.out M3.out⟩, ?_⟩
          rw [HF.out]
          exact U3.out.mono (by intro y hy; simp at hy; subst hy; exact .inl (by unfold fpM; simp [List.mem_of_getElem? HM.out]))
  · have U1 := Lib.hid u1
    have BF := Lib.hid bf
    have HI := Lib.hid hc
    clear u1 bf hc
    go_wp2_with fail
    go_ret
    unfold MPutPost
    rw [HI.out]
    exact ⟨_, rfl, ErrV.fault (no := 3) (at_ := c) BF.out (by omega) (by omega), H.out.upd0 U1.out, U1.out.mono (by simp)⟩
def MDelPost (B sb : Nat) (F : List Nat) (s : MS) (c k : Int) (w : World) (e : Ending) (w' : World) : Prop := ∃ u, e = .returned u ∧ ErrV w' u (if isC s c then 0 else 3) (if isC s c then 0 else c) ∧ Mdl B sb F w' (if isC s c then mDel s c.toNat k else s) ∧ Upd F w w'
set_option maxRecDepth 100000 in
set_option maxHeartbeats 4000000 in
theorem m_del (B sb : Nat) (F : List Nat) (s : MS) (c k : Int) (w : World) (h : Mdl B sb F w s) :
    Calls Tryz.prog 53 #[.pointer (some ⟨sb, 0, none⟩), .int .i64 c, .int .i64 k] w fun e w' => MDelPost B sb F s c k w e w' := by
  have H := Lib.hid h
  obtain ⟨g, vk, gc, cc, ms, hF, h⟩ := h
  have HF := Lib.hid hF
  have HS := Lib.hid h
  have HG := Lib.hid g
  have K8 := Lib.hid (show s.L.length ≤ 8 by have := g.k8; rw [g.kl] at this; exact this)
  clear g hF h
  go_enter Tryz.func53, Tryz.ntmps53
  go_wp2_with fail
  refine (m_coll B sb vk gc cc ms s c w HS.out K8.out).mono ?_
  rintro e w1 (⟨hc, rfl, i, m, rfl, hi, hm, rfl⟩ | ⟨hc, u1, gf, rfl, bf⟩)
  · obtain ⟨m', hm', him⟩ := HS.out.at_ hi
    obtain rfl : m' = m := by rw [hm] at hm'; exact (Option.some.inj hm').symm
    obtain ⟨W3, r3, m3, u3⟩ := run_delete_int (P := Tryz.prog) (ats := #[77, 3]) (ty := 0) rfl Tryz.underlying77 Tryz.underlying3 him k
    have M3 := Lib.hid (imapI_del (HG.out.srt _ (coll_mem hi)) m3)
    have U3 := Lib.hid u3
    have HI := Lib.hid hc
    have HM := Lib.hid hm
    have HII := Lib.hid hi
    clear hm hm' hi hc him m3 u3
    go_wp2_with fail
    go_ret
    unfold MDelPost
    rw [HI.out, Int.toNat_natCast]
    refine ⟨_, rfl, ErrV.nil _, ⟨good_del HG.out HII.out k, vk, gc, cc, ms, HF.out, HS.out.turn HII.out HM.out U3.out M3.out⟩, ?_⟩
    rw [HF.out]
    exact U3.out.mono (by intro y hy; simp at hy; subst hy; exact .inl (by unfold fpM; simp [List.mem_of_getElem? HM.out]))
  · have U1 := Lib.hid u1
    have BF := Lib.hid bf
    have HI := Lib.hid hc
    clear u1 bf hc
    go_wp2_with fail
    go_ret
    unfold MDelPost
    rw [HI.out]
    exact ⟨_, rfl, ErrV.fault (no := 3) (at_ := c) BF.out (by omega) (by omega), H.out.upd0 U1.out, U1.out.mono (by simp)⟩
end Go.Proofs.YtfbeaklplefojaaGreatDoor

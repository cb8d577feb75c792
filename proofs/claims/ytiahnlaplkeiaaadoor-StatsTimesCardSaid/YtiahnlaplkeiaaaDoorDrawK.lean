/-
  The rule for drawn regions, as walks use it. No program in sight.
-/
import Derived.Test.YtiahnlaplkeiaaaDoorDraw3
import Derived.Test.YtiahnlaplkeiaaaDoorApp
namespace Go.Proofs.YtiahnlaplkeiaaaDoor
open Go Go.RowKit

/-- What is said of the value of an operation: the blocks it owns, and a fact that lasts. -/
structure Spec where
  fp : Value → List Nat
  R : Value → World → Prop
  adm : Value → Prop
namespace Spec
def any : Spec := ⟨fun _ => [], fun _ _ => True, fun _ => True⟩
def det (v0 : Value) : Spec := ⟨fun _ => [], fun v _ => v = v0, fun v => v = v0⟩
/-- Any fact of the value alone. -/
def val (F : Value → Prop) : Spec := ⟨fun _ => [], fun v _ => F v, F⟩
def own (B : Nat) (e : TypeId) (s n : Nat) (xs : List Value) : Spec := ⟨fun v => v.ownBlock.toList, fun v w => w.ownsRow B e s v n xs, fun v => ∃ A c, v = .slice A n c ∧ n ≤ c ∧ c ≤ maxLen⟩
def src (s m : Nat) (news : List Value) : Spec := ⟨fun v => v.ownBlock.toList, fun v w => Src w s v m news, fun v => ∃ A c, v = .slice A m c⟩
def ptrBlocks : Value → List Nat
  | .pointer (some a) => [a.block]
  | .iface _ (.pointer (some a)) => [a.block]
  | _ => []
/-- A pointer to a new block. -/
def box (t : TypeId) (cs : Array Value) : Spec := ⟨ptrBlocks, fun v w => ∃ g, v = .pointer (some ⟨g, 0, none⟩) ∧ Blk w g t cs, fun v => ∃ g, v = .pointer (some ⟨g, 0, none⟩)⟩
/-- A slice of a new block, known whole. -/
def lit (t : TypeId) (cs : Array Value) (n : Nat) : Spec := ⟨fun v => v.ownBlock.toList, fun v w => ∃ g, v = .slice (some ⟨g, 0, none⟩) n n ∧ Blk w g t cs, fun v => ∃ g, v = .slice (some ⟨g, 0, none⟩) n n⟩
end Spec
structure Lasts (S : List Nat) (w0 : World) (s : Spec) : Prop where
  lasts : ∀ v (w w' : World) T, Upd S w0 w → s.R v w → Upd T w w' → (∀ b ∈ T, b ∉ s.fp v) → (∀ b ∈ T, b ∈ S ∨ w0.heap.size ≤ b) → s.R v w'
  wit : ∃ v, s.adm v
  adm : ∀ v w, s.R v w → s.adm v
section
variable {S : List Nat} {w0 : World}
theorem lasts_any : Lasts S w0 .any := ⟨fun _ _ _ _ _ _ _ _ _ => trivial, ⟨undef, trivial⟩, fun _ _ _ => trivial⟩
theorem lasts_det (v0 : Value) : Lasts S w0 (.det v0) := ⟨fun _ _ _ _ _ h _ _ _ => h, ⟨v0, rfl⟩, fun _ _ h => h⟩
theorem lasts_val (F : Value → Prop) (hF : ∃ v, F v) : Lasts S w0 (.val F) := ⟨fun _ _ _ _ _ h _ _ _ => h, hF, fun _ _ h => h⟩
theorem lasts_own (B : Nat) (e : TypeId) (s n : Nat) (xs : List Value) (hn : n ≤ maxLen) : Lasts S w0 (.own B e s n xs) := ⟨fun v w w' T _ h hu hT _ =>
  own_upd h hu fun b hb hm => hT b hm (by simp [Spec.own, hb]), ⟨_, none, n, rfl, Nat.le_refl _, hn⟩, fun _ _ h => own_slice h⟩
theorem lasts_src (s m : Nat) (news : List Value) : Lasts S w0 (.src s m news) := ⟨fun v w w' T _ h hu hT _ =>
  Src.upd h hu fun b hb hm => hT b hm (by simp [Spec.src, hb]), ⟨_, none, m, rfl⟩, fun _ _ h => let ⟨_, A, c, e, _⟩ := h; ⟨A, c, e⟩⟩
theorem lasts_lit (t : TypeId) (cs : Array Value) (n : Nat) : Lasts S w0 (.lit t cs n) := ⟨fun v w w' T _ h hu hT _ => by
  obtain ⟨g, rfl, hb⟩ := h
  exact ⟨g, rfl, hb.upd hu fun hm => hT g hm (by simp [Spec.lit, Value.ownBlock])⟩, ⟨_, 0, rfl⟩, fun _ _ ⟨g, e, _⟩ => ⟨g, e⟩⟩
theorem lasts_box (t : TypeId) (cs : Array Value) : Lasts S w0 (.box t cs) := ⟨fun v w w' T _ h hu hT _ => by
  obtain ⟨g, rfl, hb⟩ := h
  exact ⟨g, rfl, hb.upd hu fun hm => hT g hm (by simp [Spec.box, Spec.ptrBlocks])⟩, ⟨_, 0, rfl⟩, fun _ _ ⟨g, e, _⟩ => ⟨g, e⟩⟩
end
theorem Blk.newAt {W : World} {H : Nat} (t : TypeId) (cs : Array Value) (h : W.heap.size = H) : Blk (W.alloc (.cells cs t)) H t cs := h ▸ Blk.new W t cs
theorem Src.newAt {W : World} {H : Nat} {t : TypeId} {cs : Array Value} {s m : Nat} (h : W.heap.size = H) (c : Nat) (hl : cs.size = m * s) : Src (W.alloc (.cells cs t)) s (.slice (some ⟨H, 0, none⟩) m c) m cs.toList := .of_blk (Blk.newAt t cs h) c hl

def specOf : List (Nat × Spec) → Nat → Spec
  | [], _ => .any
  | (i, s) :: L, j => if j = i then s else specOf L j
def conOf : List (Nat × List Nat) → Nat → List Nat
  | [], _ => []
  | (i, s) :: L, j => if j = i then s else conOf L j
def LastsAll (S : List Nat) (w0 : World) : List (Nat × Spec) → Prop
  | [] => True
  | (_, s) :: L => Lasts S w0 s ∧ LastsAll S w0 L
theorem lastsAll_of {S : List Nat} {w0 : World} : ∀ (L : List (Nat × Spec)), LastsAll S w0 L → ∀ j, Lasts S w0 (specOf L j)
  | [], _, _ => lasts_any
  | (i, s) :: L, h, j => by
    unfold specOf
    split
    · exact h.1
    · exact lastsAll_of L h.2 j
def mkI (S : List Nat) (w0 : World) (K : Nat → World → Prop) (L : List (Nat × Spec)) (C : List (Nat × List Nat)) (CH : List Nat) (nb : Nat) (tl : List Oper) : Inv :=
  { nb := nb, tl := tl, S := S, w0 := w0, K := K, R := fun j => (specOf L j).R, adm := fun j => (specOf L j).adm, fp := fun j => (specOf L j).fp, con := conOf C, ch := fun j => CH.contains j }

section
variable {P : Program} {ops : Array Oper} {I : Inv} {Q : Exit → Act → World → Prop} {o : Oper} {l : List Oper} {j s : Nat} {A : Act} {G : List (Nat × Value)}
/-- With calls that turn old blocks, and with operations behind all others. -/
theorem wp_invT {id : Nat} {a : Act} {w : World} (nb : Nat) (S : List Nat) (K : Nat → World → Prop) (L : List (Nat × Spec)) (C : List (Nat × List Nat)) (CH : List Nat) (hm : P.follows .mixedOrders = true) (hnb : nb ≤ l.length) (hc : invB l.toArray (conOf C) (fun j => CH.contains j) = true) (htb : tailB l.toArray nb = true)
    (hS : ∀ b ∈ S, b < w.heap.size) (hL : LastsAll S w.drew L) (hK : ∀ s (w1 w' : World) T, K s w1 → Upd T w1 w' → (∀ b ∈ T, w.heap.size ≤ b) → K s w') (hK0 : K 0 w.drew)
    (h : wpV P l.toArray (mkI S w.drew K L C CH nb (l.drop nb)) (NoPanic Q) (l.take nb) 0 0 a []) : (Code.region id l.toArray true).wp P Q a w :=
  wp_inv (mkI S w.drew K L C CH nb (l.drop nb)) hm rfl hnb rfl hc htb hS (fun j v w1 w' T a b c d e _ => (lastsAll_of L hL j).lasts v w1 w' T a b c d e) hK hK0 (fun j => (lastsAll_of L hL j).wit) (fun j v w1 => (lastsAll_of L hL j).adm v w1) h
theorem tailB_all (l : List Oper) (h : floatsOk l.toArray (floats l.toArray) (Array.replicate l.toArray.size false) = true) : tailB l.toArray l.length = true := by
  unfold tailB
  rw [Bool.and_eq_true]
  refine ⟨h, ?_⟩
  rw [List.all_eq_true]
  intro j hj
  have := List.mem_range.1 hj
  simp at this
  simp [this]
/-- With calls that turn old blocks. -/
theorem wp_invK {id : Nat} {a : Act} {w : World} (S : List Nat) (K : Nat → World → Prop) (L : List (Nat × Spec)) (C : List (Nat × List Nat)) (CH : List Nat) (hm : P.follows .mixedOrders = true) (hc : invB l.toArray (conOf C) (fun j => CH.contains j) = true) (hfo : floatsOk l.toArray (floats l.toArray) (Array.replicate l.toArray.size false) = true)
    (hS : ∀ b ∈ S, b < w.heap.size) (hL : LastsAll S w.drew L) (hK : ∀ s (w1 w' : World) T, K s w1 → Upd T w1 w' → (∀ b ∈ T, w.heap.size ≤ b) → K s w') (hK0 : K 0 w.drew)
    (h : wpV P l.toArray (mkI S w.drew K L C CH l.length []) (NoPanic Q) l 0 0 a []) : (Code.region id l.toArray true).wp P Q a w :=
  wp_invT l.length S K L C CH hm (Nat.le_refl _) hc (tailB_all l hfo) hS hL hK hK0 (by rw [List.take_length, List.drop_length]; exact h)
/-- Nothing that was there turns. -/
theorem wp_invN {id : Nat} {a : Act} {w : World} (L : List (Nat × Spec)) (C : List (Nat × List Nat)) (hm : P.follows .mixedOrders = true) (hc : invB l.toArray (conOf C) (fun j => ([] : List Nat).contains j) = true) (hfo : floatsOk l.toArray (floats l.toArray) (Array.replicate l.toArray.size false) = true) (hL : LastsAll [] w.drew L)
    (h : wpV P l.toArray (mkI [] w.drew (fun _ _ => True) L C [] l.length []) (NoPanic Q) l 0 0 a []) : (Code.region id l.toArray true).wp P Q a w :=
  wp_invK [] (fun _ _ => True) L C [] hm hc hfo (by simp) hL (fun _ _ _ _ _ _ _ => trivial) trivial h
/-- The same, with operations behind all others. -/
theorem wp_invNT {id : Nat} {a : Act} {w : World} (nb : Nat) (L : List (Nat × Spec)) (C : List (Nat × List Nat)) (hm : P.follows .mixedOrders = true) (hnb : nb ≤ l.length) (hc : invB l.toArray (conOf C) (fun j => ([] : List Nat).contains j) = true) (htb : tailB l.toArray nb = true) (hL : LastsAll [] w.drew L)
    (h : wpV P l.toArray (mkI [] w.drew (fun _ _ => True) L C [] nb (l.drop nb)) (NoPanic Q) (l.take nb) 0 0 a []) : (Code.region id l.toArray true).wp P Q a w :=
  wp_invT nb [] (fun _ _ => True) L C [] hm hnb hc htb (by simp) hL (fun _ _ _ _ _ _ _ => trivial) trivial h
/-- Where no operation turns a block that was there, nor uses one up: facts need last only where nothing turns. -/
structure Lasts0 (w0 : World) (s : Spec) : Prop where
  lasts : ∀ v (w w' : World), Upd [] w0 w → s.R v w → Upd [] w w' → s.R v w'
  wit : ∃ v, s.adm v
  adm : ∀ v w, s.R v w → s.adm v
def LastsAll0 (w0 : World) : List (Nat × Spec) → Prop
  | [] => True
  | (_, s) :: L => Lasts0 w0 s ∧ LastsAll0 w0 L
theorem lasts0_of {w0 : World} {s : Spec} (h : Lasts [] w0 s) : Lasts0 w0 s := ⟨fun v w w' a b c => h.lasts v w w' [] a b c (by simp) (by simp), h.wit, h.adm⟩
theorem lastsAll0_of {w0 : World} : ∀ (L : List (Nat × Spec)), LastsAll0 w0 L → ∀ j, Lasts0 w0 (specOf L j)
  | [], _, _ => lasts0_of lasts_any
  | (i, s) :: L, h, j => by
    unfold specOf
    split
    · exact h.1
    · exact lastsAll0_of L h.2 j
theorem wp_invNT0 {id : Nat} {a : Act} {w : World} (nb : Nat) (L : List (Nat × Spec)) (hm : P.follows .mixedOrders = true) (hnb : nb ≤ l.length) (hc : invB l.toArray (conOf []) (fun j => ([] : List Nat).contains j) = true) (htb : tailB l.toArray nb = true) (hL : LastsAll0 w.drew L)
    (h : wpV P l.toArray (mkI [] w.drew (fun _ _ => True) L [] [] nb (l.drop nb)) (NoPanic Q) (l.take nb) 0 0 a []) : (Code.region id l.toArray true).wp P Q a w :=
  wp_inv (mkI [] w.drew (fun _ _ => True) L [] [] nb (l.drop nb)) hm rfl hnb rfl hc htb (by simp [mkI]) (fun j v w1 w' T a1 b1 c1 d1 e1 f1 => by
    obtain rfl := f1 (fun j => ⟨rfl, rfl⟩)
    exact (lastsAll0_of L hL j).lasts v w1 w' a1 b1 c1) (fun _ _ _ _ _ _ _ => trivial) trivial (fun j => (lastsAll0_of L hL j).wit) (fun j v w1 => (lastsAll0_of L hL j).adm v w1) h
theorem wpT_op {a : Act} {w : World} (hw : Region.wanted o (yielded ops a.tmps) = true) (h : ∀ K : Act → World → Prop, Hid (∀ a' w', wpT P ops Q l a' w' → K a' w') → o.wp P a w K Q) : wpT P ops Q (o :: l) a w := by
  unfold wpT
  rw [if_pos hw]
  exact h _ (Lib.hid fun _ _ h => h)
theorem wpT_skip {a : Act} {w : World} (hw : Region.wanted o (yielded ops a.tmps) = false) (h : wpT P ops Q l (a.put o.dst undef) w) : wpT P ops Q (o :: l) a w := by
  unfold wpT
  rw [if_neg (by rw [hw]; simp)]
  exact h
theorem wpT_end {a : Act} {w : World} (h : Q .normal a w) : wpT P ops (NoPanic Q) [] a w := h

theorem wpV_light {v : Value} (hl : lightOp o.op = true) (h1 : ∀ w, Upd I.S I.w0 w → Hid (factsV I (availB ops I.con j) G w) → if Region.wanted o (yielded ops A.tmps) then litStep ((execOp A.eval o).run P w) w (fun x => x = v) else v = undef)
    (h2 : wpV P ops I Q l (j + 1) s (A.put o.dst v) G) : wpV P ops I Q (o :: l) j s A G := by
  unfold wpV
  rw [if_pos hl]
  exact ⟨v, fun w hu hf => h1 w hu (Lib.hid hf), h2⟩
theorem wpV_skip (hw : Region.wanted o (yielded ops A.tmps) = false) (hl : lightOp o.op = true) (h2 : wpV P ops I Q l (j + 1) s (A.put o.dst undef) G) : wpV P ops I Q (o :: l) j s A G := by
  unfold wpV
  rw [if_pos hl]
  exact ⟨undef, fun w _ _ => by rw [hw]; rfl, h2⟩
theorem wpV_heavy (hl : lightOp o.op = false) (hw : Region.wanted o (yielded ops A.tmps) = true)
    (h1 : ∀ w, Upd I.S I.w0 w → (I.ch j = true → I.K s w) → Hid (factsV I (availB ops I.con j) G w) → ∀ K : Act → World → Prop, Hid (∀ v w', outV I j s G w v w' → K (A.put o.dst v) w') → o.wp P A w K Q)
    (h2 : ∀ v, I.adm j v → wpV P ops I Q l (j + 1) (if I.ch j then s + 1 else s) (A.put o.dst v) (G ++ [(j, v)])) : wpV P ops I Q (o :: l) j s A G := by
  unfold wpV
  rw [if_neg (by rw [hl]; simp)]
  refine ⟨fun w hu hk hf => ?_, h2⟩
  rw [if_pos hw]
  exact h1 w hu hk (Lib.hid hf) _ (Lib.hid fun v w' h => ⟨v, rfl, h⟩)
/-- A slice literal. -/
theorem wpV_lit {S : List Nat} {w0 : World} {Kx : Nat → World → Prop} {L : List (Nat × Spec)} {C : List (Nat × List Nat)} {CH : List Nat} {nb : Nat} {tl : List Oper} {t : TypeId} {cs : Array Value} {n H : Nat} {w : World} {K : Act → World → Prop} {A : Act} {d : Option Tmp}
    (hK : Hid (∀ v w', outV (mkI S w0 Kx L C CH nb tl) j s G w v w' → K (A.put d v) w')) (hch : CH.contains j = false) (hs : specOf L j = .lit t cs n) (hH : w.heap.size = H) : K (A.put d (.slice (some ⟨H, 0, none⟩) n n)) (w.alloc (.cells cs t)) := by
  subst hH
  refine hK.out _ _ ⟨?_, fun b hb => ?_, ?_, fun h => ?_⟩
  · show (specOf L j).R _ _
    rw [hs]
    exact ⟨_, rfl, Blk.new _ _ _⟩
  · have hb' : b ∈ (specOf L j).fp (.slice (some ⟨w.heap.size, 0, none⟩) n n) := hb
    rw [hs] at hb'
    simp [Spec.lit, Value.ownBlock] at hb'
    subst hb'
    exact .inr ⟨Nat.le_refl _, by simp⟩
  · show Upd (if CH.contains j = true then _ else _) _ _
    rw [hch]
    exact ((Upd.refl [] w).alloc _).mono (by simp)
  · have : CH.contains j = true := h
    rw [hch] at this
    cases this
theorem wpV_heavySkip (hl : lightOp o.op = false) (hw : Region.wanted o (yielded ops A.tmps) = false) (h1 : ∀ w, Upd I.S I.w0 w → (I.ch j = true → I.K s w) → outV I j s G w undef w)
    (h2 : ∀ v, I.adm j v → wpV P ops I Q l (j + 1) (if I.ch j then s + 1 else s) (A.put o.dst v) (G ++ [(j, v)])) : wpV P ops I Q (o :: l) j s A G := by
  unfold wpV
  rw [if_neg (by rw [hl]; simp)]
  refine ⟨fun w hu hk hf => ?_, h2⟩
  rw [hw]
  exact h1 w hu hk
theorem wpV_end (h : ∀ w, Upd I.S I.w0 w → I.K s w → Hid (factsV I (endB ops I.con) G w) → wpT P ops Q I.tl A w) : wpV P ops I Q [] j s A G := fun w hu hk hf => h w hu hk (Lib.hid hf)
/-- What an operation leaves that turns nothing and uses nothing up. -/
theorem outV_new {w w' : World} {v : Value} (hch : I.ch j = false) (hr : I.R j v w') (hfp : ∀ b ∈ I.fp j v, w.heap.size ≤ b ∧ b < w'.heap.size) (hu : Upd [] w w') : outV I j s G w v w' :=
  ⟨hr, fun b hb => .inr (hfp b hb), by rw [hch]; exact hu.mono (by simp), by rw [hch]; simp⟩
end
end Go.Proofs.YtiahnlaplkeiaaaDoor

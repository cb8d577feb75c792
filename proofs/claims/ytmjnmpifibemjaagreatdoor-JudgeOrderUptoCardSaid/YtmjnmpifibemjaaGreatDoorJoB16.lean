/-
 The rule for drawn regions in which nothing turns; what is said of a value may look at its parent's. No program in sight.
 eval.runner: or.
 eval.runner: all, of right statements.
 Right statements, as prog.Right says it and as a recursion says it.
 eval.end: how a transaction ends.
 model.State that is none.
 eval.Run.
 judge's own state; judge.told: does an attempt tell what it is told behind so many?
 A region that draws its order, each of whose operations does what it does in whatever order: one obligation an operation, none for an order. No program in sight.
 A region that draws its order, each of whose operations does what it does in whatever order: the theorem. No program in sight.
-/
import Derived.Test.YtmjnmpifibemjaaGreatDoorJoB15
import Derived.Test.YtmjnmpifibemjaaGreatDoorJoB3
import Derived.BigRegion
import Derived.Test.YtmjnmpifibemjaaGreatDoorJoB4
import Derived.Test.YtmjnmpifibemjaaGreatDoorJoB7
import Derived.Test.YtmjnmpifibemjaaGreatDoorJoB9
import Derived.Test.YtmjnmpifibemjaaGreatDoorJoB2
import Derived.Test.YtmjnmpifibemjaaGreatDoorJoB0
set_option linter.unusedVariables false
namespace Go.Proofs.YtmjnmpifibemjaaGreatDoor.Gr
open Go Go.RowKit

/-- What is said of the value of an operation, and of its parent's. -/
structure Spec2 where
 R : Value → Value → World → Prop
 adm : Value → Prop
def Spec2.of (s : Spec) : Spec2 := ⟨fun _ v w => s.R v w, s.adm⟩
structure Lasts2 (w0 : World) (s : Spec2) : Prop where
 lasts : ∀ p v (w w' : World), Upd [] w0 w → s.R p v w → Upd [] w w' → s.R p v w'
 wit : ∃ v, s.adm v
 adm : ∀ p v w, s.R p v w → s.adm v
theorem lasts2_of {w0 : World} {s : Spec} (h : Lasts0 w0 s) : Lasts2 w0 (.of s) := ⟨fun p v w w' a b c => h.lasts v w w' a b c, h.wit, fun p v w hr => h.adm v w hr⟩
/-- An operation, its parent, what is said. -/
def spec2 : List (Nat × Nat × Spec2) → Nat → Spec2
 | [], _ => .of .any
 | (i, _, s) :: L, j => if j = i then s else spec2 L j
def par2 : List (Nat × Nat × Spec2) → Nat → Nat
 | [], j => j
 | (i, p, _) :: L, j => if j = i then p else par2 L j
def LastsAll2 (w0 : World) : List (Nat × Nat × Spec2) → Prop
 | [] => True
 | (_, _, s) :: L => Lasts2 w0 s ∧ LastsAll2 w0 L
theorem lastsAll2_of {w0 : World} : ∀ (L : List (Nat × Nat × Spec2)), LastsAll2 w0 L → ∀ j, Lasts2 w0 (spec2 L j)
 | [], _, _ => lasts2_of (lasts0_of lasts_any)
 | (i, _, s) :: L, h, j => by
   unfold spec2
   split
   ·exact h.1
   ·exact lastsAll2_of L h.2 j
def mkI2 (w0 : World) (L : List (Nat × Nat × Spec2)) (nb : Nat) (tl : List Oper) : Inv :=
 { nb := nb, tl := tl, S := [], w0 := w0, K := fun _ _ => True, R := fun j => (spec2 L j).R, of := par2 L, adm := fun j => (spec2 L j).adm, fp := fun _ _ => [], con := fun _ => [], ch := fun _ => false }
def ofB (ops : Array Oper) (nb : Nat) (of : Nat → Nat) : Bool := (List.range ops.size).all fun j => of j == j || (decide (of j < nb) && decide (of j < j) && !lightAt ops (of j) && ancB ops j (of j))
theorem ofOk {ops : Array Oper} {I : Inv} (h : ofB ops I.nb I.of = true) : OfOk ops I := fun j hj => by
 unfold ofB at h
 have := List.all_eq_true.1 h j (List.mem_range.2 hj)
 simp only [Bool.or_eq_true, Bool.and_eq_true, beq_iff_eq, decide_eq_true_eq, Bool.not_eq_true'] at this
 rcases this with h1 | ⟨⟨⟨h1, h2⟩, h3⟩, h4⟩
 ·exact .inl h1
 ·exact .inr ⟨h1, h2, h3, h4⟩
section
variable {P : Program} {ops : Array Oper} {I : Inv} {Q : Exit → Act → World → Prop} {o : Oper} {l : List Oper} {j s : Nat} {A : Act} {G : List (Nat × Value)}
theorem wp_inv2 {id : Nat} {a : Act} {w : World} (nb : Nat) (L : List (Nat × Nat × Spec2)) (hm : P.follows .mixedOrders = true) (hnb : nb ≤ l.length) (hc : invB l.toArray (fun _ => []) (fun _ => false) = true) (htb : tailB l.toArray nb = true) (hof : ofB l.toArray nb (par2 L) = true) (hL : LastsAll2 w.drew L)
 (h : wpV P l.toArray (mkI2 w.drew L nb (l.drop nb)) (NoPanic Q) (l.take nb) 0 0 a []) : (Code.region id l.toArray true).wp P Q a w :=
 wp_inv (mkI2 w.drew L nb (l.drop nb)) hm rfl hnb rfl hc htb (by simp [mkI2]) (ofOk hof) (fun j p v w1 w' T a1 b1 c1 d1 e1 f1 => by
  obtain rfl := f1 (fun j => ⟨rfl, rfl⟩)
  exact (lastsAll2_of L hL j).lasts p v w1 w' a1 b1 c1) (fun _ _ _ _ _ _ _ => trivial) trivial (fun j => (lastsAll2_of L hL j).wit) (fun j p v w1 => (lastsAll2_of L hL j).adm p v w1) h
theorem wpT_op {a : Act} {w : World} (hw : Region.wanted o (yielded ops a.tmps) = true) (h : ∀ K : Act → World → Prop, Hid (∀ a' w', wpT P ops Q l a' w' → K a' w') → o.wp P a w K Q) : wpT P ops Q (o :: l) a w := by
 unfold wpT
 rw [if_pos hw]
 exact h _ (Lib.hid fun _ _ h => h)
theorem wpT_end {a : Act} {w : World} (h : Q .normal a w) : wpT P ops (NoPanic Q) [] a w := h

theorem wpV_light {v : Value} (hl : lightOp o.op = true) (h1 : ∀ w, Upd I.S I.w0 w → Hid (factsV I (availB ops I.con j) G w) → if Region.wanted o (yielded ops A.tmps) then litStep ((execOp A.eval o).run P w) w (fun x => x = v) else v = undef)
 (h2 : wpV P ops I Q l (j + 1) s (A.put o.dst v) G) : wpV P ops I Q (o :: l) j s A G := by
 unfold wpV
 rw [if_pos hl]
 exact ⟨v, fun w hu hf => h1 w hu (Lib.hid hf), h2⟩
theorem wpV_skip (hw : Region.wanted o (yielded ops A.tmps) = false) (hl : lightOp o.op = true) (h2 : wpV P ops I Q l (j + 1) s (A.put o.dst undef) G) : wpV P ops I Q (o :: l) j s A G := by
 unfold wpV
 rw [if_pos hl]
 exact ⟨undef, fun w _ _ => by rw [hw]; rfl, h2⟩
theorem wpV_heavy (hl : lightOp o.op = false) (hw : Region.wanted o (yielded ops A.tmps) = true)
 (h1 : ∀ w, Upd I.S I.w0 w → (I.ch j = true → I.K s w) → Hid (factsV I (availB ops I.con j) G w) → ∀ K : Act → World → Prop, Hid (∀ v w', outV I j s G w v w' → K (A.put o.dst v) w') → o.wp P A w K Q)
 (h2 : ∀ v, I.adm j v → wpV P ops I Q l (j + 1) (if I.ch j then s + 1 else s) (A.put o.dst v) (G ++ [(j, v)])) : wpV P ops I Q (o :: l) j s A G := by
 unfold wpV
 rw [if_neg (by rw [hl]; simp)]
 refine ⟨fun w hu hk hf => ?_, h2⟩
 rw [if_pos hw]
 exact h1 w hu hk (Lib.hid hf) _ (Lib.hid fun v w' h => ⟨v, rfl, h⟩)
theorem wpV_heavySkip (hl : lightOp o.op = false) (hw : Region.wanted o (yielded ops A.tmps) = false) (h1 : ∀ w, Upd I.S I.w0 w → (I.ch j = true → I.K s w) → outV I j s G w undef w)
 (h2 : ∀ v, I.adm j v → wpV P ops I Q l (j + 1) (if I.ch j then s + 1 else s) (A.put o.dst v) (G ++ [(j, v)])) : wpV P ops I Q (o :: l) j s A G := by
 unfold wpV
 rw [if_neg (by rw [hl]; simp)]
 refine ⟨fun w hu hk hf => ?_, h2⟩
 rw [hw]
 exact h1 w hu hk
theorem wpV_end (h : ∀ w, Upd I.S I.w0 w → I.K s w → Hid (factsV I (endB ops I.con) G w) → wpT P ops Q I.tl A w) : wpV P ops I Q [] j s A G := fun w hu hk hf => h w hu hk (Lib.hid hf)
/-- What an operation leaves that turns nothing and uses nothing up. -/
theorem outV_new {w w' : World} {v : Value} (hch : I.ch j = false) (hr : I.R j (parV I G j v) v w') (hfp : ∀ b ∈ I.fp j v, w.heap.size ≤ b ∧ b < w'.heap.size) (hu : Upd [] w w') : outV I j s G w v w' :=
 ⟨hr, fun b hb => .inr (hfp b hb), by rw [hch]; exact hu.mono (by simp), by rw [hch]; simp⟩
end
end Go.Proofs.YtmjnmpifibemjaaGreatDoor.Gr

namespace Go.Proofs.YtmjnmpifibemjaaGreatDoor.Gr
open Go.RowKit Assoc MP Ev
attribute [local go_sem] litStep_value

def ints2 (B : Nat) (s : MS) (xs : List Int) : Spec2 := ⟨fun p v w => Ow encK 3 w B v xs ∧ ∃ sb F, p = .pointer (some ⟨sb, 0, none⟩) ∧ Mdl B sb F w s ∧ ∀ b, v.ownBlock = some b → b ∉ F, fun v => ∃ A n c, v = .slice A n c⟩
theorem lasts_ints2 (w0 : World) (B : Nat) (s : MS) (xs : List Int) : Lasts2 w0 (ints2 B s xs) :=
 ⟨fun p v w w' _ ⟨h1, sb, F, h2, h3, h4⟩ hu => ⟨h1.upd0 hu, sb, F, h2, h3.upd0 hu, h4⟩, ⟨_, none, 0, 0, rfl⟩, fun _ _ _ ⟨h, _⟩ => by obtain ⟨A, c, e, _⟩ := h.form; exact ⟨A, _, c, e⟩⟩
set_option maxRecDepth 100000 in
set_option maxHeartbeats 4000000 in
theorem or_ok {H rb : Nat} {F : List Nat} {ks : List Int} {r : RS} {b e : List Stm} (k c reg ar an br bn : Int) (vb ve : Value) (w : World) (hf : RF ks k c reg ar an br bn) (h : Run H rb F ks w r) (ht : r.told.length + 201 ≤ 201 * r.steps) (hb : Stms w H vb b) (he : Stms w H ve e) (hH : H ≤ w.heap.size) (hab : AllC ks b) (hae : AllC ks e) :
 Calls Tryz.prog 121 #[.pointer (some ⟨rb, 0, none⟩), .agg #[.int .i64 k, .int .i64 c, .int .i64 reg, .int .i64 ar, .int .i64 an, .int .i64 br, .int .i64 bn, vb, ve]] w (EvPost H rb F ks (if (evL b r).2 = 3 then evL e { r with steps := (evL b r).1.steps } else evL b r) w) := by
 have HR := Lib.hid h
 have HB := Lib.hid hb
 have HE := Lib.hid he
 have HTB := Lib.hid ht
 have HAB := Lib.hid (And.intro hf.a hf.b)
 have HRF := Lib.hid hf
 have HHH := Lib.hid hH
 obtain ⟨c11, cf, cl⟩ := h.cells
 have XB : Hid (Blk (w.alloc (.cells #[.int .i64 k, .int .i64 c, .int .i64 reg, .int .i64 ar, .int .i64 an, .int .i64 br, .int .i64 bn, vb, ve] 62)) w.heap.size 62 #[.int .i64 k, .int .i64 c, .int .i64 reg, .int .i64 ar, .int .i64 an, .int .i64 br, .int .i64 bn, vb, ve]) := Lib.hid (Blk.new w _ _)
 have UA : Hid (Upd [] w (w.alloc (.cells #[.int .i64 k, .int .i64 c, .int .i64 reg, .int .i64 ar, .int .i64 an, .int .i64 br, .int .i64 bn, vb, ve] 62))) := Lib.hid ((Upd.refl [] w).alloc _)
 clear h ht hb he hH hf
 have HA := Lib.hid hab
 have HAE := Lib.hid hae
 have HMO : Hid (r.steps ≤ (evL b r).1.steps) := Lib.hid (mono_evL b r)
 have HLT : Hid (∀ k ∈ F, H ≤ k ∧ k < w.heap.size) := Lib.hid HR.out.lt
 obtain ⟨X, hX⟩ : ∃ X, evL b r = X := ⟨_, rfl⟩
 have HX := Lib.hid hX
 rw [hX] at HMO ⊢
 obtain ⟨Y, hY⟩ : ∃ Y, (if X.2 = 3 then evL e { r with steps := X.1.steps } else X) = Y := ⟨_, rfl⟩
 have HY := Lib.hid hY
 rw [hY]
 have S1 : Hid (w.heap.size ≤ (w.alloc (.cells #[.int .i64 k, .int .i64 c, .int .i64 reg, .int .i64 ar, .int .i64 an, .int .i64 br, .int .i64 bn, vb, ve] 62)).heap.size) := Lib.hid UA.out.size
 obtain ⟨sb, FM, vt, hF, hrs⟩ := HR.out
 have HFE : Hid (fpR rb vt FM = F) := Lib.hid hF.symm
 have HRS := Lib.hid hrs
 obtain ⟨a0, a1, a2, a3, a4, a5, a6, a7, a8, hrg⟩ := nine hrs.ok.regs
 have HRG := Lib.hid hrg
 have OT : Hid (Ow encK 3 w H vt r.told) := Lib.hid (by unfold Ow; rw [flat_ints]; exact hrs.told)
 obtain ⟨At, ct, hvt, _, _⟩ := own_slice hrs.told
 have HVT := Lib.hid hvt
 have CC : Hid (∀ W, Upd [] w W → W.cell? ⟨rb, 0, none⟩ = some (.pointer (some ⟨sb, 0, none⟩)) ∧ W.cell? ⟨rb, 10, none⟩ = some vt ∧ W.cell? ⟨rb, 1, none⟩ = some (.int .i64 a0) ∧ W.cell? ⟨rb, 2, none⟩ = some (.int .i64 a1) ∧ W.cell? ⟨rb, 3, none⟩ = some (.int .i64 a2) ∧ W.cell? ⟨rb, 4, none⟩ = some (.int .i64 a3) ∧ W.cell? ⟨rb, 5, none⟩ = some (.int .i64 a4) ∧ W.cell? ⟨rb, 6, none⟩ = some (.int .i64 a5) ∧ W.cell? ⟨rb, 7, none⟩ = some (.int .i64 a6) ∧ W.cell? ⟨rb, 8, none⟩ = some (.int .i64 a7) ∧ W.cell? ⟨rb, 9, none⟩ = some (.int .i64 a8)) := Lib.hid (fun W hW => by
  have h1 := HRS.out.upd0 hW
  have h2 : ∀ {i x}, r.regs[i]? = some x → W.cell? ⟨rb, 1 + i, none⟩ = some (.int .i64 x) := fun hx => h1.reg hx
  rw [HRG.out] at h2
  exact ⟨h1.cells.1, h1.cells.2.1, h2 (i := 0) rfl, h2 (i := 1) rfl, h2 (i := 2) rfl, h2 (i := 3) rfl, h2 (i := 4) rfl, h2 (i := 5) rfl, h2 (i := 6) rfl, h2 (i := 7) rfl, h2 (i := 8) rfl⟩)
 have HCL : Hid (∀ W, Upd [] w W → Calls Tryz.prog 70 #[vt] W fun e w' => CloneKPost r.told W e w') := Lib.hid (fun W hW => by
  have h1 := (OT.out.upd0 hW).rd
  have h2 := HRS.out.ok.told
  rw [HVT.out] at h1 ⊢
  exact clone_big _ _ _ _ W h1 rfl (by omega))
 clear hab hae c11 cf hX hY hF hrs hrg hvt
 go_enter Tryz.func121, Tryz.ntmps121
 go_wp2_with fail
 generalize (w.alloc (.cells #[.int .i64 k, .int .i64 c, .int .i64 reg, .int .i64 ar, .int .i64 an, .int .i64 br, .int .i64 bn, vb, ve] 62)) = w1 at *
 have CS : Hid (∀ W, Upd [] w1.drew W → W.cell? ⟨rb, 0, none⟩ = some (.pointer (some ⟨sb, 0, none⟩)) ∧ W.cell? ⟨rb, 10, none⟩ = some vt ∧ W.cell? ⟨rb, 1, none⟩ = some (.int .i64 a0) ∧ W.cell? ⟨rb, 2, none⟩ = some (.int .i64 a1) ∧ W.cell? ⟨rb, 3, none⟩ = some (.int .i64 a2) ∧ W.cell? ⟨rb, 4, none⟩ = some (.int .i64 a3) ∧ W.cell? ⟨rb, 5, none⟩ = some (.int .i64 a4) ∧ W.cell? ⟨rb, 6, none⟩ = some (.int .i64 a5) ∧ W.cell? ⟨rb, 7, none⟩ = some (.int .i64 a6) ∧ W.cell? ⟨rb, 8, none⟩ = some (.int .i64 a7) ∧ W.cell? ⟨rb, 9, none⟩ = some (.int .i64 a8)) := Lib.hid (fun W hW => CC.out W (UA.out.trans ((Upd.refl [] w1).drew.trans hW)))
 refine wp_inv2 16 [(4, 4, .of (mdlN w1.heap.size r.s)), (13, 4, ints2 w1.heap.size r.s r.told), (14, 14, .of (boxN w1.heap.size 69 #[.int .i64 0, .int .i64 0, .int .i64 0, .int .i64 0, .int .i64 0, .int .i64 0, .int .i64 0, .int .i64 0, .int .i64 0]))] (by kernel_rfl) (by simp) (by kernel_rfl) (by kernel_rfl) (by kernel_rfl) ⟨lasts2_of (lasts_mdlN _ _ _), lasts_ints2 _ _ _ _, lasts2_of (lasts_boxN _ _ _ _), trivial⟩ ?_
 simp only [List.take_succ_cons, List.take_zero, List.drop_succ_cons, List.drop_zero]
 iterate 4 (
  with_reducible apply wpV_light
  ·simp only [lightOp]
  ·intro W hU hF
   have f0 := CS.out W hU
   clear hU hF
   go_simp
   exact rfl
  simp only [Act.put, List.setIfInBounds_toArray, List.set_cons_zero, List.set_cons_succ])
 refine wpV_heavy (by simp only [lightOp]) (by rfl) (fun W hU hk hF K hK => ?_) ?_
 ·go_wp2_with fail
  have UH := (UA.out.trans ((Upd.refl [] w1).drew.trans hU))
  refine (m_copy H sb FM r.s W (HRS.out.upd0 UH).mdl).mono ?_
  rintro e' wx ⟨sb', F', rfl, hm, ux⟩
  go_wp2_with fail
  exact hK.out _ _ (outV_new rfl ⟨sb', F', rfl, mdl_base hm ((Upd.refl [] w1).drew.trans hU).size⟩ (by intro b hb; cases hb) ux)
 rintro _ ⟨sb', rfl⟩
 simp only [Act.put, List.setIfInBounds_toArray, List.set_cons_zero, List.set_cons_succ]
 iterate 8 (
  with_reducible apply wpV_light
  ·simp only [lightOp]
  ·intro W hU hF
   have f0 := CS.out W hU
   clear hU hF
   go_simp
   exact rfl
  simp only [Act.put, List.setIfInBounds_toArray, List.set_cons_zero, List.set_cons_succ])
 refine wpV_heavy (by simp only [lightOp]) (by rfl) (fun W hU hk hF K hK => ?_) ?_
 ·obtain ⟨sb4, F4, e4, hm4⟩ := hF.out.1 (by kernel_rfl)
  injection e4 with e4
  injection e4 with e4
  injection e4 with e4
  subst e4
  have HM4 := Lib.hid hm4
  clear hm4
  go_wp2_with fail
  refine (HCL.out W (UA.out.trans ((Upd.refl [] w1).drew.trans hU))).mono ?_
  rintro e' wx ⟨v, rfl, ho, ux⟩
  go_wp2_with fail
  exact hK.out _ _ (outV_new rfl ⟨own_base ho ((Upd.refl [] w1).drew.trans hU).size, sb', F4, rfl, HM4.out.upd0 ux, fun b hb hm => by have h1 := (own_lt ho hb).1; have h2 := (HM4.out.lt b hm).2; omega⟩ (by intro b hb; cases hb) ux)
 rintro _ ⟨A', n', c', rfl⟩
 simp only [Act.put, List.setIfInBounds_toArray, List.set_cons_zero, List.set_cons_succ]
 refine wpV_heavy (by simp only [lightOp]) (by rfl) (fun W hU hk hF K hK => ?_) ?_
 ·go_wp2_with fail
  exact hK.out _ _ (outV_new rfl ⟨_, rfl, ((Upd.refl [] w1).drew.trans hU).size, Blk.new _ _ _⟩ (by intro b hb; cases hb) ((Upd.refl [] _).alloc _))
 rintro _ ⟨g, rfl⟩
 simp only [Act.put, List.setIfInBounds_toArray, List.set_cons_zero, List.set_cons_succ]
 with_reducible apply wpV_light
 ·simp only [lightOp]
 ·intro W hU hF
  have f0 := CS.out W hU
  clear hU hF
  go_simp
  exact rfl
 simp only [Act.put, List.setIfInBounds_toArray, List.set_cons_zero, List.set_cons_succ]
 refine wpV_end (fun W hU _ hF => ?_)
 obtain ⟨ho13, sb2, FC, e4, hm4, hsep⟩ := hF.out.2.1 (by kernel_rfl)
 injection e4 with e4
 injection e4 with e4
 injection e4 with e4
 subst e4
 have O13 := Lib.hid ho13
 have SEP := Lib.hid hsep
 obtain ⟨g2, e14, hg2, hb14⟩ := hF.out.2.2.1 (by kernel_rfl)
 injection e14 with e14
 injection e14 with e14
 injection e14 with e14
 subst e14
 have MC := Lib.hid hm4
 have B14 := Lib.hid hb14
 have HG2 := Lib.hid hg2
 have UX : Hid (Upd [] w W) := Lib.hid (UA.out.trans ((Upd.refl [] w1).drew.trans hU))
 have BX := Lib.hid (XB.out.upd ((Upd.refl [] w1).drew.trans hU) (by simp))
 clear hU hF hm4 hb14 hg2 ho13 hsep
 have x0 : W.cell? ⟨g, 0, none⟩ = some (.int .i64 0) := B14.out.cell 0
 have x1 : W.cell? ⟨g, 1, none⟩ = some (.int .i64 0) := B14.out.cell 1
 have x2 : W.cell? ⟨g, 2, none⟩ = some (.int .i64 0) := B14.out.cell 2
 have x3 : W.cell? ⟨g, 3, none⟩ = some (.int .i64 0) := B14.out.cell 3
 have x4 : W.cell? ⟨g, 4, none⟩ = some (.int .i64 0) := B14.out.cell 4
 have x5 : W.cell? ⟨g, 5, none⟩ = some (.int .i64 0) := B14.out.cell 5
 have x6 : W.cell? ⟨g, 6, none⟩ = some (.int .i64 0) := B14.out.cell 6
 have x7 : W.cell? ⟨g, 7, none⟩ = some (.int .i64 0) := B14.out.cell 7
 have x8 : W.cell? ⟨g, 8, none⟩ = some (.int .i64 0) := B14.out.cell 8
 have xf := B14.out.frozen
 have xl := B14.out.lt
 iterate 2 (
  refine wpT_op (by rfl) (fun K hK => ?_)
  go_wp2_with fail
  refine hK.out _ _ ?_
  clear hK K
  try simp only [Act.put, List.setIfInBounds_toArray, List.set_cons_zero, List.set_cons_succ])
 refine wpT_end ?_
 have P9 := Lib.hid (put9 B14.out (.int .i64 a0) (.int .i64 a1) (.int .i64 a2) (.int .i64 a3) (.int .i64 a4) (.int .i64 a5) (.int .i64 a6) (.int .i64 a7) (.int .i64 a8))
 clear x0 x1 x2 x3 x4 x5 x6 x7 x8 xf xl
 generalize (((((((((W.setCell ⟨g, 0, none⟩ (.int .i64 a0)).setCell ⟨g, 1, none⟩ (.int .i64 a1)).setCell ⟨g, 2, none⟩ (.int .i64 a2)).setCell ⟨g, 3, none⟩ (.int .i64 a3)).setCell ⟨g, 4, none⟩ (.int .i64 a4)).setCell ⟨g, 5, none⟩ (.int .i64 a5)).setCell ⟨g, 6, none⟩ (.int .i64 a6)).setCell ⟨g, 7, none⟩ (.int .i64 a7)).setCell ⟨g, 8, none⟩ (.int .i64 a8)) = W9 at P9 ⊢
 have GW : Hid (w.heap.size < g ∧ w1.heap.size ≤ g) := Lib.hid ⟨Nat.lt_of_lt_of_le XB.out.lt HG2.out, HG2.out⟩
 have U9 : Hid (Upd [] w W9) := Lib.hid (UX.out.trans' P9.out.2 (fun x hx => by simp at hx; subst hx; exact .inr (Nat.le_of_lt GW.out.1)))
 have BX9 := Lib.hid (BX.out.upd P9.out.2 (by simp; have := GW.out.1; omega))
 have MC9 := Lib.hid (MC.out.upd P9.out.2 (fun k hk => by simp; rintro rfl; exact MC.out.off B14.out (by decide) (by decide) (by decide) hk))
 have O9 := Lib.hid (O13.out.upd P9.out.2 (fun q hq => by simp; rintro rfl; exact own_type O13.out B14.out (by decide) hq))
 have e7 : W9.cell? ⟨w.heap.size, 7, none⟩ = some vb := BX9.out.cell 7
 have HC := Lib.hid (HA.out H rb F vb r W9 (HR.out.upd0 U9.out) (tb_le HTB.out) (HB.out.belowW (U9.out.below HHH.out (by simp))) (Nat.le_trans HHH.out U9.out.size))
 rw [HX.out] at HC
 go_wp2_with fail
 refine HC.out.mono ?_
 rintro e' w5 ⟨u, rfl, hsv, ⟨F5, h5, f5⟩, t5⟩
 have H5 := Lib.hid h5
 have T5 := Lib.hid t5
 have F95 := Lib.hid f5
 have G5 := Lib.hid (f5.pre U9.out)
 have HSV := Lib.hid hsv
 have L9 : Hid (∀ k ∈ F, k < w1.heap.size ∧ k < W9.heap.size) := Lib.hid (fun k hk => ⟨Nat.lt_of_lt_of_le (HLT.out k hk).2 S1.out, Nat.lt_of_lt_of_le (HLT.out k hk).2 U9.out.size⟩)
 have M5 := Lib.hid ((mdl_base MC9.out (Nat.le_trans HHH.out S1.out)).upd f5.upd (fun k hk hm => by have h1 := (MC9.out.lt k hk).1; have h2 := (L9.out _ hm).1; omega))
 have B5 := Lib.hid (P9.out.1.upd f5.upd (fun hm => by have h1 := (HLT.out _ hm).2; have h2 := GW.out.1; omega))
 have BX5 := Lib.hid (BX9.out.upd f5.upd (fun hm => by have h1 := (HLT.out _ hm).2; omega))
 have O5 := Lib.hid (O9.out.upd f5.upd (fun q hq hm => by have h1 := (own_lt O9.out hq).1; have h2 := (L9.out _ hm).1; omega))
 have D5 : Hid (∀ k ∈ F5, w1.heap.size ≤ k → W9.heap.size ≤ k) := Lib.hid (fun k hk hm => by
  rcases f5.sub k hk with h | h
  ·have h2 := (L9.out _ h).1; omega
  ·exact h)
 have MK : Hid (r.s.K = ks) := Lib.hid HR.out.ok.K
 have IS := Lib.hid (is_stopv HSV.out 13 3 (.inr ⟨rfl, rfl⟩))
 have HU : Hid (u = .nilIface ∨ (∃ x, u = .iface 40 x) ∨ ∃ x, u = .iface 204 x) := Lib.hid (by
  rcases hsv with ⟨_, h⟩ | ⟨_, h⟩ | ⟨g, _, _, h, _⟩
  ·exact .inl h
  ·exact .inr (.inl ⟨_, h⟩)
  ·exact .inr (.inr ⟨_, h⟩))
 clear h5 f5 t5 HC e7
 by_cases h3 : X.2 = 3
 ·have d3 : (X.2 == 3) = true := by simpa using h3
  rw [d3] at IS
  have HYY : Hid (Y = evL e { r with steps := X.1.steps }) := Lib.hid (by rw [← HY.out, if_pos h3])
  clear hsv d3 h3
  go_wp2_with fail
  refine IS.out.mono ?_
  rintro e' w6 ⟨rfl, rfl⟩
  obtain ⟨sb5, FM5, vt5, hF5, hr5⟩ := H5.out
  have HF5 := Lib.hid hF5
  have HR5 := Lib.hid hr5
  obtain ⟨b0, b1, b2, b3, b4, b5, b6, b7, b8, hb5⟩ := nine hr5.ok.regs
  have h2 : ∀ {i x}, X.1.regs[i]? = some x → w5.cell? ⟨rb, 1 + i, none⟩ = some (.int .i64 x) := fun hx => hr5.reg hx
  rw [hb5] at h2
  have y1 := h2 (i := 0) rfl
  have y2 := h2 (i := 1) rfl
  have y3 := h2 (i := 2) rfl
  have y4 := h2 (i := 3) rfl
  have y5 := h2 (i := 4) rfl
  have y6 := h2 (i := 5) rfl
  have y7 := h2 (i := 6) rfl
  have y8 := h2 (i := 7) rfl
  have y9 := h2 (i := 8) rfl
  obtain ⟨y0, y10, _, yf, yl⟩ := hr5.cells
  have x0 : w5.cell? ⟨g, 0, none⟩ = some (.int .i64 a0) := B5.out.cell 0
  have x1 : w5.cell? ⟨g, 1, none⟩ = some (.int .i64 a1) := B5.out.cell 1
  have x2 : w5.cell? ⟨g, 2, none⟩ = some (.int .i64 a2) := B5.out.cell 2
  have x3 : w5.cell? ⟨g, 3, none⟩ = some (.int .i64 a3) := B5.out.cell 3
  have x4 : w5.cell? ⟨g, 4, none⟩ = some (.int .i64 a4) := B5.out.cell 4
  have x5 : w5.cell? ⟨g, 5, none⟩ = some (.int .i64 a5) := B5.out.cell 5
  have x6 : w5.cell? ⟨g, 6, none⟩ = some (.int .i64 a6) := B5.out.cell 6
  have x7 : w5.cell? ⟨g, 7, none⟩ = some (.int .i64 a7) := B5.out.cell 7
  have x8 : w5.cell? ⟨g, 8, none⟩ = some (.int .i64 a8) := B5.out.cell 8
  have GR : Hid (g ≠ rb) := Lib.hid (by have := GW.out.1; rintro rfl; omega)
  have gr := GR.out
  have rg := gr.symm
  simp only [Nat.reduceAdd] at y1 y2 y3 y4 y5 y6 y7 y8 y9
  clear h2 hb5 hr5 hF5
  go_wp2_with fail
  go_region
  obtain ⟨hr6, u6⟩ := HR5.out.whole M5.out (v' := .slice A' n' c') (td := r.told) (by have := O5.out; unfold Ow at this; rw [flat_ints] at this; exact own_base this (Nat.le_trans HHH.out S1.out)) (fun hm => by have h1 := (MC9.out.lt _ hm).1; have h2 := S1.out; omega) SEP.out MK.out (by have := HR.out.ok.told; exact this) a0 a1 a2 a3 a4 a5 a6 a7 a8 _ rfl
  have R6 := Lib.hid (hr6.upd0 (Upd.refl [] _).drew)
  have U6 := Lib.hid u6.drew
  clear hr6 u6 x0 x1 x2 x3 x4 x5 x6 x7 x8 y0 y1 y2 y3 y4 y5 y6 y7 y8 y9 y10 yf yl gr rg
  generalize (((((((((((w5.setCell ⟨rb, 0, none⟩ (.pointer (some ⟨sb', 0, none⟩))).setCell ⟨rb, 1, none⟩ (.int .i64 a0)).setCell ⟨rb, 2, none⟩ (.int .i64 a1)).setCell ⟨rb, 3, none⟩ (.int .i64 a2)).setCell ⟨rb, 4, none⟩ (.int .i64 a3)).setCell ⟨rb, 5, none⟩ (.int .i64 a4)).setCell ⟨rb, 6, none⟩ (.int .i64 a5)).setCell ⟨rb, 7, none⟩ (.int .i64 a6)).setCell ⟨rb, 8, none⟩ (.int .i64 a7)).setCell ⟨rb, 9, none⟩ (.int .i64 a8)).setCell ⟨rb, 10, none⟩ (.slice A' n' c')).drew = W6 at R6 U6 ⊢
  have BX6 := Lib.hid (BX5.out.upd U6.out (by simp; omega))
  have e8 : W6.cell? ⟨w.heap.size, 8, none⟩ = some ve := BX6.out.cell 8
  have RR : Hid (Run H rb (fpR rb (.slice A' n' c') FC) ks W6 { r with steps := X.1.steps }) := Lib.hid ⟨sb', FC, _, rfl, by have := R6.out; rw [← HRG.out] at this; exact this⟩
  have G6 : Hid (Frm F (fpR rb (.slice A' n' c') FC) w W6) := Lib.hid ⟨G5.out.upd.trans' U6.out (fun x hx => .inl (by simp at hx; subst hx; rw [← HFE.out]; exact List.mem_cons_self ..)), fun q hq => by
   unfold fpR at hq
   rw [List.mem_cons, List.mem_append] at hq
   rcases hq with rfl | hq | hq
   ·exact .inl (by rw [← HFE.out]; exact List.mem_cons_self ..)
   ·right; have h1 := (own_lt O5.out (by simpa using hq)).1; have h2 := S1.out; omega
   ·right; have h1 := (MC9.out.lt _ hq).1; have h2 := S1.out; omega⟩
  have HC6 := Lib.hid (HAE.out H rb (fpR rb (.slice A' n' c') FC) ve { r with steps := X.1.steps } W6 RR.out (by have h1 := HTB.out; have h2 := HMO.out; unfold TB; simp only; omega) (HE.out.frm G6.out (fun q hq => (HLT.out q hq).1) HHH.out) (Nat.le_trans HHH.out G6.out.upd.size))
  go_wp2_with fail
  refine HC6.out.mono ?_
  rintro e' w7 ⟨u7, rfl, hp7⟩
  have HP := Lib.hid (EvPost.preF ⟨u7, rfl, hp7⟩ G6.out)
  clear hp7 e8
  go_wp2_with fail
  go_ret
  rw [HYY.out]
  exact HP.out
 ·have d3 : (X.2 == 3) = false := by simpa using h3
  rw [d3] at IS
  have HYY : Hid (Y = X) := Lib.hid (by rw [← HY.out, if_neg h3])
  clear hsv d3 h3
  go_wp2_with fail
  refine IS.out.mono ?_
  rintro e' w6 ⟨rfl, rfl⟩
  go_wp2_with fail
  go_ret
  rw [HYY.out]
  exact ⟨_, rfl, HSV.out, ⟨F5, H5.out, G5.out⟩, T5.out⟩
set_option maxRecDepth 100000 in
set_option maxHeartbeats 4000000 in
theorem one_or {H rb : Nat} {F : List Nat} {ks : List Int} {r : RS} {b e : List Stm} (c reg ar an br bn : Int) (vb ve : Value) (w : World) (hf : RF ks 14 c reg ar an br bn) (h : Run H rb F ks w r) (ht : r.told.length + 201 ≤ 201 * r.steps) (hb : Stms w H vb b) (he : Stms w H ve e) (hH : H ≤ w.heap.size) (hab : AllC ks b) (hae : AllC ks e) :
 Calls Tryz.prog 106 #[.pointer (some ⟨rb, 0, none⟩), .agg #[.int .i64 14, .int .i64 c, .int .i64 reg, .int .i64 ar, .int .i64 an, .int .i64 br, .int .i64 bn, vb, ve]] w (EvPost H rb F ks (if (evL b r).2 = 3 then evL e { r with steps := (evL b r).1.steps } else evL b r) w) := by
 have HR := Lib.hid h
 have HB := Lib.hid hb
 have HE := Lib.hid he
 have HTB := Lib.hid ht
 have HAB := Lib.hid (And.intro hf.a hf.b)
 have HRF := Lib.hid hf
 have HHH := Lib.hid hH
 obtain ⟨c11, cf, cl⟩ := h.cells
 have XB : Hid (Blk (w.alloc (.cells #[.int .i64 14, .int .i64 c, .int .i64 reg, .int .i64 ar, .int .i64 an, .int .i64 br, .int .i64 bn, vb, ve] 62)) w.heap.size 62 #[.int .i64 14, .int .i64 c, .int .i64 reg, .int .i64 ar, .int .i64 an, .int .i64 br, .int .i64 bn, vb, ve]) := Lib.hid (Blk.new w _ _)
 have UA : Hid (Upd [] w (w.alloc (.cells #[.int .i64 14, .int .i64 c, .int .i64 reg, .int .i64 ar, .int .i64 an, .int .i64 br, .int .i64 bn, vb, ve] 62))) := Lib.hid ((Upd.refl [] w).alloc _)
 clear h ht hb he hH hf
 obtain ⟨Y, hY⟩ : ∃ Y, (if (evL b r).2 = 3 then evL e { r with steps := (evL b r).1.steps } else evL b r) = Y := ⟨_, rfl⟩
 have HC := Lib.hid (or_ok 14 c reg ar an br bn vb ve (w.alloc (.cells #[.int .i64 14, .int .i64 c, .int .i64 reg, .int .i64 ar, .int .i64 an, .int .i64 br, .int .i64 bn, vb, ve] 62)) HRF.out (HR.out.upd0 UA.out) HTB.out (HB.out.belowW (UA.out.below HHH.out (by simp))) (HE.out.belowW (UA.out.below HHH.out (by simp))) (Nat.le_trans HHH.out UA.out.size) hab hae)
 rw [hY] at HC ⊢
 clear hab hae c11 cf cl hY
 go_enter Tryz.func106, Tryz.ntmps106
 go_wp2_with fail
 refine HC.out.mono ?_
 rintro e' w4 ⟨u, rfl, hp⟩
 have HP := Lib.hid (EvPost.pre ⟨u, rfl, hp⟩ UA.out)
 clear hp
 go_wp2_with fail
 go_ret
 exact HP.out
end Go.Proofs.YtmjnmpifibemjaaGreatDoor.Gr

namespace Go.Proofs.YtmjnmpifibemjaaGreatDoor.Ev
open Go.RowKit Assoc MP

theorem one_right (ks : List Int) (k c reg ar an br bn : Int) (b e : List Stm) (hr : rightS ks (.mk k c reg ar an br bn b e) = true) (hb : AllC ks b) (he : AllC ks e) : OneC ks (.mk k c reg ar an br bn b e) := by
 intro H rb F vb ve r w h ht sb se hH
 have hf := right_facts hr
 rw [ev_mk]
 by_cases h9 : k = 9
 ·subst h9
  rw [if_pos rfl]
  exact one_set c reg ar an br bn vb ve w hf h ht sb se hH
 rw [if_neg h9]
 by_cases h10 : k = 10
 ·subst h10
  rw [if_pos rfl]
  exact one_add c reg ar an br bn vb ve w hf h ht sb se hH
 rw [if_neg h10]
 by_cases h11 : k = 11
 ·subst h11
  rw [if_pos rfl]
  by_cases hv : valV r ar an < valV r br bn
  ·rw [if_pos hv]
   exact one_then c reg ar an br bn vb ve w hf h ht sb se hH hb hv
  ·rw [if_neg hv]
   exact one_else c reg ar an br bn vb ve w hf h ht sb se hH he hv
 rw [if_neg h11]
 by_cases h12 : k = 12
 ·subst h12
  rw [if_pos rfl]
  exact one_loop c reg ar an br bn vb ve w hf h ht sb se hH hb
 rw [if_neg h12]
 by_cases h13 : k = 13
 ·subst h13
  rw [if_pos rfl]
  exact one_atomic c reg ar an br bn vb ve w hf h ht sb se hH hb
 rw [if_neg h13]
 by_cases h14 : k = 14
 ·subst h14
  rw [if_pos rfl]
  exact Gr.one_or c reg ar an br bn vb ve w hf h ht sb se hH hb he
 rw [if_neg h14]
 by_cases h15 : k = 15
 ·subst h15
  rw [if_pos rfl]
  exact one_retry c reg ar an br bn vb ve w hf h ht sb se hH
 rw [if_neg h15]
 by_cases h16 : k = 16
 ·subst h16
  rw [if_pos rfl]
  exact one_abort c reg ar an br bn vb ve w hf h ht sb se hH
 rw [if_neg h16]
 have h1 := hf.hk
 exact one_ask k c reg ar an br bn vb ve w hf h ht sb se hH (by omega)
mutual
theorem ones_right (ks : List Int) : ∀ x : Stm, rtS ks x = true → OneC ks x
 | .mk k c reg ar an br bn b e, h => by
   rw [rtS_mk, Bool.and_eq_true, Bool.and_eq_true] at h
   exact one_right ks k c reg ar an br bn b e h.1.1 (all_ok ks b (list_right ks b h.1.2)) (all_ok ks e (list_right ks e h.2))
theorem list_right (ks : List Int) : ∀ l : List Stm, rtL ks l = true → ∀ x ∈ l, OneC ks x
 | [], _, _, hx => by simp at hx
 | y :: l, h, x, hx => by
   rw [rtL_cons, Bool.and_eq_true] at h
   have h1 := ones_right ks y h.1
   have h2 := list_right ks l h.2
   rcases List.mem_cons.1 hx with e | hx
   ·exact e ▸ h1
   ·exact h2 x hx
end
/-- Right statements, done. -/
theorem all_right (ks : List Int) (l : List Stm) (h : rtL ks l = true) : AllC ks l := all_ok ks l (list_right ks l h)
end Go.Proofs.YtmjnmpifibemjaaGreatDoor.Ev

namespace Go.Proofs.YtmjnmpifibemjaaGreatDoor.Ev
open Go.RowKit

theorem walk_right (ks : List Int) : ∀ (L : List (Stm × Nat)) (n : Nat), (walkF (stepR ks) L (0, 0) n).2.1.1 = 0 → ∀ p ∈ L, rightS ks p.1 = true
 | [], _, _, p, hp => by simp at hp
 | (x, d) :: L, n, h, p, hp => by
   by_cases h1 : 100 < n + 1
   ·have e : stepR ks (0, 0) (n + 1) d x = (false, (8, ((n + 1 : Nat) : Int))) := by unfold stepR; simp [h1]
    unfold walkF at h
    rw [e] at h
    simp at h
   ·by_cases h2 : 8 < d
    ·have e : stepR ks (0, 0) (n + 1) d x = (false, (10, ((n + 1 : Nat) : Int))) := by unfold stepR; simp [h1, h2]
     unfold walkF at h
     rw [e] at h
     simp at h
    ·cases h3 : rightS ks x with
     | false =>
       have e : stepR ks (0, 0) (n + 1) d x = (false, (9, ((n + 1 : Nat) : Int))) := by unfold stepR; simp [h1, h2, h3]
       unfold walkF at h
       rw [e] at h
       simp at h
     | true =>
       have e : stepR ks (0, 0) (n + 1) d x = (true, (0, 0)) := by unfold stepR; simp [h1, h2, h3]
       unfold walkF at h
       rw [e] at h
       simp only at h
       rcases List.mem_cons.1 hp with e | hp
       ·subst e; exact h3
       ·exact walk_right ks L (n + 1) h p hp
mutual
theorem rtS_lines (ks : List Int) : ∀ (x : Stm) (d : Nat), (∀ p ∈ x.lines d, rightS ks p.1 = true) → rtS ks x = true
 | .mk k c reg ar an br bn b e, d, h => by
   rw [line_mk] at h
   have hb := rtL_lines ks b (d + 1)
   have he := rtL_lines ks e (d + 1)
   rw [rtS_mk, Bool.and_eq_true, Bool.and_eq_true]
   exact ⟨⟨h _ (List.mem_cons_self ..), hb fun p hp => h p (List.mem_cons_of_mem _ (List.mem_append_left _ hp))⟩, he fun p hp => h p (List.mem_cons_of_mem _ (List.mem_append_right _ hp))⟩
theorem rtL_lines (ks : List Int) : ∀ (l : List Stm) (d : Nat), (∀ p ∈ linesOf d l, rightS ks p.1 = true) → rtL ks l = true
 | [], _, _ => rtL_nil ks
 | x :: l, d, h => by
   have hx := rtS_lines ks x d
   have hl := rtL_lines ks l d
   rw [lines_cons] at h
   rw [rtL_cons, Bool.and_eq_true]
   exact ⟨hx fun p hp => h p (List.mem_append_left _ hp), hl fun p hp => h p (List.mem_append_right _ hp)⟩
end
theorem rt_of_right {ks : List Int} {l : List Stm} (h : (rightR ks l).1 = 0) : rtL ks l = true := rtL_lines ks l 1 (walk_right ks _ _ h)
end Go.Proofs.YtmjnmpifibemjaaGreatDoor.Ev

namespace Go.Proofs.YtmjnmpifibemjaaGreatDoor.Ev
open Go.RowKit

set_option maxRecDepth 100000 in
set_option maxHeartbeats 4000000 in
theorem end_ok {w : World} {u : Value} {n : Int} (h : StopV w u n) (hg : Typed w) :
 Calls Tryz.prog 88 #[u] w fun e w' => e = .returned (.int .i64 (endC n)) ∧ Upd [] w w' := by
 have UA : Hid (Upd [] w (w.alloc (.cells #[.pointer none] 204))) := Lib.hid ((Upd.refl [] w).alloc _)
 have TA : Hid (Typed (w.alloc (.cells #[.pointer none] 204))) := Lib.hid (hg.upd UA.out (by simp))
 have BT := Lib.hid (Blk.new w 204 #[.pointer none])
 rcases h with ⟨rfl, rfl⟩ | ⟨rfl, rfl⟩ | ⟨g, st, y, rfl, hb, hy⟩
 ·clear hg
  go_enter Tryz.func88, Tryz.ntmps88
  go_wp2_with fail
  go_ret
  exact ⟨rfl, UA.out⟩
 ·clear hg
  go_enter Tryz.func88, Tryz.ntmps88
  go_wp2_with fail
  refine (Stp.as_errno 8 w.heap.size _ TA.out).mono ?_
  rintro e w1 ⟨rfl, hw⟩
  have UW : Hid (Upd [] w w1) := Lib.hid (hw ▸ UA.out.trans (Stp.asWorld_upd _ _))
  clear hw
  go_wp2_with fail
  go_ret
  exact ⟨rfl, UW.out⟩
 ·have HB := Lib.hid hb
  have HY := Lib.hid hy
  clear hg hb hy
  go_enter Tryz.func88, Tryz.ntmps88
  go_wp2_with fail
  refine (Stp.as_stop g w.heap.size _ TA.out BT.out).mono ?_
  rintro e w1 ⟨rfl, hw⟩
  have UX : Hid (Upd [] (w.alloc (.cells #[.pointer none] 204)) ((Stp.asWorld (w.alloc (.cells #[.pointer none] 204)) w.heap.size).alloc (.cells #[.pointer (some ⟨g, 0, none⟩)] 204))) := Lib.hid ((Stp.asWorld_upd _ _).alloc _)
  have UW : Hid (Upd [] w w1) := Lib.hid (by
   rw [hw]
   exact (UA.out.trans UX.out).setCell (.inr (Nat.le_refl _)) _)
  have e0 : w1.cell? ⟨w.heap.size, 0, none⟩ = some (.pointer (some ⟨g, 0, none⟩)) := by
   rw [hw]
   exact ((BT.out.upd UX.out (by simp)).set_eq (i := 0) rfl).cell 0
  have e1 : w1.cell? ⟨g, 1, none⟩ = some (.int .i64 y) := (HB.out.upd UW.out (by simp)).cell 1
  clear hw UX
  rcases HY.out with ⟨rfl, rfl⟩ | ⟨rfl, rfl⟩ | ⟨rfl, rfl⟩
  ·go_wp2_with fail
   go_ret
   exact ⟨rfl, UW.out⟩
  ·go_wp2_with fail
   go_ret
   exact ⟨rfl, UW.out⟩
  ·go_wp2_with fail
   go_ret
   exact ⟨rfl, UW.out⟩
end Go.Proofs.YtmjnmpifibemjaaGreatDoor.Ev

namespace Go.Proofs.YtmjnmpifibemjaaGreatDoor
open Go.RowKit Assoc MP
attribute [local go_sem] litStep_value

end Go.Proofs.YtmjnmpifibemjaaGreatDoor

namespace Go.Proofs.YtmjnmpifibemjaaGreatDoor.Ev
open Go.RowKit Assoc MP
attribute [local go_sem] litStep_value

/-- What Run answers: the state (none: 0), the end, what is told, the error. -/
def RunEPost (B : Nat) (s : MS) (l : List Stm) (w : World) (e : Ending) (w' : World) : Prop :=
 ∃ (p : Option Addr) (n : Int) (v u : Value), e = .returned (.tuple #[.pointer p, .agg #[.int .i64 n, v], u]) ∧ Upd [] w w' ∧
   (((rightR s.K l).1 ≠ 0 ∧ p = none ∧ n = 0 ∧ v = .slice none 0 0 ∧ ErrV w' u (rightR s.K l).1 (rightR s.K l).2) ∨
    ((rightR s.K l).1 = 0 ∧ (evL l (r0 s)).2 = 5 ∧ p = none ∧ n = 0 ∧ v = .slice none 0 0 ∧ u = .iface 40 (.int .i64 8)) ∨
    ((rightR s.K l).1 = 0 ∧ (evL l (r0 s)).2 ≠ 5 ∧ n = endC (evL l (r0 s)).2 ∧ u = .nilIface ∧ (evL l (r0 s)).1.told.length ≤ 201000 ∧ w'.ownsRow w.heap.size 3 1 v (evL l (r0 s)).1.told.length (ints (evL l (r0 s)).1.told) ∧
      ∃ sb F, p = some ⟨sb, 0, none⟩ ∧ Mdl w.heap.size sb F w' (if (evL l (r0 s)).2 = 0 then (evL l (r0 s)).1.s else s) ∧ ∀ b, v.ownBlock = some b → b ∉ F))
set_option maxRecDepth 100000 in
set_option maxHeartbeats 4000000 in
theorem run_ok (B sb : Nat) (F : List Nat) (s : MS) (l : List Stm) (v : Value) (w : World) (h : Mdl B sb F w s) (hv : Stms w w.heap.size v l) (hl : sizes l ≤ 900000) (hg : Typed w) :
 Calls Tryz.prog 58 #[.pointer (some ⟨sb, 0, none⟩), v] w (RunEPost B s l w) := by
 have HM := Lib.hid h
 have HV := Lib.hid hv
 have HG := Lib.hid hg
 have HL := Lib.hid hl
 have UA : Hid (Upd [] w (w.alloc (.cells #[.int .i64 0, .slice none 0 0] 34))) := Lib.hid ((Upd.refl [] w).alloc _)
 have EB : Hid (Blk (w.alloc (.cells #[.int .i64 0, .slice none 0 0] 34)) w.heap.size 34 #[.int .i64 0, .slice none 0 0]) := Lib.hid (Blk.new w _ _)
 clear h hv hg hl
 go_enter Tryz.func58, Tryz.ntmps58
 go_wp2_with fail
 refine (m_copy B sb F s _ (HM.out.upd0 UA.out)).mono ?_
 rintro e w1 ⟨sb1, F1, rfl, _, u1⟩
 have U1 := Lib.hid (UA.out.trans u1)
 have EB1 := Lib.hid (EB.out.upd u1 (by simp))
 clear u1
 go_wp2_with fail
 refine (m_kinds B sb F s _ (HM.out.upd0 U1.out)).mono ?_
 rintro e w2 ⟨vk, rfl, ok, u2⟩
 obtain ⟨Ak, ck, rfl, hnk, hck⟩ := own_slice ok
 have KL : Hid (s.K.length ≤ 8) := Lib.hid HM.out.1.k8
 have SK : Hid (Src w2 1 (.slice Ak s.K.length ck) s.K.length (s.K.map (Value.int .i64))) := Lib.hid (by have := Src.of_own ok; rw [flat_ints] at this; exact this)
 have U2 := Lib.hid (U1.out.trans u2)
 have EB2 := Lib.hid (EB1.out.upd u2 (by simp))
 have S2 := Lib.hid U2.out.size
 obtain ⟨nk, hk⟩ : ∃ nk, s.K.length = nk := ⟨_, rfl⟩
 rw [hk] at SK KL ⊢
 clear ok u2 hnk hck hk
 go_wp2_with fail
 refine (prog_right_ok l v Ak nk ck s.K w2 ((HV.out.belowW (U2.out.below (Nat.le_refl _) (by simp))).more S2.out) SK.out (by have := KL.out; omega) HL.out).mono ?_
 rintro e w3 ⟨u, rfl, eu, u3⟩
 have U3 := Lib.hid (U2.out.trans u3)
 have EB3 := Lib.hid (EB2.out.upd u3 (by simp))
 have EU := Lib.hid eu
 clear u3
 by_cases hr : (rightR s.K l).1 = 0
 ·obtain rfl : u = .nilIface := by rw [hr] at eu; exact errv_zero eu
  have HR := Lib.hid hr
  clear eu hr
  go_wp2_with fail
  refine (m_copy B sb F s _ (HM.out.upd0 U3.out)).mono ?_
  rintro e w4 ⟨sb4, F4, rfl, hm4, u4⟩
  have M4 := Lib.hid hm4
  have U4 := Lib.hid (U3.out.trans u4)
  have EB4 := Lib.hid (EB3.out.upd u4 (by simp))
  clear hm4 u4
  go_wp2_with fail
  have R5 : Hid (Run w.heap.size w4.heap.size (fpR w4.heap.size (.slice none 0 0) F4) s.K (w4.alloc (.cells #[.pointer (some ⟨sb4, 0, none⟩), .int .i64 0, .int .i64 0, .int .i64 0, .int .i64 0, .int .i64 0, .int .i64 0, .int .i64 0, .int .i64 0, .int .i64 0, .slice none 0 0, .int .i64 0] 185)) (r0 s)) := Lib.hid (by
   have hu := (Upd.refl [] w4).alloc (.cells #[.pointer (some ⟨sb4, 0, none⟩), .int .i64 0, .int .i64 0, .int .i64 0, .int .i64 0, .int .i64 0, .int .i64 0, .int .i64 0, .int .i64 0, .int .i64 0, .slice none 0 0, .int .i64 0] 185)
   exact ⟨sb4, F4, _, rfl, ⟨Blk.new w4 _ _, (mdl_base M4.out U3.out.size).upd0 hu, own_nil _ _ _ _, U4.out.size, fun hm => by have := (M4.out.lt _ hm).2; omega, fun b hb => by simp [Value.ownBlock] at hb, ⟨rfl, rfl, by simp [r0], by simp [r0]⟩⟩⟩)
  have U5 : Hid (Upd [] w (w4.alloc (.cells #[.pointer (some ⟨sb4, 0, none⟩), .int .i64 0, .int .i64 0, .int .i64 0, .int .i64 0, .int .i64 0, .int .i64 0, .int .i64 0, .int .i64 0, .int .i64 0, .slice none 0 0, .int .i64 0] 185))) := Lib.hid (U4.out.alloc _)
  have HC := Lib.hid (all_right s.K l (rt_of_right HR.out) _ _ _ v _ _ R5.out (by unfold TB; simp [r0]) (HV.out.belowW (U5.out.below (Nat.le_refl _) (by simp))) U5.out.size)
  refine HC.out.mono ?_
  rintro e w6 ⟨u, rfl, hsv, ⟨F6, h6, f6⟩, t6⟩
  obtain ⟨X, hX⟩ : ∃ X, evL l (r0 s) = X := ⟨_, rfl⟩
  have HX := Lib.hid hX
  rw [hX] at hsv h6
  have HSV := Lib.hid hsv
  have F56 := Lib.hid f6
  obtain ⟨sb6, FM6, vt6, rfl, h6⟩ := h6
  have H6 := Lib.hid h6
  obtain ⟨At, ct, rfl, hct, hct'⟩ := own_slice h6.told
  have LT5 := Lib.hid R5.out.lt
  have U6 : Hid (Upd [] w w6) := Lib.hid (U5.out.trans' f6.upd (fun x hx => .inr (LT5.out x hx).1))
  have TY6 : Hid (Typed w6) := Lib.hid (HG.out.upd U6.out (by simp))
  obtain ⟨tn, htn⟩ : ∃ tn, X.1.told.length = tn := ⟨_, rfl⟩
  obtain ⟨en, hen⟩ : ∃ en, endC X.2 = en := ⟨_, rfl⟩
  have HEN := Lib.hid hen
  have HTN := Lib.hid htn
  have CS0 : Hid (∀ W, Upd [] w6 W → W.cell? ⟨w4.heap.size, 10, none⟩ = some (.slice At tn ct)) := Lib.hid (fun W hW => by rw [← HTN.out]; exact (H6.out.upd0 hW).cells.2.1)
  clear hsv h6 f6 t6 hX hct hct' htn hen HC
  go_wp2_with fail
  have CS : Hid (∀ W, Upd [] w6.drew W → W.cell? ⟨w4.heap.size, 10, none⟩ = some (.slice At tn ct)) := Lib.hid (fun W hW => CS0.out W ((Upd.refl [] w6).drew.trans hW))
  refine wp_invNT0 8 [(1, .det (.int .i64 en)), (6, .det (.agg #[.int .i64 en, .slice At tn ct])), (7, boxN w6.heap.size 34 #[.int .i64 0, .slice none 0 0])] (by kernel_rfl) (by simp) (by kernel_rfl) (by kernel_rfl) ⟨lasts0_of (lasts_det _), lasts0_of (lasts_det _), lasts_boxN _ _ _ _, trivial⟩ ?_
  simp only [List.take_succ_cons, List.take_zero, List.drop_succ_cons, List.drop_zero]
  with_reducible apply wpV_light
  ·simp only [lightOp]
  ·intro W hU hF
   have f0 := CS.out W hU
   clear hU hF
   go_simp
   exact rfl
  simp only [Act.put, List.setIfInBounds_toArray, List.set_cons_zero, List.set_cons_succ]
  refine wpV_heavy (by simp only [lightOp]) (by rfl) (fun W hU hk hF K hK => ?_) ?_
  ·go_wp2_with fail
   refine (end_ok (HSV.out.upd0 ((Upd.refl [] w6).drew.trans hU)) (TY6.out.upd ((Upd.refl [] w6).drew.trans hU) (by simp))).mono ?_
   rintro e' wx ⟨rfl, ux⟩
   go_wp2_with fail
   rw [HEN.out]
   exact hK.out _ _ (outV_new rfl rfl (by intro b hb; cases hb) ux)
  rintro _ rfl
  simp only [Act.put, List.setIfInBounds_toArray, List.set_cons_zero, List.set_cons_succ]
  iterate 4 (
   with_reducible apply wpV_light
   ·simp only [lightOp]
   ·intro W hU hF
    have f0 := CS.out W hU
    clear hU hF
    go_simp
    exact rfl
   simp only [Act.put, List.setIfInBounds_toArray, List.set_cons_zero, List.set_cons_succ])
  refine wpV_heavy (by simp only [lightOp]) (by rfl) (fun W hU hk hF K hK => ?_) ?_
  ·go_wp2_with fail
   exact hK.out _ _ (outV_new rfl rfl (by intro b hb; cases hb) (.refl _ _))
  rintro _ rfl
  simp only [Act.put, List.setIfInBounds_toArray, List.set_cons_zero, List.set_cons_succ]
  refine wpV_heavy (by simp only [lightOp]) (by rfl) (fun W hU hk hF K hK => ?_) ?_
  ·go_wp2_with fail
   exact hK.out _ _ (outV_new rfl ⟨_, rfl, ((Upd.refl [] w6).drew.trans hU).size, Blk.new _ _ _⟩ (by intro b hb; cases hb) ((Upd.refl [] _).alloc _))
  rintro _ ⟨g, rfl⟩
  simp only [Act.put, List.setIfInBounds_toArray, List.set_cons_zero, List.set_cons_succ]
  refine wpV_end (fun W hU _ hF => ?_)
  obtain ⟨g2, e7, hg2, hb7⟩ := hF.out.2.2.1 (by kernel_rfl)
  injection e7 with e7
  injection e7 with e7
  injection e7 with e7
  subst e7
  have U7 : Hid (Upd [] w6 W) := Lib.hid ((Upd.refl [] w6).drew.trans hU)
  have GG : Hid (w6.heap.size ≤ g) := Lib.hid hg2
  have B7 := Lib.hid hb7
  have c0 : W.cell? ⟨g, 0, none⟩ = some (.int .i64 0) := hb7.cell 0
  have c1 : W.cell? ⟨g, 1, none⟩ = some (.slice none 0 0) := hb7.cell 1
  have cf := hb7.frozen
  have cl := hb7.lt
  clear hU hF hg2 hb7
  refine wpT_op (by rfl) (fun K hK => ?_)
  go_wp2_with fail
  refine hK.out _ _ ?_
  clear hK K
  try simp only [Act.put, List.setIfInBounds_toArray, List.set_cons_zero, List.set_cons_succ]
  refine wpT_end ?_
  have U8 : Hid (Upd [] w6 ((W.setCell ⟨g, 0, none⟩ (.int .i64 en)).setCell ⟨g, 1, none⟩ (.slice At tn ct))) := Lib.hid ((U7.out.setCell (.inr GG.out) _).setCell (.inr GG.out) _)
  have B8 : Hid (Blk ((W.setCell ⟨g, 0, none⟩ (.int .i64 en)).setCell ⟨g, 1, none⟩ (.slice At tn ct)) g 34 #[.int .i64 en, .slice At tn ct]) := Lib.hid ((B7.out.set_eq (i := 0) rfl).set_eq (i := 1) rfl)
  clear c0 c1 cf cl
  generalize ((W.setCell ⟨g, 0, none⟩ (.int .i64 en)).setCell ⟨g, 1, none⟩ (.slice At tn ct)) = W8 at U8 B8 ⊢
  have H8 := Lib.hid (H6.out.upd0 U8.out)
  have E8 : Hid (Blk W8 w.heap.size 34 #[.int .i64 0, .slice none 0 0]) := Lib.hid (by
   have h3 := EB3.out.lt
   refine ((EB4.out.alloc _).upd F56.out.upd (fun hm => ?_)).upd U8.out (by simp)
   unfold fpR at hm
   rcases List.mem_cons.1 hm with hm | hm
   ·have := U4.out.size
    have h4 := EB4.out.lt
    omega
   ·have := (M4.out.lt _ (by simpa [Value.ownBlock] using hm)).1
    omega)
  have V8 : Hid (Upd [] w W8) := Lib.hid (U6.out.trans U8.out)
  have T8 : Hid (W8.ownsRow w.heap.size 3 1 (.slice At tn ct) tn (ints X.1.told)) := Lib.hid (by rw [← HTN.out]; have := H8.out.told; rw [HTN.out] at this ⊢; exact this)
  have c0 : W8.cell? ⟨g, 0, none⟩ = some (.int .i64 en) := B8.out.cell 0
  have c1 : W8.cell? ⟨g, 1, none⟩ = some (.slice At tn ct) := B8.out.cell 1
  have k0 : W8.cell? ⟨w4.heap.size, 0, none⟩ = some (.pointer (some ⟨sb6, 0, none⟩)) := H8.out.cells.1
  have e0 : W8.cell? ⟨w.heap.size, 0, none⟩ = some (.int .i64 0) := E8.out.cell 0
  have e1 : W8.cell? ⟨w.heap.size, 1, none⟩ = some (.slice none 0 0) := E8.out.cell 1
  have ef := E8.out.frozen
  have el := E8.out.lt
  have HCOD : Hid (Cod X.2) := Lib.hid (HX.out ▸ cod_evL l (r0 s))
  by_cases h5 : X.2 = 5
  ·obtain rfl : en = 0 := by rw [← HEN.out, h5]; rfl
   obtain rfl : u = .iface 40 (.int .i64 8) := by
    rcases HSV.out with ⟨h, _⟩ | ⟨_, h⟩ | ⟨_, _, _, _, _, h⟩
    ·omega
    ·exact h
    ·omega
   have H5 := Lib.hid h5
   clear h5
   go_wp2_with fail
   have E9 : Hid (Blk ((W8.setCell ⟨w.heap.size, 0, none⟩ (.int .i64 0)).setCell ⟨w.heap.size, 1, none⟩ (.slice none 0 0)) w.heap.size 34 #[.int .i64 0, (.slice none 0 0)]) := Lib.hid ((E8.out.set_eq (i := 0) rfl).set_eq (i := 1) rfl)
   have U9 : Hid (Upd [w.heap.size] W8 ((W8.setCell ⟨w.heap.size, 0, none⟩ (.int .i64 0)).setCell ⟨w.heap.size, 1, none⟩ (.slice none 0 0))) := Lib.hid (((Upd.refl [w.heap.size] W8).setCell (p := ⟨w.heap.size, 0, none⟩) (.inl (by simp)) _).setCell (p := ⟨w.heap.size, 1, none⟩) (.inl (by simp)) _)
   clear c0 c1 k0 e0 e1 ef el
   generalize ((W8.setCell ⟨w.heap.size, 0, none⟩ (.int .i64 0)).setCell ⟨w.heap.size, 1, none⟩ (.slice none 0 0)) = W9 at E9 U9 ⊢
   have d0 : W9.cell? ⟨w.heap.size, 0, none⟩ = some (.int .i64 0) := E9.out.cell 0
   have d1 : W9.cell? ⟨w.heap.size, 1, none⟩ = some (.slice none 0 0) := E9.out.cell 1
   have V9 : Hid (Upd [] w W9) := Lib.hid (V8.out.trans' U9.out (fun x hx => by simp at hx; subst hx; exact .inr (Nat.le_refl _)))
   refine bodyPost_ret (v := .tuple #[.pointer none, .agg #[.int .i64 0, (.slice none 0 0)], .iface 40 (.int .i64 8)]) (by simp [results, Tryz.results58, go_sem, d0, d1]) rfl ?_
   exact ⟨none, 0, _, _, rfl, V9.out, .inr (.inl ⟨HR.out, by rw [HX.out]; exact H5.out, rfl, rfl, rfl, rfl⟩)⟩
  ·by_cases h0 : X.2 = 0
   ·obtain rfl : en = 1 := by rw [← HEN.out, h0]; rfl
    have H0 := Lib.hid h0
    have H5 := Lib.hid h5
    clear h5 h0
    go_wp2_with fail
    go_region
    have E9 : Hid (Blk (((W8.setCell ⟨w.heap.size, 0, none⟩ (.int .i64 1)).setCell ⟨w.heap.size, 1, none⟩ (.slice At tn ct)).drew) w.heap.size 34 #[.int .i64 1, .slice At tn ct]) := Lib.hid ((E8.out.set_eq (i := 0) rfl).set_eq (i := 1) rfl).drew
    have U9 : Hid (Upd [w.heap.size] W8 (((W8.setCell ⟨w.heap.size, 0, none⟩ (.int .i64 1)).setCell ⟨w.heap.size, 1, none⟩ (.slice At tn ct)).drew)) := Lib.hid ((((Upd.refl [w.heap.size] W8).setCell (p := ⟨w.heap.size, 0, none⟩) (.inl (by simp)) _).setCell (p := ⟨w.heap.size, 1, none⟩) (.inl (by simp)) _)).drew
    clear c0 c1 k0 e0 e1 ef el
    generalize (((W8.setCell ⟨w.heap.size, 0, none⟩ (.int .i64 1)).setCell ⟨w.heap.size, 1, none⟩ (.slice At tn ct)).drew) = W9 at E9 U9 ⊢
    go_wp2_with fail
    have d0 : W9.cell? ⟨w.heap.size, 0, none⟩ = some (.int .i64 1) := E9.out.cell 0
    have d1 : W9.cell? ⟨w.heap.size, 1, none⟩ = some (.slice At tn ct) := E9.out.cell 1
    have V9 : Hid (Upd [] w W9) := Lib.hid (V8.out.trans' U9.out (fun x hx => by simp at hx; subst hx; exact .inr (Nat.le_refl _)))
    refine bodyPost_ret (v := .tuple #[.pointer (some ⟨sb6, 0, none⟩), .agg #[.int .i64 1, .slice At tn ct], .nilIface]) (by simp [results, Tryz.results58, go_sem, d0, d1]) rfl ?_
    have hm := H8.out.mdl
    have hoff := hm.off E8.out (by decide) (by decide) (by decide)
    refine ⟨some ⟨sb6, 0, none⟩, 1, _, _, rfl, V9.out, .inr (.inr ⟨HR.out, by rw [HX.out]; exact H5.out, by rw [HX.out]; exact HEN.out.symm, rfl, by rw [HX.out]; exact H8.out.ok.told, ?_, sb6, FM6, rfl, ?_, ?_⟩)⟩
    ·rw [HX.out, HTN.out]
     exact own_upd T8.out U9.out (fun b hb hm => own_type T8.out E8.out (by decide) (by simp at hm; rw [hm] at hb; exact hb))
    ·rw [HX.out, if_pos H0.out]
     exact hm.upd U9.out (fun k hk hk' => by simp at hk'; rw [hk'] at hk; exact hoff hk)
    ·exact fun b hb => H8.out.tm b (by rw [HTN.out]; exact hb)
   ·have f0 : (en == (0 : Int)) = false := by
     rw [← HEN.out]; rcases HCOD.out with h | h | h | h | h <;> first | exact absurd h h0 | exact absurd h h5 | (rw [h]; rfl)
    have f1 : (en == (1 : Int)) = false := by
     rw [← HEN.out]; rcases HCOD.out with h | h | h | h | h <;> first | exact absurd h h0 | exact absurd h h5 | (rw [h]; rfl)
    have H0 := Lib.hid h0
    have H5 := Lib.hid h5
    clear h5 h0
    go_wp2_with fail
    have CS9 : Hid (∀ W, Upd [] W8.drew W → W.cell? ⟨g, 0, none⟩ = some (.int .i64 en) ∧ W.cell? ⟨g, 1, none⟩ = some (.slice At tn ct)) := Lib.hid (fun W hW => by
     have hb := B8.out.upd ((Upd.refl [] W8).drew.trans hW) (by simp)
     exact ⟨hb.cell 0, hb.cell 1⟩)
    refine wp_invNT0 4 [(1, mdlN W8.heap.size s)] (by kernel_rfl) (by simp) (by kernel_rfl) (by kernel_rfl) ⟨lasts_mdlN _ _ _, trivial⟩ ?_
    simp only [List.take_succ_cons, List.take_zero, List.drop_succ_cons, List.drop_zero]
    with_reducible apply wpV_light
    ·simp only [lightOp]
    ·intro W hU hF
     clear hU hF
     go_simp
     exact rfl
    simp only [Act.put, List.setIfInBounds_toArray, List.set_cons_zero, List.set_cons_succ]
    refine wpV_heavy (by simp only [lightOp]) (by rfl) (fun W hU hk hF K hK => ?_) ?_
    ·go_wp2_with fail
     refine (m_copy B sb F s W (HM.out.upd0 (V8.out.trans ((Upd.refl [] W8).drew.trans hU)))).mono ?_
     rintro e wx ⟨sb9, F9, rfl, hm9, u9⟩
     go_wp2_with fail
     exact hK.out _ _ (outV_new rfl ⟨sb9, F9, rfl, mdl_base hm9 ((Upd.refl [] W8).drew.trans hU).size⟩ (by intro b hb; cases hb) u9)
    rintro _ ⟨sb9, rfl⟩
    simp only [Act.put, List.setIfInBounds_toArray, List.set_cons_zero, List.set_cons_succ]
    with_reducible apply wpV_light
    ·simp only [lightOp]
    ·intro W hU hF
     have f0 := CS9.out W hU
     obtain ⟨f01, f02⟩ := f0
     clear hU hF
     go_simp
     exact rfl
    simp only [Act.put, List.setIfInBounds_toArray, List.set_cons_zero, List.set_cons_succ]
    with_reducible apply wpV_light
    ·simp only [lightOp]
    ·intro W hU hF
     clear hU hF
     go_simp
     exact rfl
    simp only [Act.put, List.setIfInBounds_toArray, List.set_cons_zero, List.set_cons_succ]
    refine wpV_end (fun W hU _ hF => ?_)
    obtain ⟨sb9', F9, e9, hm9⟩ := hF.out.1 (by kernel_rfl)
    injection e9 with e9
    injection e9 with e9
    injection e9 with e9
    subst e9
    have U7' : Hid (Upd [] W8 W) := Lib.hid ((Upd.refl [] W8).drew.trans hU)
    have M9 := Lib.hid hm9
    have E8' := Lib.hid (E8.out.upd U7'.out (by simp))
    have V8' := Lib.hid (V8.out.trans U7'.out)
    have T8' := Lib.hid (own_upd0 T8.out U7'.out)
    clear c0 c1 k0 e0 e1 ef el hU hF hm9
    have c0 : W.cell? ⟨g, 0, none⟩ = some (.int .i64 en) := (B8.out.upd U7'.out (by simp)).cell 0
    have c1 : W.cell? ⟨g, 1, none⟩ = some (.slice At tn ct) := (B8.out.upd U7'.out (by simp)).cell 1
    have k0 : W.cell? ⟨w4.heap.size, 0, none⟩ = some (.pointer (some ⟨sb6, 0, none⟩)) := (H8.out.upd0 U7'.out).cells.1
    have e0 : W.cell? ⟨w.heap.size, 0, none⟩ = some (.int .i64 0) := E8'.out.cell 0
    have e1 : W.cell? ⟨w.heap.size, 1, none⟩ = some (.slice none 0 0) := E8'.out.cell 1
    have ef := E8'.out.frozen
    have el := E8'.out.lt
    iterate 2 (
     refine wpT_op (by rfl) (fun K hK => ?_)
     go_wp2_with fail
     refine hK.out _ _ ?_
     clear hK K
     try simp only [Act.put, List.setIfInBounds_toArray, List.set_cons_zero, List.set_cons_succ])
    refine wpT_end ?_
    have E9 : Hid (Blk ((W.setCell ⟨w.heap.size, 0, none⟩ (.int .i64 en)).setCell ⟨w.heap.size, 1, none⟩ (.slice At tn ct)) w.heap.size 34 #[.int .i64 en, .slice At tn ct]) := Lib.hid ((E8'.out.set_eq (i := 0) rfl).set_eq (i := 1) rfl)
    have U9 : Hid (Upd [w.heap.size] W ((W.setCell ⟨w.heap.size, 0, none⟩ (.int .i64 en)).setCell ⟨w.heap.size, 1, none⟩ (.slice At tn ct))) := Lib.hid (((Upd.refl [w.heap.size] W).setCell (p := ⟨w.heap.size, 0, none⟩) (.inl (by simp)) _).setCell (p := ⟨w.heap.size, 1, none⟩) (.inl (by simp)) _)
    clear c0 c1 k0 e0 e1 ef el
    generalize ((W.setCell ⟨w.heap.size, 0, none⟩ (.int .i64 en)).setCell ⟨w.heap.size, 1, none⟩ (.slice At tn ct)) = W9 at E9 U9 ⊢
    go_wp2_with fail
    have d0 : W9.cell? ⟨w.heap.size, 0, none⟩ = some (.int .i64 en) := E9.out.cell 0
    have d1 : W9.cell? ⟨w.heap.size, 1, none⟩ = some (.slice At tn ct) := E9.out.cell 1
    have V9 : Hid (Upd [] w W9) := Lib.hid (V8'.out.trans' U9.out (fun x hx => by simp at hx; subst hx; exact .inr (Nat.le_refl _)))
    refine bodyPost_ret (v := .tuple #[.pointer (some ⟨sb9, 0, none⟩), .agg #[.int .i64 en, .slice At tn ct], .nilIface]) (by simp [results, Tryz.results58, go_sem, d0, d1]) rfl ?_
    have hoff := M9.out.off E8'.out (by decide) (by decide) (by decide)
    refine ⟨some ⟨sb9, 0, none⟩, en, _, _, rfl, V9.out, .inr (.inr ⟨HR.out, by rw [HX.out]; exact H5.out, by rw [HX.out]; exact HEN.out.symm, rfl, by rw [HX.out]; exact H8.out.ok.told, ?_, sb9, F9, rfl, ?_, ?_⟩)⟩
    ·rw [HX.out, HTN.out]
     exact own_upd T8'.out U9.out (fun b hb hm => own_type T8'.out E8'.out (by decide) (by simp at hm; rw [hm] at hb; exact hb))
    ·rw [HX.out, if_neg H0.out]
     exact mdl_base (M9.out.upd U9.out (fun k hk hk' => by simp at hk'; rw [hk'] at hk; exact hoff hk)) V8.out.size
    ·intro b hb hb'
     have h1 := (own_lt T8.out hb).2
     have h2 := (M9.out.lt b hb').1
     omega
 ·have HR := Lib.hid hr
  have c0 := EB3.out.cell 0
  have c1 := EB3.out.cell 1
  have cf := EB3.out.frozen
  have cl := EB3.out.lt
  have z0 : (#[Value.int .i64 0, .slice none 0 0] : Array Value)[0]? = some (.int .i64 0) := rfl
  have z1 : (#[Value.int .i64 0, .slice none 0 0] : Array Value)[1]? = some (.slice none 0 0) := rfl
  rw [z0] at c0
  rw [z1] at c1
  clear z0 z1
  have EB4 : Hid (Blk ((w3.setCell ⟨w.heap.size, 0, none⟩ (.int .i64 0)).setCell ⟨w.heap.size, 1, none⟩ (.slice none 0 0)) w.heap.size 34 #[.int .i64 0, .slice none 0 0]) := Lib.hid ((EB3.out.set_eq (i := 0) rfl).set_eq (i := 1) rfl)
  have U34 : Hid (Upd [w.heap.size] w3 ((w3.setCell ⟨w.heap.size, 0, none⟩ (.int .i64 0)).setCell ⟨w.heap.size, 1, none⟩ (.slice none 0 0))) := Lib.hid ((((Upd.refl [w.heap.size] w3).setCell (p := ⟨w.heap.size, 0, none⟩) (.inl (by simp)) _).setCell (p := ⟨w.heap.size, 1, none⟩) (.inl (by simp)) _))
  have U4 : Hid (Upd [] w ((w3.setCell ⟨w.heap.size, 0, none⟩ (.int .i64 0)).setCell ⟨w.heap.size, 1, none⟩ (.slice none 0 0))) := Lib.hid (U3.out.trans' U34.out (fun x hx => by simp at hx; subst hx; exact .inr (Nat.le_refl _)))
  rcases eu with ⟨_, h0, _⟩ | ⟨rfl, hb, ha⟩ | ⟨g, rfl, hb, hn⟩
  ·exact absurd h0 hr
  ·have HBN := Lib.hid (And.intro hb ha)
   clear hr hb ha
   go_wp2_with fail
   clear c0 c1 cf cl
   generalize ((w3.setCell ⟨w.heap.size, 0, none⟩ (.int .i64 0)).setCell ⟨w.heap.size, 1, none⟩ (.slice none 0 0)) = W4 at EB4 U34 U4 ⊢
   have d0 : W4.cell? ⟨w.heap.size, 0, none⟩ = some (.int .i64 0) := EB4.out.cell 0
   have d1 : W4.cell? ⟨w.heap.size, 1, none⟩ = some (.slice none 0 0) := EB4.out.cell 1
   refine bodyPost_ret (v := .tuple #[.pointer none, .agg #[.int .i64 0, .slice none 0 0], (.iface 40 (.int .i64 (rightR s.K l).1))]) (by simp [results, Tryz.results58, go_sem, d0, d1]) rfl ?_
   exact ⟨none, 0, _, _, rfl, U4.out, .inl ⟨HR.out, rfl, rfl, rfl, .inr (.inl ⟨rfl, HBN.out.1, HBN.out.2⟩)⟩⟩
  ·have HBN := Lib.hid (And.intro hb hn)
   clear hr hb hn
   go_wp2_with fail
   clear c0 c1 cf cl
   generalize ((w3.setCell ⟨w.heap.size, 0, none⟩ (.int .i64 0)).setCell ⟨w.heap.size, 1, none⟩ (.slice none 0 0)) = W4 at EB4 U34 U4 ⊢
   have d0 : W4.cell? ⟨w.heap.size, 0, none⟩ = some (.int .i64 0) := EB4.out.cell 0
   have d1 : W4.cell? ⟨w.heap.size, 1, none⟩ = some (.slice none 0 0) := EB4.out.cell 1
   refine bodyPost_ret (v := .tuple #[.pointer none, .agg #[.int .i64 0, .slice none 0 0], (.iface 96 (.pointer (some ⟨g, 0, none⟩)))]) (by simp [results, Tryz.results58, go_sem, d0, d1]) rfl ?_
   exact ⟨none, 0, _, _, rfl, U4.out, .inl ⟨HR.out, rfl, rfl, rfl, .inr (.inr ⟨g, rfl, HBN.out.1.upd U34.out (by simp; exact Blk.ne_ HBN.out.1 EB3.out (by decide)), HBN.out.2⟩)⟩⟩
end Go.Proofs.YtmjnmpifibemjaaGreatDoor.Ev

namespace Go.Proofs.YtmjnmpifibemjaaGreatDoor
open Go.RowKit St Jd Ev
attribute [local go_sem] litStep_value

/-- States, each where it lies. -/
structure StsV (B : Nat) (w : World) (av : Value) (sts : List MP.MS) (fp : List (Nat × List Nat)) : Prop where
 len : fp.length = sts.length
 own : w.ownsRow B 52 1 av sts.length (fp.map fun q => .pointer (some ⟨q.1, 0, none⟩))
 st : ∀ (i : Nat) q s, fp[i]? = some q → sts[i]? = some s → Mdl B q.1 q.2 w s ∧ ∀ b, av.ownBlock = some b → b ∉ q.2
theorem StsV.upd {B : Nat} {w w' : World} {av : Value} {sts : List MP.MS} {fp : List (Nat × List Nat)} {T : List Nat} (h : StsV B w av sts fp) (hu : Upd T w w') (h1 : ∀ b, av.ownBlock = some b → b ∉ T) (h2 : ∀ q ∈ fp, ∀ x ∈ q.2, x ∉ T) : StsV B w' av sts fp :=
 ⟨h.len, own_upd h.own hu h1, fun i q s hq hs => ⟨(h.st i q s hq hs).1.upd hu (fun x hx => h2 q (List.mem_of_getElem? hq) x hx), (h.st i q s hq hs).2⟩⟩
theorem StsV.upd0 {B : Nat} {w w' : World} {av : Value} {sts : List MP.MS} {fp : List (Nat × List Nat)} (h : StsV B w av sts fp) (hu : Upd [] w w') : StsV B w' av sts fp := h.upd hu (fun _ _ => by simp) (fun _ _ _ _ => by simp)
/-- The judge's block. -/
structure JSt (B jb : Nat) (p : Pn) (kv tv dv ov av : Value) (M : List En) (od : List Nat) (sts : List MP.MS) (fp : List (Nat × List Nat)) (w : World) : Prop where
 box : Blk w jb 77 #[.int .i64 p.words, .int .i64 p.pat, kv, tv, dv, ov, av]
 jB : B ≤ jb
 plan : PlanV w p kv tv
 dn : Ow encE 42 w B dv M
 od : w.ownsRow B 3 1 ov od.length (od.map fun (x : Nat) => Value.int .i64 x)
 sts : StsV B w av sts fp
 ty : Typed w
 en : ∀ m ∈ M, EnOk w m
 nj : ∀ q ∈ fp, jb ∉ q.2
theorem JSt.upd0 {B jb : Nat} {p : Pn} {kv tv dv ov av : Value} {M : List En} {od : List Nat} {sts : List MP.MS} {fp : List (Nat × List Nat)} {w w' : World} (h : JSt B jb p kv tv dv ov av M od sts fp w) (hu : Upd [] w w') : JSt B jb p kv tv dv ov av M od sts fp w' :=
 ⟨h.box.upd hu (by simp), h.jB, h.plan.upd0 hu, h.dn.upd0 hu, own_upd0 h.od hu, h.sts.upd0 hu, h.ty.upd hu (by simp), fun m hm => ((h.en m hm).upd0 hu).1, h.nj⟩
/-- All transactions are of a size. -/
def SzP (p : Pn) : Prop := ∀ t ∈ p.ths, ∀ l ∈ t, sizes l ≤ 900000
theorem txn_size {p : Pn} (hf : SzP p) {x : Att} {l : List Stm} (h : txnR p x = some l) : sizes l ≤ 900000 := by
 obtain ⟨t, ht, hl⟩ := txn_mem h
 exact hf t ht l hl
theorem edW_upd {w w' : World} {m : En} (h : EnOk w m) (hu : Upd [] w w') : edW w' m = edW w m := by
 unfold edW
 rw [(h.upd0 hu).2]
/-- What Run answers where nothing can go wrong. -/
def RunG (B : Nat) (s : MP.MS) (l : List Stm) (w : World) (e : Ending) (w' : World) : Prop :=
 ∃ (sb : Nat) (F : List Nat) (v : Value), e = .returned (.tuple #[.pointer (some ⟨sb, 0, none⟩), .agg #[.int .i64 (endE s l), v], .nilIface]) ∧ Upd [] w w' ∧ (toldE s l).length ≤ 201000 ∧ w'.ownsRow w.heap.size 3 1 v (toldE s l).length ((toldE s l).map (Value.int .i64)) ∧
   Mdl w.heap.size sb F w' (finE s l) ∧ ∀ b, v.ownBlock = some b → b ∉ F
theorem run_good {B sb : Nat} {F : List Nat} {s : MP.MS} {l : List Stm} {v : Value} (w : World) (h : Mdl B sb F w s) (hv : Stms w w.heap.size v l) (hl : sizes l ≤ 900000) (hg : Typed w) (hk : KO s) (hr : (rightR s.K l).1 = 0) :
 Calls Tryz.prog 58 #[.pointer (some ⟨sb, 0, none⟩), v] w (RunG B s l w) := by
 refine (run_ok B sb F s l v w h hv hl hg).mono ?_
 rintro e w' ⟨p, n, v', u, rfl, hu, hc⟩
 have he := err_none hk hr
 have h5 := (kor_evL l (r0 s) hk).2
 have e1 : endE s l = endC (evL l (r0 s)).2 := by unfold endE; rw [if_pos he]
 have e2 : toldE s l = (evL l (r0 s)).1.told := by unfold toldE; rw [if_pos he]
 rcases hc with hc | hc | hc
 ·exact absurd hr hc.1
 ·exact absurd hc.2.1 h5
 ·obtain ⟨_, _, rfl, rfl, h1, h2, sb', F', rfl, h3, h4⟩ := hc
  refine ⟨sb', F', v', by rw [e1], hu, by rw [e2]; exact h1, by rw [e2]; exact h2, h3, h4⟩
set_option maxRecDepth 100000 in
set_option maxHeartbeats 4000000 in
theorem told_ok {B jb : Nat} {p : Pn} {kv tv dv ov av : Value} {M : List En} {od : List Nat} {sts : List MP.MS} {fp : List (Nat × List Nat)} (w : World) (h : JSt B jb p kv tv dv ov av M od sts fp w) (hf : FitP p) (hz : SzP p) (m : En) (hm : EnOk w m) (h1k : m.tn ≤ 1000) {l : List Stm} (hx : txnR p (attE m) = some l)
 (n : Nat) {s : MP.MS} (hs : sts[n]? = some s) (hso : StOk p s) (h100 : sts.length ≤ 100) :
 Calls Tryz.prog 61 #[.pointer (some ⟨jb, 0, none⟩), .agg (enCells m).toArray, .int .i64 n] w fun e w' => e = .returned (.bool (toldB p (edW w m) s)) ∧ Upd [] w w' := by
 have hnl := (List.getElem?_eq_some_iff.1 hs).1
 obtain ⟨q, hq⟩ : ∃ q, fp[n]? = some q := ⟨_, List.getElem?_eq_getElem (by rw [h.sts.len]; exact hnl)⟩
 obtain ⟨ga, ca, rfl⟩ : ∃ g c, av = .slice (some ⟨g, 0, none⟩) sts.length c := by
  obtain ⟨g, c, _, e, _⟩ := own_form h.sts.own (by omega)
  exact ⟨g, c, e⟩
 have ca1 : w.cell? ⟨ga, n, none⟩ = some (.pointer (some ⟨q.1, 0, none⟩)) := own_cell h.sts.own n _ (by rw [List.getElem?_map, hq]; rfl)
 have ca2 : ga < w.heap.size := (own_lt h.sts.own (b := ga) rfl).2
 have bx := h.box.facts
 obtain ⟨Ad, cd, rfl, _, _⟩ := own_slice h.dn
 obtain ⟨Ao, co, rfl, _, _⟩ := own_slice h.od
 have HJ := Lib.hid h
 have HF := Lib.hid hf
 have HM := Lib.hid hm
 have HX := Lib.hid hx
 have HS : Hid (Mdl B q.1 q.2 w s ∧ StOk p s) := Lib.hid ⟨(h.sts.st n q s hq hs).1, hso⟩
 have HZ := Lib.hid (txn_size hz hx)
 have HTX := Lib.hid (txn_ok p kv tv m)
 have H100 := Lib.hid (And.intro hf.th6 hf.tx20)
 obtain ⟨sn, hsn⟩ : ∃ k, k = sts.length := ⟨_, rfl⟩
 rw [← hsn] at hnl h100 bx
 have HSN := Lib.hid hsn
 have hni : (n : Int) < sn := by omega
 have hs100 : (sn : Int) ≤ 100 := by omega
 have htn : (m.tn : Int) ≤ 1000 := by omega
 have H1K := Lib.hid h1k
 clear h hf hz hm hx hs hso hq hsn hnl h100 h1k
 simp only [enCells]
 go_enter Tryz.func61, Tryz.ntmps61
 go_wp2_with fail
 refine wp_forced (by kernel_rfl) (by kernel_rfl) ?_
 simp only [ordered, List.filter_cons, List.filter_nil, isFloat, Option.isNone_none, Option.isNone_some, Bool.true_and, Bool.and_true, Bool.false_and, Bool.and_false, List.all_toArray, List.all_cons, List.all_nil, Region.binds, Bool.not_true, Bool.not_false, if_true, if_false, Bool.false_eq_true, List.cons_append, List.nil_append, ite_true, ite_false]
 repeat (refine wpF_light ?_ (fun K hK => ?_); (· simp only [lightOp]; done); go_simp; refine hK _ ?_; clear hK K; simp only [Act.put, List.setIfInBounds_toArray, List.set_cons_zero, List.set_cons_succ])
 refine wpF_call (by simp only [lightOp]) (by rfl) (fun K hK => ?_)
 go_wp2_with fail
 refine (HTX.out _ (HJ.out.plan.upd0 (((Upd.refl [] w).alloc _).drew)) ⟨by have := H100.out.1; omega, fun t ht => by have := H100.out.2 t ht; omega⟩).mono ?_
 rintro e w1 ⟨v, rfl, hst, u1⟩
 have hiS : (txnR p (attE m)).isSome = true := by rw [HX.out]; rfl
 rw [hiS]
 have HST := Lib.hid (hst l HX.out)
 have U1 : Hid (Upd [] w w1) := Lib.hid ((((Upd.refl [] w).alloc _).drew).trans u1)
 have BX : Hid (Blk w1 w.heap.size 42 #[.int .i64 m.th, .int .i64 m.ix, .int .i64 m.st, .bool m.wr, .int .i64 m.be, .int .i64 m.en, .int .i64 m.kd, .slice m.ta m.tn m.tc, .int .i64 m.er]) := Lib.hid ((Blk.new w _ _).upd (((Upd.refl [] _).drew).trans u1) (by simp))
 have d1 := (HJ.out.box.upd U1.out (by simp)).facts
 rw [← HSN.out] at d1
 have d2 : w1.cell? ⟨ga, n, none⟩ = some (.pointer (some ⟨q.1, 0, none⟩)) := by
  have := U1.out.keep ga ca2 (by simp)
  exact (World.cell?_of_block this).trans ca1
 have d3 : ga < w1.heap.size := Nat.lt_of_lt_of_le ca2 U1.out.size
 clear hst u1 hiS bx ca1 ca2
 go_wp2_with fail
 refine hK.out _ _ ?_
 clear hK K
 try simp only [Act.put, List.setIfInBounds_toArray, List.set_cons_zero, List.set_cons_succ]
 repeat (refine wpF_light ?_ (fun K hK => ?_); (· simp only [lightOp]; done); go_simp; refine hK _ ?_; clear hK K; simp only [Act.put, List.setIfInBounds_toArray, List.set_cons_zero, List.set_cons_succ])
 refine wpF_end ?_
 go_wp2_with fail
 refine (run_good w1 (HS.out.1.upd0 U1.out) HST.out HZ.out (HJ.out.ty.upd U1.out (by simp)) HS.out.2.1 (by rw [HS.out.2.2]; exact txn_right HF.out HX.out)).mono ?_
 rintro e w2 ⟨sb, F2, v2, rfl, u2, t2, o2, _, _⟩
 have ETO : Hid (txnO p (edW w m) = l) := Lib.hid (by show (txnR p (attE m)).getD [] = l; rw [HX.out]; rfl)
 obtain ⟨en, hen⟩ : ∃ en, en = endE s l := ⟨_, rfl⟩
 obtain ⟨tl, htl⟩ : ∃ tl, tl = toldE s l := ⟨_, rfl⟩
 obtain ⟨tk, htk⟩ : ∃ tk, tk = tl.length := ⟨_, rfl⟩
 rw [← htl, ← htk] at t2 o2
 rw [← hen]
 obtain ⟨A2, c2, rfl, _, _⟩ := own_slice o2
 have HE : Hid (toldB p (edW w m) s = (en == m.kd && tl == tlW w m)) := Lib.hid (by unfold toldB; rw [ETO.out, ← hen, ← htl]; rfl)
 have U2 := Lib.hid (U1.out.trans u2)
 have BX2 := (BX.out.upd u2 (by simp)).facts
 have S2 : Hid (Src w2 1 (.slice A2 tk c2) tk (tl.map (Value.int .i64)) ∧ tk ≤ 201000) := Lib.hid ⟨Src.of_own o2, t2⟩
 have htk2 : (tk : Int) ≤ 201000 := by omega
 clear u2 t2 o2 hen htl htk d1 d2 d3 hni
 by_cases h1 : en = m.kd
 ·have e1 : (en == m.kd) = true := by simpa using h1
  have E1 := Lib.hid e1
  clear h1
  go_wp2_with fail
  have ua : Upd [] w2 (w2.alloc (Obj.cells #[Value.int IntKind.i64 en, Value.slice A2 tk c2] 34)) := (Upd.refl _ _).alloc _
  refine (equal_src m.ta A2 m.tn m.tc tk c2 (tlW w m) tl _ (Src.upd0 HM.out (U2.out.trans ua)) (S2.out.1.upd0 ua) (by have := H1K.out; omega) (by have := S2.out.2; omega)).mono ?_
  rintro e w3 ⟨rfl, u3⟩
  have U3 := Lib.hid ((U2.out.trans ua).trans u3)
  have EQ : Hid (decide (tlW w m = tl) = (tl == tlW w m)) := Lib.hid (by
   by_cases h : tlW w m = tl
   ·rw [h]; simp
   ·rw [decide_eq_false h]; symm; simpa using fun e => h e.symm)
  rw [EQ.out]
  clear u3 ua
  go_wp2_with fail
  go_ret
  rw [HE.out, E1.out]
  exact ⟨by simp, U3.out⟩
 ·have e1 : (en == m.kd) = false := by simpa using h1
  have E1 := Lib.hid e1
  clear h1
  go_wp2_with fail
  go_ret
  rw [HE.out, E1.out]
  exact ⟨rfl, U2.out.alloc _⟩
end Go.Proofs.YtmjnmpifibemjaaGreatDoor

namespace Go.Proofs.YtmjnmpifibemjaaGreatDoor.Old
open Go Go.RowKit

/-- What is asked of a region: the blocks that its chain of calls may turn, the world ahead of it, what holds behind so many links of the chain, what is said of the value of each operation that makes or calls something, which values it may have at all, which blocks that value owns, what an operation uses up, which operations are links. -/
structure Inv where
 S : List Nat
 w0 : World
 K : Nat → World → Prop
 R : Nat → Value → World → Prop
 adm : Nat → Value → Prop
 fp : Nat → Value → List Nat
 con : Nat → List Nat
 ch : Nat → Bool

section
variable (ops : Array Oper)
def maskOf (o : Oper) (M : List Nat) : Nat := o.after.toList.foldl (fun m e => if Region.binds .any e then m ||| ((1 <<< e.on) ||| M.getD e.on 0) else m) 0
def masksL : List Oper → List Nat → List Nat
 | [], M => M
 | o :: l, M => masksL l (M ++ [maskOf o M])
def ancB (j h : Nat) : Bool := ((masksL ops.toList []).getD j 0).testBit h
def availB (con : Nat → List Nat) (j h : Nat) : Bool := ancB ops j h && (List.range ops.size).all fun y => !(con y).contains h || y == j || ancB ops y j
def endB (con : Nat → List Nat) (h : Nat) : Bool := (List.range ops.size).all fun y => !(con y).contains h
def invB (con : Nat → List Nat) (ch : Nat → Bool) : Bool :=
 Region.noSelect ops && (List.range ops.size).all (fun j => depsBack ops j && (List.range j).all (fun x => pairOk ops x j) && (!(lightAt ops j) || ((con j).isEmpty && !ch j)) &&
  (List.range j).all (fun x => !(ch x && ch j) || ancB ops j x) && (con j).all (fun h => decide (h < ops.size) && !lightAt ops h && ancB ops j h) && (List.range ops.size).all (fun y => y == j || (con j).all fun h => !(con y).contains h))
end

def factsV (I : Inv) (ok : Nat → Bool) : List (Nat × Value) → World → Prop
 | [], _ => True
 | p :: G, w => (ok p.1 = true → I.R p.1 p.2 w) ∧ factsV I ok G w
/-- The blocks that an operation uses up. -/
def usedV (I : Inv) (j : Nat) : List (Nat × Value) → List Nat
 | [] => []
 | p :: G => (if (I.con j).contains p.1 then I.fp p.1 p.2 else []) ++ usedV I j G
/-- What an operation that makes or calls something leaves behind. -/
def outV (I : Inv) (j s : Nat) (G : List (Nat × Value)) (w : World) (v : Value) (w' : World) : Prop :=
 I.R j v w' ∧ (∀ b ∈ I.fp j v, b ∈ usedV I j G ∨ (w.heap.size ≤ b ∧ b < w'.heap.size)) ∧ Upd (if I.ch j then I.S ++ usedV I j G else usedV I j G) w w' ∧ (I.ch j = true → I.K (s + 1) w')
def obL (P : Program) (ops : Array Oper) (I : Inv) (o : Oper) (j : Nat) (A : Act) (G : List (Nat × Value)) (v : Value) : Prop :=
 ∀ w, Upd I.S I.w0 w → factsV I (availB ops I.con j) G w → if Region.wanted o (yielded ops A.tmps) then litStep ((execOp A.eval o).run P w) w (· = v) else v = undef
def obH (P : Program) (ops : Array Oper) (I : Inv) (Q : Exit → Act → World → Prop) (o : Oper) (j s : Nat) (A : Act) (G : List (Nat × Value)) : Prop :=
 ∀ w, Upd I.S I.w0 w → (I.ch j = true → I.K s w) → factsV I (availB ops I.con j) G w →
   if Region.wanted o (yielded ops A.tmps) then o.wp P A w (fun A' w' => ∃ v, A' = A.put o.dst v ∧ outV I j s G w v w') Q else outV I j s G w undef w
def obE (ops : Array Oper) (I : Inv) (Q : Exit → Act → World → Prop) (s : Nat) (A : Act) (G : List (Nat × Value)) : Prop :=
 ∀ w, Upd I.S I.w0 w → I.K s w → factsV I (endB ops I.con) G w → Q .normal A w
/-- The operations, one behind the other in the text, each in every world in which it may come. -/
def wpV (P : Program) (ops : Array Oper) (I : Inv) (Q : Exit → Act → World → Prop) : List Oper → Nat → Nat → Act → List (Nat × Value) → Prop
 | [], _, s, A, G => obE ops I Q s A G
 | o :: l, j, s, A, G =>
   if lightOp o.op then ∃ v, obL P ops I o j A G v ∧ wpV P ops I Q l (j + 1) s (A.put o.dst v) G
   else obH P ops I Q o j s A G ∧ ∀ v, I.adm j v → wpV P ops I Q l (j + 1) (if I.ch j then s + 1 else s) (A.put o.dst v) (G ++ [(j, v)])

section
theorem mask_spec (o : Oper) (M : List Nat) (h : Nat) : (maskOf o M).testBit h = o.after.any (fun e => Region.binds .any e && (e.on == h || (M.getD e.on 0).testBit h)) := by
 unfold maskOf
 rw [← Array.any_toList]
 have key : ∀ (l : List Edge) (m : Nat), (l.foldl (fun m e => if Region.binds .any e then m ||| ((1 <<< e.on) ||| M.getD e.on 0) else m) m).testBit h = (m.testBit h || l.any (fun e => Region.binds .any e && (e.on == h || (M.getD e.on 0).testBit h))) := by
  intro l
  induction l with
  | nil => intro m; simp
  | cons e l ih =>
    intro m
    rw [List.foldl_cons, ih, List.any_cons]
    cases hb : Region.binds .any e with
    | false => simp
    | true =>
      simp only [if_true, Bool.true_and, Nat.testBit_or, Nat.one_shiftLeft, Nat.testBit_two_pow]
      rw [Bool.or_assoc]
      congr 2
 rw [key]
 simp
theorem masks_pre : ∀ (l : List Oper) (M : List Nat) (i : Nat), i < M.length → (masksL l M).getD i 0 = M.getD i 0
 | [], _, _, _ => rfl
 | o :: l, M, i, h => by
   unfold masksL
   rw [masks_pre l _ i (by simp; omega)]
   simp [List.getD_eq_getElem?_getD, List.getElem?_append_left h]
theorem masks_at : ∀ (l : List Oper) (M : List Nat) (k : Nat) (o : Oper), l[k]? = some o → ∃ M', M'.length = M.length + k ∧ (masksL l M).getD (M.length + k) 0 = maskOf o M' ∧ ∀ i, i < M'.length → M'.getD i 0 = (masksL l M).getD i 0
 | [], _, _, _, h => by simp at h
 | o :: l, M, 0, o', h => by
   simp at h
   subst h
   refine ⟨M, rfl, ?_, fun i hi => (masks_pre _ M i hi).symm⟩
   unfold masksL
   rw [masks_pre l _ _ (by simp)]
   simp [List.getD_eq_getElem?_getD]
 | o :: l, M, k + 1, o', h => by
   obtain ⟨M', h1, h2, h3⟩ := masks_at l (M ++ [maskOf o M]) k o' (by simpa using h)
   unfold masksL
   refine ⟨M', by simp at h1; omega, ?_, h3⟩
   rw [← h2]
   congr 1
   simp; omega
variable {P : Program} {ops : Array Oper}
theorem anc_iff {j h : Nat} (hj : j < ops.size) (hb : depsBack ops j = true) : ancB ops j h = true ↔ ∃ x, depB ops j x = true ∧ (x = h ∨ ancB ops x h = true) := by
 obtain ⟨M', h1, h2, h3⟩ := masks_at ops.toList [] j ops[j] (by simp [hj])
 unfold ancB depB
 simp only [List.length_nil, Nat.zero_add] at h1 h2
 rw [h2, mask_spec, Array.getElem?_eq_getElem hj]
 unfold depsBack at hb
 rw [Array.getElem?_eq_getElem hj] at hb
 simp only [Array.all_eq_true, Array.any_eq_true, Bool.or_eq_true, Bool.and_eq_true, decide_eq_true_eq, Bool.not_eq_true', beq_iff_eq] at hb ⊢
 constructor
 ·rintro ⟨i, hi, he, hh⟩
  refine ⟨_, ⟨i, hi, he, rfl⟩, hh.imp id fun h4 => ?_⟩
  rw [← h3 _ (by rw [h1]; exact (hb i hi).resolve_left (by rw [he]; simp))]
  exact h4
 ·rintro ⟨x, ⟨i, hi, he, rfl⟩, hh⟩
  refine ⟨i, hi, he, hh.imp id fun h4 => ?_⟩
  rw [h3 _ (by rw [h1]; exact (hb i hi).resolve_left (by rw [he]; simp))]
  exact h4

structure InvOk (ops : Array Oper) (I : Inv) : Prop where
 sel : ∀ (j : Nat) (o : Oper) (cs : Array SelectCase) (b : Bool), ops[j]? = some o → o.op ≠ .select cs b
 back : ∀ j, j < ops.size → depsBack ops j = true
 pair : ∀ j, j < ops.size → ∀ x, x < j → pairOk ops x j = true
 light : ∀ j, j < ops.size → lightAt ops j = true → I.con j = [] ∧ I.ch j = false
 chain : ∀ j, j < ops.size → ∀ x, x < j → I.ch x = true → I.ch j = true → ancB ops j x = true
 con : ∀ j, j < ops.size → ∀ h ∈ I.con j, h < ops.size ∧ lightAt ops h = false ∧ ancB ops j h = true
 once : ∀ j, j < ops.size → ∀ y, y < ops.size → y ≠ j → ∀ h ∈ I.con j, h ∉ I.con y
theorem invOk_of {I : Inv} (h : invB ops I.con I.ch = true) : InvOk ops I := by
 unfold invB at h
 rw [Bool.and_eq_true, List.all_eq_true] at h
 obtain ⟨h0, h1⟩ := h
 have h2 : ∀ j, j < ops.size → _ := fun j hj => h1 j (List.mem_range.2 hj)
 simp only [Bool.and_eq_true, List.all_eq_true, List.mem_range, Bool.or_eq_true, Bool.not_eq_true', List.isEmpty_iff, decide_eq_true_eq, beq_iff_eq, Bool.and_eq_false_iff] at h2
 refine ⟨Region.noSelect_spec h0, fun j hj => (h2 j hj).1.1.1.1.1, fun j hj x hx => (h2 j hj).1.1.1.1.2 x hx, fun j hj hl => ?_, fun j hj x hx hx1 hj1 => ?_, fun j hj h hh => ?_, fun j hj y hy hne h hh hm => ?_⟩
 ·rcases (h2 j hj).1.1.1.2 with h3 | h3
  ·rw [hl] at h3; cases h3
  ·exact h3
 ·rcases (h2 j hj).1.1.2 x hx with h3 | h3
  ·rw [hx1, hj1] at h3; rcases h3 with h3 | h3 <;> cases h3
  ·exact h3
 ·have := (h2 j hj).1.2 h hh
  exact ⟨this.1.1, this.1.2, this.2⟩
 ·rcases (h2 j hj).2 y hy with h3 | h3
  ·exact hne h3
  ·have := h3 h hh
   simp at this
   exact this hm
theorem wp_transfer {o : Oper} {a b : Act} {w : World} {K' : Act → World → Prop} {Z : Value → World → Prop} {Q : Exit → Act → World → Prop} (he : execOp a.eval o = execOp b.eval o)
 (hK : ∀ v w', Z v w' → K' (b.put o.dst v) w') (hinj : ∀ v v' : Value, a.put o.dst v = a.put o.dst v' → b.put o.dst v = b.put o.dst v')
 (h : o.wp P a w (fun A' w' => ∃ v, A' = a.put o.dst v ∧ Z v w') (NoPanic Q)) : o.wp P b w K' (NoPanic Q) := by
 have key : ∀ v w', (∃ v', a.put o.dst v = a.put o.dst v' ∧ Z v' w') → K' (b.put o.dst v) w' := fun v w' ⟨v', e, hz⟩ => hinj v v' e ▸ hK v' w' hz
 unfold Oper.wp at h ⊢
 rw [← he]
 generalize (execOp a.eval o).run P w = r at h
 cases r with
 | ok n w' =>
   cases n with
   | value v => exact key v w' h
   | skip => exact key _ w' h
   | defer d =>
     obtain ⟨v', e, _⟩ := h
     exfalso
     have := congrArg Act.defers e
     cases hd : o.dst <;> rw [hd] at this <;> simp [Act.put] at this
   | enter f args =>
     refine Calls.mono h fun e w'' he => ?_
     cases e with
     | returned v => exact key v w'' he
     | panicked c => exact he
     | outgrown => exact he
   | row r args => exact Rows.mono h fun v w'' he => key v w'' he
   | _ => exact h
 | halt x w' => cases x <;> exact h
end
end Go.Proofs.YtmjnmpifibemjaaGreatDoor.Old

namespace Go.Proofs.YtmjnmpifibemjaaGreatDoor.Old
open Go Go.RowKit

section
variable {P : Program} {ops : Array Oper} {I : Inv} {Q : Exit → Act → World → Prop} {a : Act}

def Aat (ops : Array Oper) (a : Act) (V : Nat → Value) (j : Nat) : Act := putX ops V (fun x => decide (x < j)) (List.range ops.size) a
def Gat (ops : Array Oper) (V : Nat → Value) (j : Nat) : List (Nat × Value) := ((List.range j).filter (fun h => !lightAt ops h)).map (fun h => (h, V h))
def sat (I : Inv) (j : Nat) : Nat := ((List.range j).filter I.ch).length
def Ob (P : Program) (ops : Array Oper) (I : Inv) (Q : Exit → Act → World → Prop) (a : Act) (V : Nat → Value) (j : Nat) : Prop :=
 ∀ o, ops[j]? = some o → if lightOp o.op then obL P ops I o j (Aat ops a V j) (Gat ops V j) (V j) else obH P ops I Q o j (sat I j) (Aat ops a V j) (Gat ops V j)
def Flat (P : Program) (ops : Array Oper) (I : Inv) (Q : Exit → Act → World → Prop) (a : Act) (V : Nat → Value) : Prop :=
 (∀ j, j < ops.size → Ob P ops I Q a V j) ∧ obE ops I Q (sat I ops.size) (Aat ops a V ops.size) (Gat ops V ops.size)

theorem putX_congr' {V V' : Nat → Value} {X Y : Nat → Bool} : ∀ (l : List Nat) (a : Act), (∀ x ∈ l, X x = Y x) → (∀ x ∈ l, X x = true → V x = V' x) → putX ops V X l a = putX ops V' Y l a
 | [], _, _, _ => rfl
 | i :: l, a, hx, hv => by
   unfold putX
   rw [hx i (List.mem_cons_self ..)]
   cases hY : Y i with
   | true =>
     simp only [if_true]
     rw [hv i (List.mem_cons_self ..) (by rw [hx i (List.mem_cons_self ..), hY])]
     exact putX_congr' l _ (fun x hm => hx x (List.mem_cons_of_mem _ hm)) (fun x hm => hv x (List.mem_cons_of_mem _ hm))
   | false =>
     simp only [Bool.false_eq_true, if_false]
     exact putX_congr' l _ (fun x hm => hx x (List.mem_cons_of_mem _ hm)) (fun x hm => hv x (List.mem_cons_of_mem _ hm))
theorem InvOk.distinct (ok : InvOk ops I) {j x : Nat} (hj : j < ops.size) (hx : x < ops.size) (hne : x ≠ j) (t : Tmp) (h : dstOf ops j = some t) : dstOf ops x ≠ some t := by
 intro h'
 rcases Nat.lt_or_gt_of_ne hne with h1 | h1
 ·have hp := ok.pair j hj x h1
  unfold pairOk at hp
  rw [h, h'] at hp
  simp at hp
 ·have hp := ok.pair x hx j h1
  unfold pairOk at hp
  rw [h, h'] at hp
  simp at hp
theorem Aat_congr {V V' : Nat → Value} {j : Nat} (h : ∀ x, x < j → V x = V' x) : Aat ops a V j = Aat ops a V' j :=
 putX_congr' _ _ (fun _ _ => rfl) (fun x _ hx => h x (by simpa using hx))
theorem Gat_congr {V V' : Nat → Value} {j : Nat} (h : ∀ x, x < j → V x = V' x) : Gat ops V j = Gat ops V' j := by
 unfold Gat
 apply List.map_congr_left
 intro x hx
 rw [h x (List.mem_range.1 (List.mem_filter.1 hx).1)]
theorem Aat_succ (ok : InvOk ops I) {j : Nat} (hj : j < ops.size) (V : Nat → Value) : Aat ops a V (j + 1) = (Aat ops a V j).put (dstOf ops j) (V j) := by
 unfold Aat
 rw [← putX_add (by simp) _ _ (List.mem_range.2 hj) List.nodup_range (fun x hx hne t ht => ok.distinct hj (List.mem_range.1 hx) hne t ht)]
 refine putX_congr _ _ (fun x _ => ?_) (fun _ _ => rfl)
 rw [Bool.eq_iff_iff]
 simp
 omega
theorem Gat_succ (V : Nat → Value) (j : Nat) : Gat ops V (j + 1) = if lightAt ops j then Gat ops V j else Gat ops V j ++ [(j, V j)] := by
 unfold Gat
 rw [List.range_succ, List.filter_append, List.map_append]
 cases h : lightAt ops j <;> simp [h]
theorem sat_succ (j : Nat) : sat I (j + 1) = if I.ch j then sat I j + 1 else sat I j := by
 unfold sat
 rw [List.range_succ, List.filter_append]
 cases h : I.ch j <;> simp [h]
theorem lightAt_some {j : Nat} {o : Oper} (h : ops[j]? = some o) : lightAt ops j = lightOp o.op := by unfold lightAt; rw [h]

theorem flat_of (ok : InvOk ops I) : ∀ (l : List Oper) (j : Nat) (V0 : Nat → Value), (∀ k o, l[k]? = some o → ops[j + k]? = some o) → j + l.length = ops.size →
 wpV P ops I Q l j (sat I j) (Aat ops a V0 j) (Gat ops V0 j) → ∀ e : Nat → Value, (∀ h, I.adm h (e h)) → ∃ V, (∀ x, x < j → V x = V0 x) ∧ (∀ h, j ≤ h → h < ops.size → lightAt ops h = false → V h = e h) ∧
  (∀ i, j ≤ i → i < ops.size → Ob P ops I Q a V i) ∧ obE ops I Q (sat I ops.size) (Aat ops a V ops.size) (Gat ops V ops.size)
 | [], j, V0, _, hn, h, e, _ => by
   simp at hn
   subst hn
   exact ⟨V0, fun _ _ => rfl, fun h h1 h2 => by omega, fun i h1 h2 => by omega, h⟩
 | o :: l, j, V0, hl, hn, h, e, hadm => by
   have ho : ops[j]? = some o := by simpa using hl 0 o rfl
   have hj : j < ops.size := (Array.getElem?_eq_some_iff.1 ho).1
   have hla := lightAt_some ho
   have hd : dstOf ops j = o.dst := by simp [dstOf, ho]
   have hl' : ∀ k o', l[k]? = some o' → ops[j + 1 + k]? = some o' := fun k o' hk => by
    have := hl (k + 1) o' (by simpa using hk)
    rwa [show j + (k + 1) = j + 1 + k by omega] at this
   have hn' : j + 1 + l.length = ops.size := by simp at hn; omega
   unfold wpV at h
   -- the rest, from the value of this one
   have key : ∀ v, (lightAt ops j = false → v = e j) → wpV P ops I Q l (j + 1) (sat I (j + 1)) ((Aat ops a V0 j).put o.dst v) (Gat ops (fun x => if x = j then v else V0 x) (j + 1)) → Ob P ops I Q a (fun x => if x = j then v else V0 x) j →
    ∃ V, (∀ x, x < j → V x = V0 x) ∧ (∀ h, j ≤ h → h < ops.size → lightAt ops h = false → V h = e h) ∧ (∀ i, j ≤ i → i < ops.size → Ob P ops I Q a V i) ∧ obE ops I Q (sat I ops.size) (Aat ops a V ops.size) (Gat ops V ops.size) := by
    intro v hv hw hob
    have hA : (Aat ops a V0 j).put o.dst v = Aat ops a (fun x => if x = j then v else V0 x) (j + 1) := by
     rw [Aat_succ ok hj, hd]
     simp only [if_true]
     rw [Aat_congr (V' := V0) (fun x hx => if_neg (by omega))]
    rw [hA] at hw
    obtain ⟨V, h1, h2, h3, h4⟩ := flat_of ok l (j + 1) _ hl' hn' hw e hadm
    refine ⟨V, fun x hx => by rw [h1 x (by omega), if_neg (by omega)], fun x hx hxn hxl => ?_, fun i hi hin => ?_, h4⟩
    ·rcases Nat.lt_or_eq_of_le hx with h5 | h5
     ·exact h2 x h5 hxn hxl
     ·subst h5
      rw [h1 j (by omega), if_pos rfl]
      exact hv hxl
    ·rcases Nat.lt_or_eq_of_le hi with h5 | h5
     ·exact h3 i h5 hin
     ·subst h5
      intro o' ho'
      have := hob o' ho'
      have h6 : (fun x => if x = j then v else V0 x) j = V j := (h1 j (by omega)).symm
      rw [Aat_congr (V' := V) (fun x hx => (h1 x (by omega)).symm), Gat_congr (V' := V) (fun x hx => (h1 x (by omega)).symm), h6] at this
      exact this
   have e1 : ∀ v, Aat ops a (fun x => if x = j then v else V0 x) j = Aat ops a V0 j := fun v => Aat_congr fun x hx => if_neg (by omega)
   have e2 : ∀ v, Gat ops (fun x => if x = j then v else V0 x) j = Gat ops V0 j := fun v => Gat_congr fun x hx => if_neg (by omega)
   cases hlo : lightOp o.op with
   | true =>
     rw [hlo] at h hla
     simp only [if_true] at h
     obtain ⟨v, hob, hr⟩ := h
     refine key v (fun hc => by rw [hla] at hc; cases hc) ?_ ?_
     ·rw [Gat_succ, hla, sat_succ, (ok.light j hj hla).2, e2]
      exact hr
     ·intro o' ho'
      rw [ho] at ho'
      cases ho'
      rw [hlo, e1, e2]
      simpa using hob
   | false =>
     rw [hlo] at h hla
     simp only [Bool.false_eq_true, if_false] at h
     obtain ⟨hob, hr⟩ := h
     refine key (e j) (fun _ => rfl) ?_ ?_
     ·rw [Gat_succ, hla, sat_succ, e2]
      simpa using hr (e j) (hadm j)
     ·intro o' ho'
      rw [ho] at ho'
      cases ho'
      rw [hlo, e1, e2]
      simpa using hob

def Live (ops : Array Oper) (I : Inv) (L : Array Bool) (h : Nat) : Prop := h < ops.size ∧ lightAt ops h = false ∧ L.getD h false = true ∧ ∀ y, y < ops.size → L.getD y false = true → h ∉ I.con y
structure StI (P : Program) (ops : Array Oper) (I : Inv) (Q : Exit → Act → World → Prop) (a : Act) (L : Array Bool) (u : Nat → Value) (w : World) : Prop where
 sz : L.size = ops.size
 cl : ∀ y x, y < ops.size → L.getD y false = true → depB ops y x = true → L.getD x false = true
 i1 : Upd I.S I.w0 w
 i2 : I.K ((List.range ops.size).filter (fun x => I.ch x && L.getD x false)).length w
 i3 : ∀ h, Live ops I L h → I.R h (u h) w
 i4 : ∀ h, Live ops I L h → ∀ b ∈ I.fp h (u h), I.w0.heap.size ≤ b ∧ b < w.heap.size
 i5 : ∀ h h', Live ops I L h → Live ops I L h' → h ≠ h' → ∀ b ∈ I.fp h (u h), b ∉ I.fp h' (u h')
 i7 : ∀ h, lightAt ops h = false → I.adm h (u h)
 i6 : ∀ j, j < ops.size → lightAt ops j = true → L.getD j false = true → ∀ V, Flat P ops I Q a V → (∀ h, h < ops.size → lightAt ops h = false → ancB ops j h = true → V h = u h) → V j = u j

theorem facts_of {ok : Nat → Bool} {w : World} : ∀ (G : List (Nat × Value)), (∀ p ∈ G, ok p.1 = true → I.R p.1 p.2 w) → factsV I ok G w
 | [], _ => trivial
 | p :: G, h => ⟨h p (List.mem_cons_self ..), facts_of G fun q hq => h q (List.mem_cons_of_mem _ hq)⟩
theorem mem_Gat {V : Nat → Value} {j : Nat} {p : Nat × Value} (h : p ∈ Gat ops V j) : p.1 < j ∧ lightAt ops p.1 = false ∧ p.2 = V p.1 := by
 unfold Gat at h
 obtain ⟨x, hx, rfl⟩ := List.mem_map.1 h
 have := List.mem_filter.1 hx
 exact ⟨List.mem_range.1 this.1, by simpa using this.2, rfl⟩
theorem mem_used {j b : Nat} : ∀ {G : List (Nat × Value)}, b ∈ usedV I j G → ∃ p ∈ G, p.1 ∈ I.con j ∧ b ∈ I.fp p.1 p.2
 | [], h => by simp [usedV] at h
 | p :: G, h => by
   unfold usedV at h
   rcases List.mem_append.1 h with h1 | h1
   ·split at h1
    ·rename_i hc
     exact ⟨p, List.mem_cons_self .., by simpa using hc, h1⟩
    ·simp at h1
   ·obtain ⟨q, h2, h3⟩ := mem_used h1
    exact ⟨q, List.mem_cons_of_mem _ h2, h3⟩
end
end Go.Proofs.YtmjnmpifibemjaaGreatDoor.Old

/-
  prog.walker.walk by a contract, for whatever visitor.
-/
import Derived.Test.YtfbeaklplefojaaGreatDoorEvB13
import Derived.Test.YtfbeaklplefojaaGreatDoorEvB2
set_option linter.unusedVariables false
namespace Go.Proofs.YtfbeaklplefojaaGreatDoor
open Go.RowKit
attribute [local go_sem] litStep_value

/-- What a visitor makes of the lines, one behind the other; false: it has ended the walk. -/
def walkF {σ : Type} (step : σ → Nat → Nat → Stm → Bool × σ) : List (Stm × Nat) → σ → Nat → Bool × σ × Nat
  | [], s, n => (true, s, n)
  | (x, d) :: l, s, n => match step s (n + 1) d x with
    | (true, s') => walkF step l s' (n + 1)
    | (false, s') => (false, s', n + 1)
theorem walkF_append {σ : Type} {step : σ → Nat → Nat → Stm → Bool × σ} (l m : List (Stm × Nat)) : ∀ (s : σ) (n : Nat), walkF step (l ++ m) s n = match walkF step l s n with
    | (true, s', n') => walkF step m s' n'
    | (false, s', n') => (false, s', n') := by
  induction l with
  | nil => intro s n; rfl
  | cons x l ih =>
    intro s n
    obtain ⟨x, d⟩ := x
    simp only [List.cons_append, walkF]
    cases step s (n + 1) d x with
    | mk b s' =>
      cases b with
      | true => simp only; exact ih s' (n + 1)
      | false => rfl
theorem walkF_count {σ : Type} {step : σ → Nat → Nat → Stm → Bool × σ} (l : List (Stm × Nat)) : ∀ (s : σ) (n : Nat), (walkF step l s n).2.2 ≤ n + l.length := by
  induction l with
  | nil => intro s n; exact Nat.le_refl _
  | cons x l ih =>
    intro s n
    obtain ⟨x, d⟩ := x
    unfold walkF
    cases step s (n + 1) d x with
    | mk b s' =>
      cases b with
      | true => have := ih s' (n + 1); simp only [List.length_cons]; omega
      | false => simp

/-- From w to w' only blocks of O, and new ones, may have turned. -/
structure UpdP (O : Nat → Prop) (w w' : World) : Prop where
  os : w'.os = w.os
  tape : w'.tape = w.tape
  output : w'.output = w.output
  size : w.heap.size ≤ w'.heap.size
  keep : ∀ k, k < w.heap.size → ¬ O k → w'.heap[k]? = w.heap[k]?
theorem UpdP.refl (O : Nat → Prop) (w : World) : UpdP O w w := ⟨rfl, rfl, rfl, Nat.le_refl _, fun _ _ _ => rfl⟩
theorem UpdP.trans {O O' : Nat → Prop} {a b c : World} (h : UpdP O a b) (k : UpdP O' b c) (hO : ∀ x, O' x → O x ∨ a.heap.size ≤ x) : UpdP O a c :=
  ⟨k.os.trans h.os, k.tape.trans h.tape, k.output.trans h.output, Nat.le_trans h.size k.size, fun i hi hn =>
    (k.keep i (Nat.lt_of_lt_of_le hi h.size) (fun hm => (hO i hm).elim hn (by omega))).trans (h.keep i hi hn)⟩
theorem UpdP.of_upd {S : List Nat} {O : Nat → Prop} {w w' : World} (h : Upd S w w') (hS : ∀ x ∈ S, O x ∨ w.heap.size ≤ x) : UpdP O w w' :=
  ⟨h.os, h.tape, h.output, h.size, fun k hk hn => h.keep k hk (fun hm => (hS k hm).elim hn (by omega))⟩
theorem UpdP.below {O : Nat → Prop} {B : Nat} {w w' : World} (h : UpdP O w w') (hB : B ≤ w.heap.size) (hO : ∀ x, O x → B ≤ x) : Below B w w' :=
  ⟨h.os, h.tape, h.output, h.size, fun k hk => h.keep k (by omega) (fun hm => by have := hO k hm; omega)⟩
theorem Blk.updP {O : Nat → Prop} {w w' : World} {g : Nat} {t : TypeId} {cs : Array Value} (h : Blk w g t cs) (hu : UpdP O w w') (hg : ¬ O g) : Blk w' g t cs := (hu.keep g h.lt hg).trans h

/-- What is asked of a visitor: fid its function, caps what it has captured; what it keeps is said by St, the blocks that it turns by own: from B on, and not p. -/
structure Visitor (σ : Type) (fid : FuncId) (caps : Array Value) (B p : Nat) (St : World → σ → Prop) (own : World → Nat → Prop) (step : σ → Nat → Nat → Stm → Bool × σ) : Prop where
  enter : ∀ args w, (callFunc fid args).run Tryz.prog w = .ok (.enter fid args) w
  keep : ∀ w w' s, St w s → Upd [p] w w' → St w' s
  keepOwn : ∀ w w' s k, St w s → Upd [p] w w' → own w' k → own w k
  ownB : ∀ w s k, St w s → own w k → B ≤ k ∧ k ≠ p ∧ k < w.heap.size
  visit : ∀ w s (n d : Nat) x v, St w s → StmV w B x v → B ≤ w.heap.size → n ≤ 1000000 → d ≤ 1000000 → Calls Tryz.prog fid (#[.int .i64 n, .int .i64 d, v] ++ caps) w fun e w' =>
    e = .returned (.bool (step s n d x).1) ∧ St w' (step s n d x).2 ∧ UpdP (own w) w w' ∧ ∀ k, own w' k → own w k ∨ w.heap.size ≤ k

/-- What the walk says, of what it was and is. -/
def WalkPost {σ : Type} (St : World → σ → Prop) (own : World → Nat → Prop) (p : Nat) (fv : Value) (w : World) (r : Bool × σ × Nat) (e : Ending) (w' : World) : Prop :=
  e = .returned (.bool r.1) ∧ St w' r.2.1 ∧ Blk w' p 104 #[.int .i64 r.2.2, fv] ∧ UpdP (fun k => own w k ∨ k = p) w w' ∧ ∀ k, own w' k → own w k ∨ w.heap.size ≤ k

theorem walkF_step {σ : Type} {step : σ → Nat → Nat → Stm → Bool × σ} {l : List Stm} {k d : Nat} {s sk : σ} {n nk : Nat} {a1 a2 a3 a4 a5 a6 a7 : Int} {bo el : List Stm} (hx : l[k]? = some (.mk a1 a2 a3 a4 a5 a6 a7 bo el))
    (h : walkF step (linesOf d (l.take k)) s n = (true, sk, nk)) : walkF step (linesOf d (l.take (k + 1))) s n =
      match step sk (nk + 1) d (.mk a1 a2 a3 a4 a5 a6 a7 bo el) with
      | (false, s') => (false, s', nk + 1)
      | (true, s') => match walkF step (linesOf (d + 1) bo) s' (nk + 1) with
        | (false, s2, n2) => (false, s2, n2)
        | (true, s2, n2) => walkF step (linesOf (d + 1) el) s2 n2 := by
  rw [lines_take d hx, walkF_append, h]
  simp only
  rw [line_mk]
  simp only [walkF]
  cases step sk (nk + 1) d (.mk a1 a2 a3 a4 a5 a6 a7 bo el) with
  | mk b s' =>
    cases b with
    | false => rfl
    | true =>
      simp only
      rw [walkF_append]
      cases walkF step (linesOf (d + 1) bo) s' (nk + 1) with
      | mk b r => cases b <;> rfl
/-- A walk that is ended somewhere is ended. -/
theorem walkF_end {σ : Type} {step : σ → Nat → Nat → Stm → Bool × σ} {l : List Stm} {k d : Nat} {s s' : σ} {n n' : Nat} (h : walkF step (linesOf d (l.take k)) s n = (false, s', n')) : walkF step (linesOf d l) s n = (false, s', n') := by
  conv => lhs; rw [← List.take_append_drop k l, lines_append, walkF_append, h]
theorem lines_sizes : ∀ (m : Nat) (l : List Stm) (d : Nat), sizes l ≤ m → (linesOf d l).length = sizes l := by
  intro m
  induction m with
  | zero =>
    intro l d h
    cases l with
    | nil => rfl
    | cons s l => rw [sizes_cons] at h; cases s; rw [size_mk] at h; omega
  | succ m ih =>
    intro l
    induction l with
    | nil => intro d _; rfl
    | cons s l ihl =>
      intro d h
      rw [sizes_cons] at h
      rw [lines_cons, sizes_cons, List.length_append]
      cases s with
      | mk a1 a2 a3 a4 a5 a6 a7 b e =>
        rw [size_mk] at h ⊢
        rw [line_mk, List.length_cons, List.length_append, ih b _ (by omega), ih e _ (by omega), ihl d (by omega)]
        omega

set_option maxRecDepth 100000 in
set_option maxHeartbeats 4000000 in
theorem walk_ok {σ : Type} {fid : FuncId} {caps : Array Value} {B p : Nat} {St : World → σ → Prop} {own : World → Nat → Prop} {step : σ → Nat → Nat → Stm → Bool × σ} (V : Visitor σ fid caps B p St own step) (hp : B ≤ p) :
    ∀ (m : Nat) (l : List Stm) (v : Value) (w : World) (s : σ) (n d : Nat), sizes l < m → Stms w B v l → St w s → Blk w p 104 #[.int .i64 n, .func (.func fid) #[] caps] → B ≤ w.heap.size → n + sizes l ≤ 1000000 → d + sizes l ≤ 1000000 →
    Calls Tryz.prog 44 #[.pointer (some ⟨p, 0, none⟩), v, .int .i64 d] w (WalkPost St own p (.func (.func fid) #[] caps) w (walkF step (linesOf d l) s n)) := by
  intro m
  induction m with
  | zero => intro l v w s n d hm; omega
  | succ m ih =>
    intro l v w s n d hm hl hs hb hB hn hd
    have HL := Lib.hid hl
    cases hl with
    | mk A nn c l vb ve hln hc hcm hcell hbb hee =>
    have hnn : nn ≤ 9223372036854775807 := by omega
    have HS := Lib.hid hs
    have HB := Lib.hid hb
    clear hs hb
    have HLN := Lib.hid hln
    have HCE := Lib.hid hcell
    have HBB := Lib.hid hbb
    have HEE := Lib.hid hee
    have IH := Lib.hid ih
    have VV := Lib.hid V
    have OB : Hid (∀ W s x, St W s → own W x ∨ x = p → B ≤ x) := Lib.hid (fun W s x h1 h2 => h2.elim (fun h => (V.ownB W s x h1 h).1) (fun h => h ▸ hp))
    have ent := V.enter
    clear hln hcell hbb hee ih V
    go_enter Tryz.func44, Tryz.ntmps44
    go_wp2_with fail
    go_loopw [11] (fun u wr => ∃ (k : Nat) (sk : σ) (nk : Nat), u = .int .i64 k ∧ k ≤ nn ∧ nk ≤ n + sizes (l.take k) ∧ Hid (walkF step (linesOf d (l.take k)) s n = (true, sk, nk)) ∧ Hid (St wr sk) ∧ Hid (Blk wr p 104 #[.int .i64 nk, .func (.func fid) #[] caps]) ∧ Hid (UpdP (fun k => own w k ∨ k = p) w wr) ∧ Hid (∀ k, own wr k → own w k ∨ w.heap.size ≤ k) ∧ w.heap.size ≤ wr.heap.size) (fun u _ => nn - (intOf u).toNat)
    case atStart => exact ⟨0, s, n, rfl, by omega, by omega, Lib.hid rfl, HS, HB, Lib.hid (.refl _ _), Lib.hid (fun k h => .inl h), Nat.le_refl _⟩
    case round =>
      obtain ⟨k, sk, nk, rfl, hk, hnk, KF, KS, KB, KU, KO, kz⟩ := hrel
      have KL : Hid (Below B w wr) := Lib.hid (KU.out.below hB (fun x hx => OB.out w s x HS.out hx))
      by_cases hkn : k < nn
      · obtain ⟨x, hx⟩ : ∃ x, l[k]? = some x := ⟨_, List.getElem?_eq_getElem (by rw [HLN.out]; exact hkn)⟩
        obtain ⟨a1, a2, a3, a4, a5, a6, a7, bo, el⟩ := x
        obtain ⟨ad, rfl, hlt, hcc⟩ := HCE.out k a1 a2 a3 a4 a5 a6 a7 bo el hx
        have c0 : wr.cell? (ad.add (k * 9)) = some (.int .i64 a1) := (KL.out.cell (by rw [block_add]; exact hlt)).trans (hcc 0 _ rfl)
        have cj : ∀ j u, (stmCells a1 a2 a3 a4 a5 a6 a7 (vb k) (ve k))[j + 1]? = some u → wr.cell? ⟨(ad.add (k * 9)).block, (ad.add (k * 9)).off + (j + 1), none⟩ = some u := fun j u hu => by
          rw [← add_more]; exact (KL.out.cell (by rw [block_add]; exact hlt)).trans (hcc (j + 1) _ hu)
        have c1 := cj 0 _ rfl
        have c2 := cj 1 _ rfl
        have c3 := cj 2 _ rfl
        have c4 := cj 3 _ rfl
        have c5 := cj 4 _ rfl
        have c6 := cj 5 _ rfl
        have c7 := cj 6 _ rfl
        have c8 := cj 7 _ rfl
        have hsb := HBB.out k a1 a2 a3 a4 a5 a6 a7 bo el hx
        have hse := HEE.out k a1 a2 a3 a4 a5 a6 a7 bo el hx
        obtain ⟨Ab, nb, cb, hvb⟩ := hsb.slice
        obtain ⟨Ae, ne, ce, hve⟩ := hse.slice
        rw [hvb] at c7 hsb
        rw [hve] at c8 hse
        have HSB := Lib.hid hsb
        have HSE := Lib.hid hse
        clear hvb hve hsb hse
        have p0 : wr.cell? ⟨p, 0, none⟩ = some (.int .i64 nk) := KB.out.cell 0
        have p1 : wr.cell? ⟨p, 1, none⟩ = some (.func (.func fid) #[] caps) := KB.out.cell 1
        have pf : wr.frozen? ⟨p, 0, none⟩ = false := KB.out.frozen 0
        have pl : p < wr.heap.size := KB.out.lt
        have hsz := sizes_get hx
        rw [size_mk] at hsz
        have hst := sizes_take hx
        rw [size_mk] at hst
        have htl := sizes_take_le l (k + 1)
        have HX := Lib.hid hx
        have HST := Lib.hid (walkF_step hx KF.out)
        obtain ⟨X, hX⟩ : ∃ X, X = Stm.mk a1 a2 a3 a4 a5 a6 a7 bo el := ⟨_, rfl⟩
        rw [← hX] at HST
        have HXX := Lib.hid hX
        clear hcc cj hx hX
        go_wp2_with fail
        have UQ : Hid (Upd [p] wr (((wr.setCell ⟨p, 0, none⟩ (.int .i64 (nk + 1))).alloc (.cells #[.int .i64 a1, .int .i64 a2, .int .i64 a3, .int .i64 a4, .int .i64 a5, .int .i64 a6, .int .i64 a7, .slice Ab nb cb, .slice Ae ne ce] 40)).drew)) := Lib.hid ((((Upd.refl [p] wr).setCell (.inl (by simp)) _).alloc _).drew)
        have BQ : Hid (Blk (((wr.setCell ⟨p, 0, none⟩ (.int .i64 (nk + 1))).alloc (.cells #[.int .i64 a1, .int .i64 a2, .int .i64 a3, .int .i64 a4, .int .i64 a5, .int .i64 a6, .int .i64 a7, .slice Ab nb cb, .slice Ae ne ce] 40)).drew) wr.heap.size 40 #[.int .i64 a1, .int .i64 a2, .int .i64 a3, .int .i64 a4, .int .i64 a5, .int .i64 a6, .int .i64 a7, .slice Ab nb cb, .slice Ae ne ce]) := Lib.hid (by
          have := (Blk.new (wr.setCell ⟨p, 0, none⟩ (.int .i64 (nk + 1))) 40 #[.int .i64 a1, .int .i64 a2, .int .i64 a3, .int .i64 a4, .int .i64 a5, .int .i64 a6, .int .i64 a7, .slice Ab nb cb, .slice Ae ne ce]).drew
          rw [show (wr.setCell ⟨p, 0, none⟩ (.int .i64 (nk + 1))).heap.size = wr.heap.size by simp [World.setCell]] at this
          exact this)
        have BP : Hid (Blk (((wr.setCell ⟨p, 0, none⟩ (.int .i64 (nk + 1))).alloc (.cells #[.int .i64 a1, .int .i64 a2, .int .i64 a3, .int .i64 a4, .int .i64 a5, .int .i64 a6, .int .i64 a7, .slice Ab nb cb, .slice Ae ne ce] 40)).drew) p 104 #[.int .i64 ((nk : Int) + 1), .func (.func fid) #[] caps]) := Lib.hid (((KB.out.set_eq rfl).alloc _).drew)
        refine wp_forced (by kernel_rfl) (by kernel_rfl) ?_
        simp only [ordered, List.filter_cons, List.filter_nil, isFloat, Option.isNone_none, Option.isNone_some, Bool.true_and, Bool.and_true, Bool.false_and, Bool.and_false, List.all_toArray, List.all_cons, List.all_nil, Region.binds, Bool.not_true, Bool.not_false, if_true, if_false, Bool.false_eq_true, List.cons_append, List.nil_append, ite_true, ite_false]
        repeat (refine wpF_light ?_ (fun K hK => ?_); (· simp only [lightOp]; done); go_simp; refine hK _ ?_; clear hK K; simp only [Act.put, List.setIfInBounds_toArray, List.set_cons_zero, List.set_cons_succ])
        refine wpF_call (by simp only [lightOp]) (by rfl) (fun K hK => ?_)
        go_wp2_with fail
        have KU0 : Hid (UpdP (fun k => own w k ∨ k = p) w (((wr.setCell ⟨p, 0, none⟩ (.int .i64 (nk + 1))).alloc (.cells #[.int .i64 a1, .int .i64 a2, .int .i64 a3, .int .i64 a4, .int .i64 a5, .int .i64 a6, .int .i64 a7, .slice Ab nb cb, .slice Ae ne ce] 40)).drew)) := Lib.hid (KU.out.trans (UpdP.of_upd (O := fun x => x = p) UQ.out (by simp)) (fun x hx => .inl (.inr hx)))
        generalize (((wr.setCell ⟨p, 0, none⟩ (.int .i64 (nk + 1))).alloc (.cells #[.int .i64 a1, .int .i64 a2, .int .i64 a3, .int .i64 a4, .int .i64 a5, .int .i64 a6, .int .i64 a7, .slice Ab nb cb, .slice Ae ne ce] 40)).drew) = w0 at *
        have S0 := Lib.hid (VV.out.keep _ _ _ KS.out UQ.out)
        have KL0 : Hid (Below B w w0) := Lib.hid (KU0.out.below hB (fun x hx => OB.out w s x HS.out hx))
        have z0 : B ≤ w0.heap.size := Nat.le_trans hB KU0.out.size
        have KO0 : Hid (∀ k, own w0 k → own w k ∨ w.heap.size ≤ k) := Lib.hid (fun k hk => KO.out k (VV.out.keepOwn _ _ _ k KS.out UQ.out hk))
        have hstep : ∃ b s', step sk (nk + 1) d X = (b, s') := ⟨_, _, rfl⟩
        obtain ⟨b, s', hstep⟩ := hstep
        have hc := VV.out.visit w0 sk (nk + 1) d X (.agg (stmCells a1 a2 a3 a4 a5 a6 a7 (.slice Ab nb cb) (.slice Ae ne ce)).toArray) S0.out (by rw [HXX.out]; exact ⟨_, _, rfl, HSB.out.belowW KL0.out, HSE.out.belowW KL0.out⟩) z0 (by omega) (by omega)
        rw [hstep] at hc HST
        rw [show ((nk + 1 : Nat) : Int) = (nk : Int) + 1 by omega] at hc
        refine hc.mono ?_; clear hc; rintro e w1 ⟨rfl, s1, u1, o1⟩
        have BQ1 := Lib.hid (BQ.out.updP u1 (fun h => by have := (VV.out.ownB wr sk _ KS.out (VV.out.keepOwn _ _ _ _ KS.out UQ.out h)).2.2; omega))
        have BP1 := Lib.hid (BP.out.updP u1 (fun h => (VV.out.ownB w0 sk _ S0.out h).2.1 rfl))
        have S1 := Lib.hid s1
        have KU1 := Lib.hid (KU0.out.trans u1 (fun x hx => (KO0.out x hx).elim (fun h => .inl (.inl h)) .inr))
        have KO1 : Hid (∀ k, own w1 k → own w k ∨ w.heap.size ≤ k) := Lib.hid (fun k hk => (o1 k hk).elim (KO0.out k) (fun h => .inr (by have := KU0.out.size; omega)))
        have NQ : Hid (¬ own w1 wr.heap.size ∧ wr.heap.size ≠ p) := Lib.hid ⟨fun h => by
          rcases o1 _ h with h | h
          · have := (VV.out.ownB wr sk _ KS.out (VV.out.keepOwn _ _ _ _ KS.out UQ.out h)).2.2; omega
          · have := BQ.out.lt; omega, by omega⟩
        have q7 : w1.cell? ⟨wr.heap.size, 7, none⟩ = some (.slice Ab nb cb) := BQ1.out.cell 7
        have q8 : w1.cell? ⟨wr.heap.size, 8, none⟩ = some (.slice Ae ne ce) := BQ1.out.cell 8
        have z1 : B ≤ w1.heap.size := Nat.le_trans hB KU1.out.size
        have KL1 : Hid (Below B w w1) := Lib.hid (KU1.out.below hB (fun x hx => OB.out w s x HS.out hx))
        have ZW : Hid (w.heap.size ≤ w1.heap.size) := Lib.hid KU1.out.size
        clear s1 u1 o1 c0 c1 c2 c3 c4 c5 c6 c7 c8 p0 p1 pf pl UQ BP BQ KO0 KL0 S0 KU0 z0 KB KU KL KO
        have HSTEP := Lib.hid hstep
        clear hstep
        cases b with
        | false =>
          go_wp2_with fail
          refine hK.out _ _ ?_
          clear hK K
          try simp only [Act.put, List.setIfInBounds_toArray, List.set_cons_zero, List.set_cons_succ]
          repeat (first | ((with_reducible refine wpF_no ?_ ?_); (· rfl); simp only [Act.put, List.setIfInBounds_toArray, List.set_cons_zero, List.set_cons_succ]) | ((with_reducible refine wpF_light ?_ (fun K hK => ?_)); (· simp only [lightOp]; done); go_simp; refine hK _ ?_; clear hK K; simp only [Act.put, List.setIfInBounds_toArray, List.set_cons_zero, List.set_cons_succ]))
          refine wpF_end ?_
          go_wp2_with fail
          go_ret
          rw [walkF_end (k := k + 1) HST.out]
          exact ⟨rfl, S1.out, BP1.out, KU1.out, KO1.out⟩
        | true =>
          go_wp2_with fail
          refine hK.out _ _ ?_
          clear hK K
          try simp only [Act.put, List.setIfInBounds_toArray, List.set_cons_zero, List.set_cons_succ]
          repeat (first | ((with_reducible refine wpF_no ?_ ?_); (· rfl); simp only [Act.put, List.setIfInBounds_toArray, List.set_cons_zero, List.set_cons_succ]) | ((with_reducible refine wpF_light ?_ (fun K hK => ?_)); (· simp only [lightOp]; done); go_simp; refine hK _ ?_; clear hK K; simp only [Act.put, List.setIfInBounds_toArray, List.set_cons_zero, List.set_cons_succ]))
          refine wpF_call (by simp only [lightOp]) (by rfl) (fun K hK => ?_)
          go_wp2_with fail
          have hc := IH.out bo (.slice Ab nb cb) w1 s' (nk + 1) (d + 1) (by omega) (HSB.out.belowW KL1.out) S1.out BP1.out z1 (by omega) (by omega)
          rw [show ((d + 1 : Nat) : Int) = (d : Int) + 1 by omega] at hc
          have hst1 := HST.out
          try simp only at hst1
          have hcnt := walkF_count (step := step) (linesOf (d + 1) bo) s' (nk + 1)
          rw [lines_sizes _ bo (d + 1) (Nat.le_refl _)] at hcnt
          obtain ⟨b2, s2, n2, hw2⟩ : ∃ b2 s2 n2, walkF step (linesOf (d + 1) bo) s' (nk + 1) = (b2, s2, n2) := ⟨_, _, _, rfl⟩
          rw [hw2] at hst1 hc hcnt
          refine hc.mono ?_; clear hc; rintro e w2 ⟨rfl, t2, bp2, u2, o2⟩
          try dsimp only at bp2 t2 hcnt ⊢
          have hle2 : nk + 1 + sizes bo ≤ n + sizes (l.take (k + 1)) := by omega
          have HST2 := Lib.hid hst1
          have S2 := Lib.hid t2
          have BP2 := Lib.hid bp2
          have KU2 := Lib.hid (KU1.out.trans u2 (fun x hx => hx.elim (fun h => (KO1.out x h).elim (fun h => .inl (.inl h)) .inr) (fun h => .inl (.inr h))))
          have KO2 : Hid (∀ k, own w2 k → own w k ∨ w.heap.size ≤ k) := Lib.hid (fun k hk => (o2 k hk).elim (KO1.out k) (fun h => .inr (by have := ZW.out; omega)))
          have BQ2 := Lib.hid (BQ1.out.updP u2 (fun h => h.elim NQ.out.1 NQ.out.2))
          have q8' : w2.cell? ⟨wr.heap.size, 8, none⟩ = some (.slice Ae ne ce) := BQ2.out.cell 8
          have z2 : B ≤ w2.heap.size := Nat.le_trans hB KU2.out.size
          have KL2 : Hid (Below B w w2) := Lib.hid (KU2.out.below hB (fun x hx => OB.out w s x HS.out hx))
          have ZW2 : Hid (w.heap.size ≤ w2.heap.size) := Lib.hid KU2.out.size
          clear q7 q8 bp2 t2 u2 o2 hst1 hw2
          cases b2 with
          | false =>
            go_wp2_with fail
            refine hK.out _ _ ?_
            clear hK K
            try simp only [Act.put, List.setIfInBounds_toArray, List.set_cons_zero, List.set_cons_succ]
            repeat (first | ((with_reducible refine wpF_no ?_ ?_); (· rfl); simp only [Act.put, List.setIfInBounds_toArray, List.set_cons_zero, List.set_cons_succ]) | ((with_reducible refine wpF_light ?_ (fun K hK => ?_)); (· simp only [lightOp]; done); go_simp; refine hK _ ?_; clear hK K; simp only [Act.put, List.setIfInBounds_toArray, List.set_cons_zero, List.set_cons_succ]))
            refine wpF_end ?_
            go_wp2_with fail
            go_ret
            rw [walkF_end (k := k + 1) HST2.out]
            exact ⟨rfl, S2.out, BP2.out, KU2.out, KO2.out⟩
          | true =>
            go_wp2_with fail
            refine hK.out _ _ ?_
            clear hK K
            try simp only [Act.put, List.setIfInBounds_toArray, List.set_cons_zero, List.set_cons_succ]
            repeat (first | ((with_reducible refine wpF_no ?_ ?_); (· rfl); simp only [Act.put, List.setIfInBounds_toArray, List.set_cons_zero, List.set_cons_succ]) | ((with_reducible refine wpF_light ?_ (fun K hK => ?_)); (· simp only [lightOp]; done); go_simp; refine hK _ ?_; clear hK K; simp only [Act.put, List.setIfInBounds_toArray, List.set_cons_zero, List.set_cons_succ]))
            refine wpF_call (by simp only [lightOp]) (by rfl) (fun K hK => ?_)
            go_wp2_with fail
            have hc := IH.out el (.slice Ae ne ce) w2 s2 n2 (d + 1) (by omega) (HSE.out.belowW KL2.out) S2.out BP2.out z2 (by omega) (by omega)
            rw [show ((d + 1 : Nat) : Int) = (d : Int) + 1 by omega] at hc
            have hst3 := HST2.out
            try simp only at hst3
            have hcnt3 := walkF_count (step := step) (linesOf (d + 1) el) s2 n2
            rw [lines_sizes _ el (d + 1) (Nat.le_refl _)] at hcnt3
            obtain ⟨b3, s3, n3, hw3⟩ : ∃ b3 s3 n3, walkF step (linesOf (d + 1) el) s2 n2 = (b3, s3, n3) := ⟨_, _, _, rfl⟩
            rw [hw3] at hst3 hc hcnt3
            refine hc.mono ?_; clear hc; rintro e w3 ⟨rfl, t3, bp3, u3, o3⟩
            try dsimp only at bp3 t3 hcnt3 ⊢
            have HST3 := Lib.hid hst3
            have S3 := Lib.hid t3
            have BP3 := Lib.hid bp3
            have KU3 := Lib.hid (KU2.out.trans u3 (fun x hx => hx.elim (fun h => (KO2.out x h).elim (fun h => .inl (.inl h)) .inr) (fun h => .inl (.inr h))))
            have KO3 : Hid (∀ k, own w3 k → own w k ∨ w.heap.size ≤ k) := Lib.hid (fun k hk => (o3 k hk).elim (KO2.out k) (fun h => .inr (by have := ZW2.out; omega)))
            clear q8' bp3 t3 u3 o3 hst3 hw3
            cases b3 with
            | false =>
              go_wp2_with fail
              refine hK.out _ _ ?_
              clear hK K
              try simp only [Act.put, List.setIfInBounds_toArray, List.set_cons_zero, List.set_cons_succ]
              repeat (first | ((with_reducible refine wpF_no ?_ ?_); (· rfl); simp only [Act.put, List.setIfInBounds_toArray, List.set_cons_zero, List.set_cons_succ]) | ((with_reducible refine wpF_light ?_ (fun K hK => ?_)); (· simp only [lightOp]; done); go_simp; refine hK _ ?_; clear hK K; simp only [Act.put, List.setIfInBounds_toArray, List.set_cons_zero, List.set_cons_succ]))
              refine wpF_end ?_
              go_wp2_with fail
              go_ret
              rw [walkF_end (k := k + 1) HST3.out]
              exact ⟨rfl, S3.out, BP3.out, KU3.out, KO3.out⟩
            | true =>
              go_wp2_with fail
              refine hK.out _ _ ?_
              clear hK K
              try simp only [Act.put, List.setIfInBounds_toArray, List.set_cons_zero, List.set_cons_succ]
              repeat (first | ((with_reducible refine wpF_no ?_ ?_); (· rfl); simp only [Act.put, List.setIfInBounds_toArray, List.set_cons_zero, List.set_cons_succ]) | ((with_reducible refine wpF_light ?_ (fun K hK => ?_)); (· simp only [lightOp]; done); go_simp; refine hK _ ?_; clear hK K; simp only [Act.put, List.setIfInBounds_toArray, List.set_cons_zero, List.set_cons_succ]))
              refine wpF_end ?_
              go_wp2_with fail
              go_roundw
              case rel => exact ⟨k + 1, s3, n3, by go_num, by omega, by omega, HST3, S3, BP3, KU3, KO3, KU3.out.size⟩
              case measure => simp [intOf]; omega
      · obtain rfl : nn = k := by omega
        go_wp2_with fail
        go_ret
        have hf := KF.out
        rw [List.take_of_length_le (by rw [HLN.out]; exact Nat.le_refl _)] at hf
        rw [hf]
        exact ⟨rfl, KS.out, KB.out, KU.out, KO.out⟩
end Go.Proofs.YtfbeaklplefojaaGreatDoor

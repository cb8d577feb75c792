/-
  prog.Walk by a contract, for whatever is called, where something is known of the count and what is kept.
-/
import Derived.Test.YtblfklnnojhadaaDoorWalkP
set_option linter.unusedVariables false
namespace Go.Proofs.YtblfklnnojhadaaDoor
open Go.RowKit
attribute [local go_sem] litStep_value

structure VisitorG (σ : Type) (G : Nat → σ → Prop) (fid : FuncId) (caps : Array Value) (B p : Nat) (St : World → σ → Prop) (own : World → Nat → Prop) (step : σ → Nat → Nat → Stm → Bool × σ) : Prop where
  enter : ∀ args w, (callFunc fid args).run Tryd.prog w = .ok (.enter fid args) w
  keep : ∀ w w' s, St w s → Upd [p] w w' → St w' s
  keepOwn : ∀ w w' s k, St w s → Upd [p] w w' → own w' k → own w k
  ownB : ∀ w s k, St w s → own w k → B ≤ k ∧ k ≠ p ∧ k < w.heap.size
  good : ∀ (n d : Nat) s x, G n s → G (n + 1) (step s (n + 1) d x).2
  visit : ∀ w s (n d : Nat) x v, (∃ m, n = m + 1 ∧ G m s) → St w s → StmV w B x v → B ≤ w.heap.size → n ≤ 1000000 → d ≤ 1000000 → Calls Tryd.prog fid (#[.int .i64 n, .int .i64 d, v] ++ caps) w fun e w' =>
    e = .returned (.bool (step s n d x).1) ∧ St w' (step s n d x).2 ∧ UpdP (own w) w w' ∧ ∀ k, own w' k → own w k ∨ w.heap.size ≤ k

theorem VisitorG.all {σ : Type} {G : Nat → σ → Prop} {fid : FuncId} {caps : Array Value} {B p : Nat} {St : World → σ → Prop} {own : World → Nat → Prop} {step : σ → Nat → Nat → Stm → Bool × σ} (V : VisitorG σ G fid caps B p St own step) :
    ∀ (L : List (Stm × Nat)) (s : σ) (n : Nat), G n s → G (walkF step L s n).2.2 (walkF step L s n).2.1
  | [], s, n, h => h
  | (x, d) :: L, s, n, h => by
    unfold walkF
    have h1 := V.good n d s x h
    obtain ⟨b, s', hs⟩ : ∃ b s', step s (n + 1) d x = (b, s') := ⟨_, _, rfl⟩
    rw [hs] at h1 ⊢
    cases b with
    | true => exact V.all L s' (n + 1) h1
    | false => exact h1

set_option maxRecDepth 100000 in
set_option maxHeartbeats 4000000 in
theorem walkG_ok {σ : Type} {G : Nat → σ → Prop} {fid : FuncId} {caps : Array Value} {B p : Nat} {St : World → σ → Prop} {own : World → Nat → Prop} {step : σ → Nat → Nat → Stm → Bool × σ} (V : VisitorG σ G fid caps B p St own step) (hp : B ≤ p) :
    ∀ (m : Nat) (l : List Stm) (v : Value) (w : World) (s : σ) (n d : Nat), sizes l < m → Stms w B v l → G n s → St w s → Blk w p 58 #[.int .i64 n, .func (.func fid) #[] caps] → B ≤ w.heap.size → n + sizes l ≤ 1000000 → d + sizes l ≤ 1000000 →
    Calls Tryd.prog 29 #[.pointer (some ⟨p, 0, none⟩), v, .int .i64 d] w (WalkPost St own p (.func (.func fid) #[] caps) w (walkF step (linesOf d l) s n)) := by
  intro m
  induction m with
  | zero => intro l v w s n d hm; omega
  | succ m ih =>
    intro l v w s n d hm hl hgs hs hb hB hn hd
    have HGS := Lib.hid hgs
    clear hgs
    have HL := Lib.hid hl
    cases hl with
    | mk A nn c l vb ve hln hc hcm hcell hbb hee =>
    have hnn : nn ≤ 9223372036854775807 := by omega
    have HS := Lib.hid hs
    have HB := Lib.hid hb
    clear hs hb
    have HLN := Lib.hid hln
    have HCE := Lib.hid hcell
    have HBB := Lib.hid hbb
    have HEE := Lib.hid hee
    have IH := Lib.hid ih
    have VV := Lib.hid V
    have OB : Hid (∀ W s x, St W s → own W x ∨ x = p → B ≤ x) := Lib.hid (fun W s x h1 h2 => h2.elim (fun h => (V.ownB W s x h1 h).1) (fun h => h ▸ hp))
    have ent := V.enter
    clear hln hcell hbb hee ih V
    go_enter Tryd.func29, Tryd.ntmps29
    go_wp2_with fail
    go_loopw [11] (fun u wr => ∃ (k : Nat) (sk : σ) (nk : Nat), u = .int .i64 k ∧ k ≤ nn ∧ nk ≤ n + sizes (l.take k) ∧ Hid (walkF step (linesOf d (l.take k)) s n = (true, sk, nk)) ∧ Hid (St wr sk) ∧ Hid (Blk wr p 58 #[.int .i64 nk, .func (.func fid) #[] caps]) ∧ Hid (UpdP (fun k => own w k ∨ k = p) w wr) ∧ Hid (∀ k, own wr k → own w k ∨ w.heap.size ≤ k) ∧ w.heap.size ≤ wr.heap.size) (fun u _ => nn - (intOf u).toNat)
    case atStart => exact ⟨0, s, n, rfl, by omega, by omega, Lib.hid rfl, HS, HB, Lib.hid (.refl _ _), Lib.hid (fun k h => .inl h), Nat.le_refl _⟩
    case round =>
      obtain ⟨k, sk, nk, rfl, hk, hnk, KF, KS, KB, KU, KO, kz⟩ := hrel
      have GK : Hid (G nk sk) := Lib.hid (by have h := VV.out.all (linesOf d (l.take k)) s n HGS.out; rw [KF.out] at h; exact h)
      have KL : Hid (Below B w wr) := Lib.hid (KU.out.below hB (fun x hx => OB.out w s x HS.out hx))
      by_cases hkn : k < nn
      · obtain ⟨x, hx⟩ : ∃ x, l[k]? = some x := ⟨_, List.getElem?_eq_getElem (by rw [HLN.out]; exact hkn)⟩
        obtain ⟨a1, a2, a3, a4, a5, a6, a7, bo, el⟩ := x
        obtain ⟨ad, rfl, hlt, hcc⟩ := HCE.out k a1 a2 a3 a4 a5 a6 a7 bo el hx
        have c0 : wr.cell? (ad.add (k * 9)) = some (.int .i64 a1) := (KL.out.cell (by rw [block_add]; exact hlt)).trans (hcc 0 _ rfl)
        have cj : ∀ j u, (stmCells a1 a2 a3 a4 a5 a6 a7 (vb k) (ve k))[j + 1]? = some u → wr.cell? ⟨(ad.add (k * 9)).block, (ad.add (k * 9)).off + (j + 1), none⟩ = some u := fun j u hu => by
          rw [← add_more]; exact (KL.out.cell (by rw [block_add]; exact hlt)).trans (hcc (j + 1) _ hu)
        have c1 := cj 0 _ rfl
        have c2 := cj 1 _ rfl
        have c3 := cj 2 _ rfl
        have c4 := cj 3 _ rfl
        have c5 := cj 4 _ rfl
        have c6 := cj 5 _ rfl
        have c7 := cj 6 _ rfl
        have c8 := cj 7 _ rfl
        have hsb := HBB.out k a1 a2 a3 a4 a5 a6 a7 bo el hx
        have hse := HEE.out k a1 a2 a3 a4 a5 a6 a7 bo el hx
        obtain ⟨Ab, nb, cb, hvb⟩ := hsb.slice
        obtain ⟨Ae, ne, ce, hve⟩ := hse.slice
        rw [hvb] at c7 hsb
        rw [hve] at c8 hse
        have HSB := Lib.hid hsb
        have HSE := Lib.hid hse
        clear hvb hve hsb hse
        have p0 : wr.cell? ⟨p, 0, none⟩ = some (.int .i64 nk) := KB.out.cell 0
        have p1 : wr.cell? ⟨p, 1, none⟩ = some (.func (.func fid) #[] caps) := KB.out.cell 1
        have pf : wr.frozen? ⟨p, 0, none⟩ = false := KB.out.frozen 0
        have pl : p < wr.heap.size := KB.out.lt
        have hsz := sizes_get hx
        rw [size_mk] at hsz
        have hst := sizes_take hx
        rw [size_mk] at hst
        have htl := sizes_take_le l (k + 1)
        have HX := Lib.hid hx
        have HST := Lib.hid (walkF_step hx KF.out)
        obtain ⟨X, hX⟩ : ∃ X, X = Stm.mk a1 a2 a3 a4 a5 a6 a7 bo el := ⟨_, rfl⟩
        rw [← hX] at HST
        have HXX := Lib.hid hX
        clear hcc cj hx hX
        go_wp2_with fail
        have UQ : Hid (Upd [p] wr (((wr.setCell ⟨p, 0, none⟩ (.int .i64 (nk + 1))).alloc (.cells #[.int .i64 a1, .int .i64 a2, .int .i64 a3, .int .i64 a4, .int .i64 a5, .int .i64 a6, .int .i64 a7, .slice Ab nb cb, .slice Ae ne ce] 39)).drew)) := Lib.hid ((((Upd.refl [p] wr).setCell (.inl (by simp)) _).alloc _).drew)
        have BQ : Hid (Blk (((wr.setCell ⟨p, 0, none⟩ (.int .i64 (nk + 1))).alloc (.cells #[.int .i64 a1, .int .i64 a2, .int .i64 a3, .int .i64 a4, .int .i64 a5, .int .i64 a6, .int .i64 a7, .slice Ab nb cb, .slice Ae ne ce] 39)).drew) wr.heap.size 39 #[.int .i64 a1, .int .i64 a2, .int .i64 a3, .int .i64 a4, .int .i64 a5, .int .i64 a6, .int .i64 a7, .slice Ab nb cb, .slice Ae ne ce]) := Lib.hid (by
          have := (Blk.new (wr.setCell ⟨p, 0, none⟩ (.int .i64 (nk + 1))) 39 #[.int .i64 a1, .int .i64 a2, .int .i64 a3, .int .i64 a4, .int .i64 a5, .int .i64 a6, .int .i64 a7, .slice Ab nb cb, .slice Ae ne ce]).drew
          rw [show (wr.setCell ⟨p, 0, none⟩ (.int .i64 (nk + 1))).heap.size = wr.heap.size by simp [World.setCell]] at this
          exact this)
        have BP : Hid (Blk (((wr.setCell ⟨p, 0, none⟩ (.int .i64 (nk + 1))).alloc (.cells #[.int .i64 a1, .int .i64 a2, .int .i64 a3, .int .i64 a4, .int .i64 a5, .int .i64 a6, .int .i64 a7, .slice Ab nb cb, .slice Ae ne ce] 39)).drew) p 58 #[.int .i64 ((nk : Int) + 1), .func (.func fid) #[] caps]) := Lib.hid (((KB.out.set_eq rfl).alloc _).drew)
        refine wp_forced (by kernel_rfl) (by kernel_rfl) ?_
        simp only [ordered, List.filter_cons, List.filter_nil, isFloat, Option.isNone_none, Option.isNone_some, Bool.true_and, Bool.and_true, Bool.false_and, Bool.and_false, List.all_toArray, List.all_cons, List.all_nil, Region.binds, Bool.not_true, Bool.not_false, if_true, if_false, Bool.false_eq_true, List.cons_append, List.nil_append, ite_true, ite_false]
        repeat (refine wpF_light ?_ (fun K hK => ?_); (· simp only [lightOp]; done); go_simp; refine hK _ ?_; clear hK K; simp only [Act.put, List.setIfInBounds_toArray, List.set_cons_zero, List.set_cons_succ])
        refine wpF_call (by simp only [lightOp]) (by rfl) (fun K hK => ?_)
        go_wp2_with fail
        have KU0 : Hid (UpdP (fun k => own w k ∨ k = p) w (((wr.setCell ⟨p, 0, none⟩ (.int .i64 (nk + 1))).alloc (.cells #[.int .i64 a1, .int .i64 a2, .int .i64 a3, .int .i64 a4, .int .i64 a5, .int .i64 a6, .int .i64 a7, .slice Ab nb cb, .slice Ae ne ce] 39)).drew)) := Lib.hid (KU.out.trans (UpdP.of_upd (O := fun x => x = p) UQ.out (by simp)) (fun x hx => .inl (.inr hx)))
        generalize (((wr.setCell ⟨p, 0, none⟩ (.int .i64 (nk + 1))).alloc (.cells #[.int .i64 a1, .int .i64 a2, .int .i64 a3, .int .i64 a4, .int .i64 a5, .int .i64 a6, .int .i64 a7, .slice Ab nb cb, .slice Ae ne ce] 39)).drew) = w0 at *
        have S0 := Lib.hid (VV.out.keep _ _ _ KS.out UQ.out)
        have KL0 : Hid (Below B w w0) := Lib.hid (KU0.out.below hB (fun x hx => OB.out w s x HS.out hx))
        have z0 : B ≤ w0.heap.size := Nat.le_trans hB KU0.out.size
        have KO0 : Hid (∀ k, own w0 k → own w k ∨ w.heap.size ≤ k) := Lib.hid (fun k hk => KO.out k (VV.out.keepOwn _ _ _ k KS.out UQ.out hk))
        have hstep : ∃ b s', step sk (nk + 1) d X = (b, s') := ⟨_, _, rfl⟩
        obtain ⟨b, s', hstep⟩ := hstep
        have hc := VV.out.visit w0 sk (nk + 1) d X (.agg (stmCells a1 a2 a3 a4 a5 a6 a7 (.slice Ab nb cb) (.slice Ae ne ce)).toArray) ⟨nk, rfl, GK.out⟩ S0.out (by rw [HXX.out]; exact ⟨_, _, rfl, HSB.out.belowW KL0.out, HSE.out.belowW KL0.out⟩) z0 (by omega) (by omega)
        have GS : Hid (G (nk + 1) s') := Lib.hid (by have h := VV.out.good nk d sk X GK.out; rw [hstep] at h; exact h)
        rw [hstep] at hc HST
        rw [show ((nk + 1 : Nat) : Int) = (nk : Int) + 1 by omega] at hc
        refine hc.mono ?_; clear hc; rintro e w1 ⟨rfl, s1, u1, o1⟩
        have BQ1 := Lib.hid (BQ.out.updP u1 (fun h => by have := (VV.out.ownB wr sk _ KS.out (VV.out.keepOwn _ _ _ _ KS.out UQ.out h)).2.2; omega))
        have BP1 := Lib.hid (BP.out.updP u1 (fun h => (VV.out.ownB w0 sk _ S0.out h).2.1 rfl))
        have S1 := Lib.hid s1
        have KU1 := Lib.hid (KU0.out.trans u1 (fun x hx => (KO0.out x hx).elim (fun h => .inl (.inl h)) .inr))
        have KO1 : Hid (∀ k, own w1 k → own w k ∨ w.heap.size ≤ k) := Lib.hid (fun k hk => (o1 k hk).elim (KO0.out k) (fun h => .inr (by have := KU0.out.size; omega)))
        have NQ : Hid (¬ own w1 wr.heap.size ∧ wr.heap.size ≠ p) := Lib.hid ⟨fun h => by
          rcases o1 _ h with h | h
          · have := (VV.out.ownB wr sk _ KS.out (VV.out.keepOwn _ _ _ _ KS.out UQ.out h)).2.2; omega
          · have := BQ.out.lt; omega, by omega⟩
        have q7 : w1.cell? ⟨wr.heap.size, 7, none⟩ = some (.slice Ab nb cb) := BQ1.out.cell 7
        have q8 : w1.cell? ⟨wr.heap.size, 8, none⟩ = some (.slice Ae ne ce) := BQ1.out.cell 8
        have z1 : B ≤ w1.heap.size := Nat.le_trans hB KU1.out.size
        have KL1 : Hid (Below B w w1) := Lib.hid (KU1.out.below hB (fun x hx => OB.out w s x HS.out hx))
        have ZW : Hid (w.heap.size ≤ w1.heap.size) := Lib.hid KU1.out.size
        clear s1 u1 o1 c0 c1 c2 c3 c4 c5 c6 c7 c8 p0 p1 pf pl UQ BP BQ KO0 KL0 S0 KU0 z0 KB KU KL KO
        have HSTEP := Lib.hid hstep
        clear hstep
        cases b with
        | false =>
          go_wp2_with fail
          refine hK.out _ _ ?_
          clear hK K
          try simp only [Act.put, List.setIfInBounds_toArray, List.set_cons_zero, List.set_cons_succ]
          repeat (first | ((with_reducible refine wpF_no ?_ ?_); (· rfl); simp only [Act.put, List.setIfInBounds_toArray, List.set_cons_zero, List.set_cons_succ]) | ((with_reducible refine wpF_light ?_ (fun K hK => ?_)); (· simp only [lightOp]; done); go_simp; refine hK _ ?_; clear hK K; simp only [Act.put, List.setIfInBounds_toArray, List.set_cons_zero, List.set_cons_succ]))
          refine wpF_end ?_
          go_wp2_with fail
          go_ret
          rw [walkF_end (k := k + 1) HST.out]
          exact ⟨rfl, S1.out, BP1.out, KU1.out, KO1.out⟩
        | true =>
          go_wp2_with fail
          refine hK.out _ _ ?_
          clear hK K
          try simp only [Act.put, List.setIfInBounds_toArray, List.set_cons_zero, List.set_cons_succ]
          repeat (first | ((with_reducible refine wpF_no ?_ ?_); (· rfl); simp only [Act.put, List.setIfInBounds_toArray, List.set_cons_zero, List.set_cons_succ]) | ((with_reducible refine wpF_light ?_ (fun K hK => ?_)); (· simp only [lightOp]; done); go_simp; refine hK _ ?_; clear hK K; simp only [Act.put, List.setIfInBounds_toArray, List.set_cons_zero, List.set_cons_succ]))
          refine wpF_call (by simp only [lightOp]) (by rfl) (fun K hK => ?_)
          go_wp2_with fail
          have hc := IH.out bo (.slice Ab nb cb) w1 s' (nk + 1) (d + 1) (by omega) (HSB.out.belowW KL1.out) GS.out S1.out BP1.out z1 (by omega) (by omega)
          rw [show ((d + 1 : Nat) : Int) = (d : Int) + 1 by omega] at hc
          have hst1 := HST.out
          try simp only at hst1
          have hcnt := walkF_count (step := step) (linesOf (d + 1) bo) s' (nk + 1)
          rw [lines_sizes _ bo (d + 1) (Nat.le_refl _)] at hcnt
          obtain ⟨b2, s2, n2, hw2⟩ : ∃ b2 s2 n2, walkF step (linesOf (d + 1) bo) s' (nk + 1) = (b2, s2, n2) := ⟨_, _, _, rfl⟩
          have GS2 : Hid (G n2 s2) := Lib.hid (by have h := VV.out.all (linesOf (d + 1) bo) s' (nk + 1) GS.out; rw [hw2] at h; exact h)
          rw [hw2] at hst1 hc hcnt
          refine hc.mono ?_; clear hc; rintro e w2 ⟨rfl, t2, bp2, u2, o2⟩
          try dsimp only at bp2 t2 hcnt ⊢
          have hle2 : nk + 1 + sizes bo ≤ n + sizes (l.take (k + 1)) := by omega
          have HST2 := Lib.hid hst1
          have S2 := Lib.hid t2
          have BP2 := Lib.hid bp2
          have KU2 := Lib.hid (KU1.out.trans u2 (fun x hx => hx.elim (fun h => (KO1.out x h).elim (fun h => .inl (.inl h)) .inr) (fun h => .inl (.inr h))))
          have KO2 : Hid (∀ k, own w2 k → own w k ∨ w.heap.size ≤ k) := Lib.hid (fun k hk => (o2 k hk).elim (KO1.out k) (fun h => .inr (by have := ZW.out; omega)))
          have BQ2 := Lib.hid (BQ1.out.updP u2 (fun h => h.elim NQ.out.1 NQ.out.2))
          have q8' : w2.cell? ⟨wr.heap.size, 8, none⟩ = some (.slice Ae ne ce) := BQ2.out.cell 8
          have z2 : B ≤ w2.heap.size := Nat.le_trans hB KU2.out.size
          have KL2 : Hid (Below B w w2) := Lib.hid (KU2.out.below hB (fun x hx => OB.out w s x HS.out hx))
          have ZW2 : Hid (w.heap.size ≤ w2.heap.size) := Lib.hid KU2.out.size
          clear q7 q8 bp2 t2 u2 o2 hst1 hw2
          cases b2 with
          | false =>
            go_wp2_with fail
            refine hK.out _ _ ?_
            clear hK K
            try simp only [Act.put, List.setIfInBounds_toArray, List.set_cons_zero, List.set_cons_succ]
            repeat (first | ((with_reducible refine wpF_no ?_ ?_); (· rfl); simp only [Act.put, List.setIfInBounds_toArray, List.set_cons_zero, List.set_cons_succ]) | ((with_reducible refine wpF_light ?_ (fun K hK => ?_)); (· simp only [lightOp]; done); go_simp; refine hK _ ?_; clear hK K; simp only [Act.put, List.setIfInBounds_toArray, List.set_cons_zero, List.set_cons_succ]))
            refine wpF_end ?_
            go_wp2_with fail
            go_ret
            rw [walkF_end (k := k + 1) HST2.out]
            exact ⟨rfl, S2.out, BP2.out, KU2.out, KO2.out⟩
          | true =>
            go_wp2_with fail
            refine hK.out _ _ ?_
            clear hK K
            try simp only [Act.put, List.setIfInBounds_toArray, List.set_cons_zero, List.set_cons_succ]
            repeat (first | ((with_reducible refine wpF_no ?_ ?_); (· rfl); simp only [Act.put, List.setIfInBounds_toArray, List.set_cons_zero, List.set_cons_succ]) | ((with_reducible refine wpF_light ?_ (fun K hK => ?_)); (· simp only [lightOp]; done); go_simp; refine hK _ ?_; clear hK K; simp only [Act.put, List.setIfInBounds_toArray, List.set_cons_zero, List.set_cons_succ]))
            refine wpF_call (by simp only [lightOp]) (by rfl) (fun K hK => ?_)
            go_wp2_with fail
            have hc := IH.out el (.slice Ae ne ce) w2 s2 n2 (d + 1) (by omega) (HSE.out.belowW KL2.out) GS2.out S2.out BP2.out z2 (by omega) (by omega)
            rw [show ((d + 1 : Nat) : Int) = (d : Int) + 1 by omega] at hc
            have hst3 := HST2.out
            try simp only at hst3
            have hcnt3 := walkF_count (step := step) (linesOf (d + 1) el) s2 n2
            rw [lines_sizes _ el (d + 1) (Nat.le_refl _)] at hcnt3
            obtain ⟨b3, s3, n3, hw3⟩ : ∃ b3 s3 n3, walkF step (linesOf (d + 1) el) s2 n2 = (b3, s3, n3) := ⟨_, _, _, rfl⟩
            rw [hw3] at hst3 hc hcnt3
            refine hc.mono ?_; clear hc; rintro e w3 ⟨rfl, t3, bp3, u3, o3⟩
            try dsimp only at bp3 t3 hcnt3 ⊢
            have HST3 := Lib.hid hst3
            have S3 := Lib.hid t3
            have BP3 := Lib.hid bp3
            have KU3 := Lib.hid (KU2.out.trans u3 (fun x hx => hx.elim (fun h => (KO2.out x h).elim (fun h => .inl (.inl h)) .inr) (fun h => .inl (.inr h))))
            have KO3 : Hid (∀ k, own w3 k → own w k ∨ w.heap.size ≤ k) := Lib.hid (fun k hk => (o3 k hk).elim (KO2.out k) (fun h => .inr (by have := ZW2.out; omega)))
            clear q8' bp3 t3 u3 o3 hst3 hw3
            cases b3 with
            | false =>
              go_wp2_with fail
              refine hK.out _ _ ?_
              clear hK K
              try simp only [Act.put, List.setIfInBounds_toArray, List.set_cons_zero, List.set_cons_succ]
              repeat (first | ((with_reducible refine wpF_no ?_ ?_); (· rfl); simp only [Act.put, List.setIfInBounds_toArray, List.set_cons_zero, List.set_cons_succ]) | ((with_reducible refine wpF_light ?_ (fun K hK => ?_)); (· simp only [lightOp]; done); go_simp; refine hK _ ?_; clear hK K; simp only [Act.put, List.setIfInBounds_toArray, List.set_cons_zero, List.set_cons_succ]))
              refine wpF_end ?_
              go_wp2_with fail
              go_ret
              rw [walkF_end (k := k + 1) HST3.out]
              exact ⟨rfl, S3.out, BP3.out, KU3.out, KO3.out⟩
            | true =>
              go_wp2_with fail
              refine hK.out _ _ ?_
              clear hK K
              try simp only [Act.put, List.setIfInBounds_toArray, List.set_cons_zero, List.set_cons_succ]
              repeat (first | ((with_reducible refine wpF_no ?_ ?_); (· rfl); simp only [Act.put, List.setIfInBounds_toArray, List.set_cons_zero, List.set_cons_succ]) | ((with_reducible refine wpF_light ?_ (fun K hK => ?_)); (· simp only [lightOp]; done); go_simp; refine hK _ ?_; clear hK K; simp only [Act.put, List.setIfInBounds_toArray, List.set_cons_zero, List.set_cons_succ]))
              refine wpF_end ?_
              go_wp2_with fail
              go_roundw
              case rel => exact ⟨k + 1, s3, n3, by go_num, by omega, by omega, HST3, S3, BP3, KU3, KO3, KU3.out.size⟩
              case measure => simp [intOf]; omega
      · obtain rfl : nn = k := by omega
        go_wp2_with fail
        go_ret
        have hf := KF.out
        rw [List.take_of_length_le (by rw [HLN.out]; exact Nat.le_refl _)] at hf
        rw [hf]
        exact ⟨rfl, KS.out, KB.out, KU.out, KO.out⟩

/-- What is asked of what Walk calls. -/
structure Visitor2G (σ : Type) (G : Nat → σ → Prop) (fid : FuncId) (caps : Array Value) (B : Nat) (St : World → σ → Prop) (own : World → Nat → Prop) (step : σ → Nat → Stm → Bool × σ) : Prop where
  enter : ∀ args w, (callFunc fid args).run Tryd.prog w = .ok (.enter fid args) w
  keep : ∀ w w' s p, St w s → ¬ own w p → Upd [p] w w' → St w' s
  keepOwn : ∀ w w' s k p, St w s → ¬ own w p → Upd [p] w w' → own w' k → own w k
  ownB : ∀ w s k, St w s → own w k → B ≤ k ∧ k < w.heap.size
  good : ∀ (n : Nat) s x, G n s → G (n + 1) (step s (n + 1) x).2
  visit : ∀ w s (n : Nat) x v, (∃ m, n = m + 1 ∧ G m s) → St w s → StmV w B x v → B ≤ w.heap.size → n ≤ 1000000 → Calls Tryd.prog fid (#[.int .i64 n, v] ++ caps) w fun e w' =>
    e = .returned (.bool (step s n x).1) ∧ St w' (step s n x).2 ∧ UpdP (own w) w w' ∧ ∀ k, own w' k → own w k ∨ w.heap.size ≤ k

set_option maxRecDepth 100000 in
set_option maxHeartbeats 2000000 in
theorem walk1_visitorG {σ : Type} {G : Nat → σ → Prop} {fid : FuncId} {caps : Array Value} {B vb p : Nat} {St : World → σ → Prop} {own : World → Nat → Prop} {step : σ → Nat → Stm → Bool × σ} (V : Visitor2G σ G fid caps B St own step) :
    VisitorG σ G 33 #[.pointer (some ⟨vb, 0, none⟩)] B p (WalkSt fid caps B vb p St own) own (fun s n _ x => step s n x) where
  enter := fun args w => rfl
  keep := fun w w' s ⟨h1, h2, h3, h4, h5, h6, h7⟩ hu => ⟨V.keep _ _ _ _ h1 h2 hu, fun h => h2 (V.keepOwn _ _ _ _ _ h1 h2 hu h), fun h => h3 (V.keepOwn _ _ _ _ _ h1 h2 hu h), h4.upd hu (by simpa using h7), Nat.lt_of_lt_of_le h5 hu.size, h6, h7⟩
  keepOwn := fun w w' s k ⟨h1, h2, _⟩ hu h => V.keepOwn _ _ _ _ _ h1 h2 hu h
  ownB := fun w s k ⟨h1, h2, _⟩ h => ⟨(V.ownB _ _ _ h1 h).1, fun e => h2 (e ▸ h), (V.ownB _ _ _ h1 h).2⟩
  good := fun n d s x h => V.good n s x h
  visit := by
    rintro w s n d x v HGM ⟨h1, h2, h3, h4, h5, h6, h7⟩ hv hB hn hd
    obtain ⟨a1, a2, a3, a4, a5, a6, a7, bo, el⟩ := x
    obtain ⟨vbo, ve, rfl, hb, he⟩ := hv
    obtain ⟨Ab, nb, cb, rfl⟩ := hb.slice
    obtain ⟨Ae, ne, ce, rfl⟩ := he.slice
    obtain ⟨X, hX⟩ : ∃ X, X = Stm.mk a1 a2 a3 a4 a5 a6 a7 bo el := ⟨_, rfl⟩
    have c0 : w.cell? ⟨vb, 0, none⟩ = some (.func (.func fid) #[] caps) := h4.cell 0
    have cl : vb < w.heap.size := h4.lt
    have HG := Lib.hid HGM
    clear HGM
    have H1 := Lib.hid h1
    have H2 := Lib.hid h2
    have H3 := Lib.hid h3
    have H4 := Lib.hid h4
    have HB := Lib.hid hb
    have HE := Lib.hid he
    have VV := Lib.hid V
    have ent := V.enter
    have HX := Lib.hid hX
    rw [← hX]
    clear h1 h2 h3 h4 hb he V hX
    unfold stmCells
    go_enter Tryd.func33, Tryd.ntmps33
    go_wp2_with fail
    have U0 : Hid (Upd [] w (w.alloc (.cells #[.int .i64 a1, .int .i64 a2, .int .i64 a3, .int .i64 a4, .int .i64 a5, .int .i64 a6, .int .i64 a7, .slice Ab nb cb, .slice Ae ne ce] 39))) := Lib.hid ((Upd.refl [] w).alloc _)
    generalize (w.alloc (.cells #[.int .i64 a1, .int .i64 a2, .int .i64 a3, .int .i64 a4, .int .i64 a5, .int .i64 a6, .int .i64 a7, .slice Ab nb cb, .slice Ae ne ce] 39)) = w1 at *
    have UP : Hid (Upd [p] w w1) := Lib.hid (U0.out.mono (by simp))
    have hz := U0.out.size
    have KO := Lib.hid (fun k => VV.out.keepOwn _ _ _ k _ H1.out H2.out UP.out)
    have KB : Hid (Below B w w1) := Lib.hid (U0.out.below hB (by simp))
    have hc := VV.out.visit w1 s n X (.agg (stmCells a1 a2 a3 a4 a5 a6 a7 (.slice Ab nb cb) (.slice Ae ne ce)).toArray) HG.out (VV.out.keep _ _ _ _ H1.out H2.out UP.out) (by rw [HX.out]; exact ⟨_, _, rfl, HB.out.belowW KB.out, HE.out.belowW KB.out⟩) (by omega) hn
    obtain ⟨b, s', hst⟩ : ∃ b s', step s n X = (b, s') := ⟨_, _, rfl⟩
    rw [hst] at hc
    have HST := Lib.hid hst
    clear hst
    refine hc.mono ?_; clear hc; rintro e w2 ⟨rfl, s1, u1, o1⟩
    have S1 := Lib.hid s1
    have U1 := Lib.hid u1
    have O1 := Lib.hid o1
    clear s1 u1 o1
    go_wp2_with fail
    go_ret
    rw [HST.out]
    have hvl := H4.out.lt
    refine ⟨rfl, ⟨S1.out, fun h => ?_, fun h => ?_, (H4.out.upd U0.out (by simp)).updP U1.out (fun h => H3.out (KO.out _ h)), Nat.lt_of_lt_of_le h5 (Nat.le_trans hz U1.out.size), h6, h7⟩, ⟨U1.out.os.trans U0.out.os, U1.out.tape.trans U0.out.tape, U1.out.output.trans U0.out.output, Nat.le_trans hz U1.out.size, fun k hk hno => ?_⟩, fun k hk => ?_⟩
    · rcases O1.out _ h with h | h
      · exact H2.out (KO.out _ h)
      · omega
    · rcases O1.out _ h with h | h
      · exact H3.out (KO.out _ h)
      · omega
    · exact (U1.out.keep k (by omega) (fun h => hno (KO.out _ h))).trans (U0.out.keep k hk (by simp))
    · exact (O1.out k hk).imp (KO.out k) (fun h => by omega)

set_option maxRecDepth 100000 in
set_option maxHeartbeats 2000000 in
/-- Walk: what is called, is called for one line behind the other. -/
theorem walkPG_ok {σ : Type} {G : Nat → σ → Prop} {fid : FuncId} {caps : Array Value} {B : Nat} {St : World → σ → Prop} {own : World → Nat → Prop} {step : σ → Nat → Stm → Bool × σ} (V : Visitor2G σ G fid caps B St own step) (l : List Stm) (v : Value) (w : World) (s : σ)
    (hv : Stms w B v l) (hg : G 0 s) (hs : St w s) (hB : B ≤ w.heap.size) (hl : sizes l ≤ 900000) :
    Calls Tryd.prog 15 #[v, .func (.func fid) #[] caps] w fun e w' => e = .returned (.tuple #[]) ∧ St w' (walkF (fun s n _ x => step s n x) (linesOf 1 l) s 0).2.1 ∧ UpdP (own w) w w' ∧ ∀ k, own w' k → own w k ∨ w.heap.size ≤ k := by
  have HV := Lib.hid hv
  have HG0 := Lib.hid hg
  clear hg
  have HS := Lib.hid hs
  have VV := Lib.hid V
  have ent := V.enter
  obtain ⟨Av, nv, cv, rfl⟩ := hv.slice
  clear hv hs V
  go_enter Tryd.func15, Tryd.ntmps15
  go_wp2_with fail
  have U3 : Hid (Upd [] w ((w.alloc (.cells #[.func (.func fid) #[] caps] 43)).alloc (.cells #[.int .i64 0, .func (.func 33) #[] #[.pointer (some ⟨w.heap.size, 0, none⟩)]] 58))) := Lib.hid (((Upd.refl [] w).alloc _).alloc _)
  have b1 : Hid (Blk ((w.alloc (.cells #[.func (.func fid) #[] caps] 43)).alloc (.cells #[.int .i64 0, .func (.func 33) #[] #[.pointer (some ⟨w.heap.size, 0, none⟩)]] 58)) w.heap.size 43 #[.func (.func fid) #[] caps]) := Lib.hid ((Blk.new w _ _).alloc _)
  have b2 : Hid (Blk ((w.alloc (.cells #[.func (.func fid) #[] caps] 43)).alloc (.cells #[.int .i64 0, .func (.func 33) #[] #[.pointer (some ⟨w.heap.size, 0, none⟩)]] 58)) (w.heap.size + 1) 58 #[.int .i64 ((0 : Nat) : Int), .func (.func 33) #[] #[.pointer (some ⟨w.heap.size, 0, none⟩)]]) := Lib.hid (Blk.newAt _ _ (by simp))
  generalize ((w.alloc (.cells #[.func (.func fid) #[] caps] 43)).alloc (.cells #[.int .i64 0, .func (.func 33) #[] #[.pointer (some ⟨w.heap.size, 0, none⟩)]] 58)) = w3 at *
  have hno : Hid (∀ k, own w k → k < w.heap.size) := Lib.hid (fun k h => (VV.out.ownB _ _ _ HS.out h).2)
  have hun : Hid (¬ own w (w.heap.size + 1)) := Lib.hid (fun h => by have := hno.out _ h; omega)
  have UP : Hid (Upd [w.heap.size + 1] w w3) := Lib.hid (U3.out.mono (by simp))
  have KO : Hid (∀ k, own w3 k → own w k) := Lib.hid (fun k h => VV.out.keepOwn _ _ _ _ _ HS.out hun.out UP.out h)
  have bl : Hid (Below B w w3) := Lib.hid (U3.out.below hB (by simp))
  have hz := U3.out.size
  have hc := walkG_ok (walk1_visitorG VV.out (vb := w.heap.size) (p := w.heap.size + 1)) (by omega) (sizes l + 1) l (.slice Av nv cv) w3 s 0 1 (by omega) (HV.out.belowW bl.out) HG0.out
    ⟨VV.out.keep _ _ _ _ HS.out hun.out UP.out, fun h => hun.out (KO.out _ h), fun h => by have := hno.out _ (KO.out _ h); omega, b1.out, b2.out.lt, hB, by omega⟩ b2.out (by omega) (by omega) (by omega)
  rw [show ((1 : Nat) : Int) = 1 from rfl] at hc
  refine hc.mono ?_; clear hc; rintro e w4 ⟨rfl, ⟨st, _⟩, bp, up, o4⟩
  have ST := Lib.hid st
  have UQ := Lib.hid up
  have O4 := Lib.hid o4
  clear st bp up o4
  go_wp2_with fail
  go_end0
  refine ⟨rfl, ST.out, ⟨UQ.out.os.trans U3.out.os, UQ.out.tape.trans U3.out.tape, UQ.out.output.trans U3.out.output, Nat.le_trans hz UQ.out.size, fun k hk hnk => ?_⟩, fun k hk => ?_⟩
  · exact (UQ.out.keep k (by omega) (fun h => h.elim (fun h => hnk (KO.out _ h)) (fun h => by omega))).trans (U3.out.keep k hk (by simp))
  · exact (O4.out k hk).imp (KO.out k) (fun h => by omega)

end Go.Proofs.YtblfklnnojhadaaDoor

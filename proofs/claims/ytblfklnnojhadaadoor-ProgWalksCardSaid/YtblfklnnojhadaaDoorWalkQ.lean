/-
  prog.Walk by a contract, for whatever is called that keeps blocks from B on.
-/
import Derived.Test.YtblfklnnojhadaaDoorWalkP
set_option linter.unusedVariables false
namespace Go.Proofs.YtblfklnnojhadaaDoor
open Go.RowKit

/-- What is asked of what Walk calls. -/
structure Visitor3 (σ : Type) (fid : FuncId) (caps : Array Value) (B : Nat) (St : World → σ → Prop) (own : World → Nat → Prop) (step : σ → Nat → Stm → Bool × σ) : Prop where
  enter : ∀ args w, (callFunc fid args).run Tryd.prog w = .ok (.enter fid args) w
  keep : ∀ w w' s p, St w s → ¬ own w p → B ≤ p → Upd [p] w w' → St w' s
  keepOwn : ∀ w w' s k p, St w s → ¬ own w p → B ≤ p → Upd [p] w w' → own w' k → own w k
  ownB : ∀ w s k, St w s → own w k → B ≤ k ∧ k < w.heap.size
  visit : ∀ w s (n : Nat) x v, St w s → StmV w B x v → B ≤ w.heap.size → n ≤ 1000000 → Calls Tryd.prog fid (#[.int .i64 n, v] ++ caps) w fun e w' =>
    e = .returned (.bool (step s n x).1) ∧ St w' (step s n x).2 ∧ UpdP (own w) w w' ∧ ∀ k, own w' k → own w k ∨ w.heap.size ≤ k

set_option maxRecDepth 100000 in
set_option maxHeartbeats 2000000 in
theorem walk1_visitor3 {σ : Type} {fid : FuncId} {caps : Array Value} {B vb p : Nat} {St : World → σ → Prop} {own : World → Nat → Prop} {step : σ → Nat → Stm → Bool × σ} (V : Visitor3 σ fid caps B St own step) (hBp : B ≤ p) :
    Visitor σ 33 #[.pointer (some ⟨vb, 0, none⟩)] B p (WalkSt fid caps B vb p St own) own (fun s n _ x => step s n x) where
  enter := fun args w => rfl
  keep := fun w w' s ⟨h1, h2, h3, h4, h5, h6, h7⟩ hu => ⟨V.keep _ _ _ _ h1 h2 hBp hu, fun h => h2 (V.keepOwn _ _ _ _ _ h1 h2 hBp hu h), fun h => h3 (V.keepOwn _ _ _ _ _ h1 h2 hBp hu h), h4.upd hu (by simpa using h7), Nat.lt_of_lt_of_le h5 hu.size, h6, h7⟩
  keepOwn := fun w w' s k ⟨h1, h2, _⟩ hu h => V.keepOwn _ _ _ _ _ h1 h2 hBp hu h
  ownB := fun w s k ⟨h1, h2, _⟩ h => ⟨(V.ownB _ _ _ h1 h).1, fun e => h2 (e ▸ h), (V.ownB _ _ _ h1 h).2⟩
  visit := by
    rintro w s n d x v ⟨h1, h2, h3, h4, h5, h6, h7⟩ hv hB hn hd
    obtain ⟨a1, a2, a3, a4, a5, a6, a7, bo, el⟩ := x
    obtain ⟨vbo, ve, rfl, hb, he⟩ := hv
    obtain ⟨Ab, nb, cb, rfl⟩ := hb.slice
    obtain ⟨Ae, ne, ce, rfl⟩ := he.slice
    obtain ⟨X, hX⟩ : ∃ X, X = Stm.mk a1 a2 a3 a4 a5 a6 a7 bo el := ⟨_, rfl⟩
    have c0 : w.cell? ⟨vb, 0, none⟩ = some (.func (.func fid) #[] caps) := h4.cell 0
    have cl : vb < w.heap.size := h4.lt
    have H1 := Lib.hid h1
    have H2 := Lib.hid h2
    have H3 := Lib.hid h3
    have H4 := Lib.hid h4
    have HB := Lib.hid hb
    have HE := Lib.hid he
    have VV := Lib.hid V
    have ent := V.enter
    have HX := Lib.hid hX
    rw [← hX]
    clear h1 h2 h3 h4 hb he V hX
    unfold stmCells
    go_enter Tryd.func33, Tryd.ntmps33
    go_wp2_with fail
    have U0 : Hid (Upd [] w (w.alloc (.cells #[.int .i64 a1, .int .i64 a2, .int .i64 a3, .int .i64 a4, .int .i64 a5, .int .i64 a6, .int .i64 a7, .slice Ab nb cb, .slice Ae ne ce] 39))) := Lib.hid ((Upd.refl [] w).alloc _)
    generalize (w.alloc (.cells #[.int .i64 a1, .int .i64 a2, .int .i64 a3, .int .i64 a4, .int .i64 a5, .int .i64 a6, .int .i64 a7, .slice Ab nb cb, .slice Ae ne ce] 39)) = w1 at *
    have UP : Hid (Upd [p] w w1) := Lib.hid (U0.out.mono (by simp))
    have hz := U0.out.size
    have KO := Lib.hid (fun k => VV.out.keepOwn _ _ _ k _ H1.out H2.out hBp UP.out)
    have KB : Hid (Below B w w1) := Lib.hid (U0.out.below hB (by simp))
    have hc := VV.out.visit w1 s n X (.agg (stmCells a1 a2 a3 a4 a5 a6 a7 (.slice Ab nb cb) (.slice Ae ne ce)).toArray) (VV.out.keep _ _ _ _ H1.out H2.out hBp UP.out) (by rw [HX.out]; exact ⟨_, _, rfl, HB.out.belowW KB.out, HE.out.belowW KB.out⟩) (by omega) hn
    obtain ⟨b, s', hst⟩ : ∃ b s', step s n X = (b, s') := ⟨_, _, rfl⟩
    rw [hst] at hc
    have HST := Lib.hid hst
    clear hst
    refine hc.mono ?_; clear hc; rintro e w2 ⟨rfl, s1, u1, o1⟩
    have S1 := Lib.hid s1
    have U1 := Lib.hid u1
    have O1 := Lib.hid o1
    clear s1 u1 o1
    go_wp2_with fail
    go_ret
    rw [HST.out]
    have hvl := H4.out.lt
    refine ⟨rfl, ⟨S1.out, fun h => ?_, fun h => ?_, (H4.out.upd U0.out (by simp)).updP U1.out (fun h => H3.out (KO.out _ h)), Nat.lt_of_lt_of_le h5 (Nat.le_trans hz U1.out.size), h6, h7⟩, ⟨U1.out.os.trans U0.out.os, U1.out.tape.trans U0.out.tape, U1.out.output.trans U0.out.output, Nat.le_trans hz U1.out.size, fun k hk hno => ?_⟩, fun k hk => ?_⟩
    · rcases O1.out _ h with h | h
      · exact H2.out (KO.out _ h)
      · omega
    · rcases O1.out _ h with h | h
      · exact H3.out (KO.out _ h)
      · omega
    · exact (U1.out.keep k (by omega) (fun h => hno (KO.out _ h))).trans (U0.out.keep k hk (by simp))
    · exact (O1.out k hk).imp (KO.out k) (fun h => by omega)

set_option maxRecDepth 100000 in
set_option maxHeartbeats 2000000 in
/-- Walk: what is called, is called for one line behind the other. -/
theorem walkQ_ok {σ : Type} {fid : FuncId} {caps : Array Value} {B : Nat} {St : World → σ → Prop} {own : World → Nat → Prop} {step : σ → Nat → Stm → Bool × σ} (V : Visitor3 σ fid caps B St own step) (l : List Stm) (v : Value) (w : World) (s : σ)
    (hv : Stms w B v l) (hs : St w s) (hB : B ≤ w.heap.size) (hl : sizes l ≤ 900000) :
    Calls Tryd.prog 15 #[v, .func (.func fid) #[] caps] w fun e w' => e = .returned (.tuple #[]) ∧ St w' (walkF (fun s n _ x => step s n x) (linesOf 1 l) s 0).2.1 ∧ UpdP (own w) w w' ∧ ∀ k, own w' k → own w k ∨ w.heap.size ≤ k := by
  have HV := Lib.hid hv
  have HS := Lib.hid hs
  have VV := Lib.hid V
  have ent := V.enter
  obtain ⟨Av, nv, cv, rfl⟩ := hv.slice
  clear hv hs V
  go_enter Tryd.func15, Tryd.ntmps15
  go_wp2_with fail
  have U3 : Hid (Upd [] w ((w.alloc (.cells #[.func (.func fid) #[] caps] 43)).alloc (.cells #[.int .i64 0, .func (.func 33) #[] #[.pointer (some ⟨w.heap.size, 0, none⟩)]] 58))) := Lib.hid (((Upd.refl [] w).alloc _).alloc _)
  have b1 : Hid (Blk ((w.alloc (.cells #[.func (.func fid) #[] caps] 43)).alloc (.cells #[.int .i64 0, .func (.func 33) #[] #[.pointer (some ⟨w.heap.size, 0, none⟩)]] 58)) w.heap.size 43 #[.func (.func fid) #[] caps]) := Lib.hid ((Blk.new w _ _).alloc _)
  have b2 : Hid (Blk ((w.alloc (.cells #[.func (.func fid) #[] caps] 43)).alloc (.cells #[.int .i64 0, .func (.func 33) #[] #[.pointer (some ⟨w.heap.size, 0, none⟩)]] 58)) (w.heap.size + 1) 58 #[.int .i64 ((0 : Nat) : Int), .func (.func 33) #[] #[.pointer (some ⟨w.heap.size, 0, none⟩)]]) := Lib.hid (Blk.newAt _ _ (by simp))
  generalize ((w.alloc (.cells #[.func (.func fid) #[] caps] 43)).alloc (.cells #[.int .i64 0, .func (.func 33) #[] #[.pointer (some ⟨w.heap.size, 0, none⟩)]] 58)) = w3 at *
  have hno : Hid (∀ k, own w k → k < w.heap.size) := Lib.hid (fun k h => (VV.out.ownB _ _ _ HS.out h).2)
  have hun : Hid (¬ own w (w.heap.size + 1)) := Lib.hid (fun h => by have := hno.out _ h; omega)
  have UP : Hid (Upd [w.heap.size + 1] w w3) := Lib.hid (U3.out.mono (by simp))
  have KO : Hid (∀ k, own w3 k → own w k) := Lib.hid (fun k h => VV.out.keepOwn _ _ _ _ _ HS.out hun.out (by omega) UP.out h)
  have bl : Hid (Below B w w3) := Lib.hid (U3.out.below hB (by simp))
  have hz := U3.out.size
  have hc := walk_ok (walk1_visitor3 VV.out (vb := w.heap.size) (p := w.heap.size + 1) (by omega)) (by omega) (sizes l + 1) l (.slice Av nv cv) w3 s 0 1 (by omega) (HV.out.belowW bl.out)
    ⟨VV.out.keep _ _ _ _ HS.out hun.out (by omega) UP.out, fun h => hun.out (KO.out _ h), fun h => by have := hno.out _ (KO.out _ h); omega, b1.out, b2.out.lt, hB, by omega⟩ b2.out (by omega) (by omega) (by omega)
  rw [show ((1 : Nat) : Int) = 1 from rfl] at hc
  refine hc.mono ?_; clear hc; rintro e w4 ⟨rfl, ⟨st, _⟩, bp, up, o4⟩
  have ST := Lib.hid st
  have UQ := Lib.hid up
  have O4 := Lib.hid o4
  clear st bp up o4
  go_wp2_with fail
  go_end0
  refine ⟨rfl, ST.out, ⟨UQ.out.os.trans U3.out.os, UQ.out.tape.trans U3.out.tape, UQ.out.output.trans U3.out.output, Nat.le_trans hz UQ.out.size, fun k hk hnk => ?_⟩, fun k hk => ?_⟩
  · exact (UQ.out.keep k (by omega) (fun h => h.elim (fun h => hnk (KO.out _ h)) (fun h => by omega))).trans (U3.out.keep k hk (by simp))
  · exact (O4.out k hk).imp (KO.out k) (fun h => by omega)

end Go.Proofs.YtblfklnnojhadaaDoor

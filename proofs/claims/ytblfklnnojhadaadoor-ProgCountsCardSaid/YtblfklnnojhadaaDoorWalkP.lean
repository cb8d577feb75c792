/-
  prog.Walk by a contract, for whatever is called; prog.Size, prog.Deep, prog.Waits.
-/
import Derived.Test.YtblfklnnojhadaaDoorWalk
import Derived.Test.YtblfklnnojhadaaDoorInvK
set_option linter.unusedVariables false
namespace Go.Proofs.YtblfklnnojhadaaDoor
open Go.RowKit

theorem UpdP.to_upd' {O : Nat → Prop} {w w1 w2 : World} (h : UpdP O w1 w2) (h0 : Upd [] w w1) (hO : ∀ x, O x → w.heap.size ≤ x) : Upd [] w w2 :=
  ⟨h.os.trans h0.os, h.tape.trans h0.tape, h.output.trans h0.output, Nat.le_trans h0.size h.size, fun k hk hn => (h.keep k (Nat.lt_of_lt_of_le hk h0.size) (fun ho => by have := hO k ho; omega)).trans (h0.keep k hk hn)⟩

/-- What is asked of what Walk calls. -/
structure Visitor2 (σ : Type) (fid : FuncId) (caps : Array Value) (B : Nat) (St : World → σ → Prop) (own : World → Nat → Prop) (step : σ → Nat → Stm → Bool × σ) : Prop where
  enter : ∀ args w, (callFunc fid args).run Tryd.prog w = .ok (.enter fid args) w
  keep : ∀ w w' s p, St w s → ¬ own w p → Upd [p] w w' → St w' s
  keepOwn : ∀ w w' s k p, St w s → ¬ own w p → Upd [p] w w' → own w' k → own w k
  ownB : ∀ w s k, St w s → own w k → B ≤ k ∧ k < w.heap.size
  visit : ∀ w s (n : Nat) x v, St w s → StmV w B x v → B ≤ w.heap.size → n ≤ 1000000 → Calls Tryd.prog fid (#[.int .i64 n, v] ++ caps) w fun e w' =>
    e = .returned (.bool (step s n x).1) ∧ St w' (step s n x).2 ∧ UpdP (own w) w w' ∧ ∀ k, own w' k → own w k ∨ w.heap.size ≤ k

theorem StmV.below {w w' : World} {B : Nat} {x : Stm} {v : Value} (h : StmV w B x v) (hb : Below B w w') : StmV w' B x v := by
  obtain ⟨k, coll, reg, ar, an, br, bn, bo, el⟩ := x
  obtain ⟨vb, ve, h1, h2, h3⟩ := h
  exact ⟨vb, ve, h1, h2.belowW hb, h3.belowW hb⟩
def WalkSt {σ : Type} (fid : FuncId) (caps : Array Value) (B vb p : Nat) (St : World → σ → Prop) (own : World → Nat → Prop) (w : World) (s : σ) : Prop :=
  St w s ∧ ¬ own w p ∧ ¬ own w vb ∧ Blk w vb 43 #[.func (.func fid) #[] caps] ∧ p < w.heap.size ∧ B ≤ vb ∧ vb ≠ p

set_option maxRecDepth 100000 in
set_option maxHeartbeats 2000000 in
theorem walk1_visitor {σ : Type} {fid : FuncId} {caps : Array Value} {B vb p : Nat} {St : World → σ → Prop} {own : World → Nat → Prop} {step : σ → Nat → Stm → Bool × σ} (V : Visitor2 σ fid caps B St own step) :
    Visitor σ 33 #[.pointer (some ⟨vb, 0, none⟩)] B p (WalkSt fid caps B vb p St own) own (fun s n _ x => step s n x) where
  enter := fun args w => rfl
  keep := fun w w' s ⟨h1, h2, h3, h4, h5, h6, h7⟩ hu => ⟨V.keep _ _ _ _ h1 h2 hu, fun h => h2 (V.keepOwn _ _ _ _ _ h1 h2 hu h), fun h => h3 (V.keepOwn _ _ _ _ _ h1 h2 hu h), h4.upd hu (by simpa using h7), Nat.lt_of_lt_of_le h5 hu.size, h6, h7⟩
  keepOwn := fun w w' s k ⟨h1, h2, _⟩ hu h => V.keepOwn _ _ _ _ _ h1 h2 hu h
  ownB := fun w s k ⟨h1, h2, _⟩ h => ⟨(V.ownB _ _ _ h1 h).1, fun e => h2 (e ▸ h), (V.ownB _ _ _ h1 h).2⟩
  visit := by
    rintro w s n d x v ⟨h1, h2, h3, h4, h5, h6, h7⟩ hv hB hn hd
    obtain ⟨a1, a2, a3, a4, a5, a6, a7, bo, el⟩ := x
    obtain ⟨vbo, ve, rfl, hb, he⟩ := hv
    obtain ⟨Ab, nb, cb, rfl⟩ := hb.slice
    obtain ⟨Ae, ne, ce, rfl⟩ := he.slice
    obtain ⟨X, hX⟩ : ∃ X, X = Stm.mk a1 a2 a3 a4 a5 a6 a7 bo el := ⟨_, rfl⟩
    have c0 : w.cell? ⟨vb, 0, none⟩ = some (.func (.func fid) #[] caps) := h4.cell 0
    have cl : vb < w.heap.size := h4.lt
    have H1 := Lib.hid h1
    have H2 := Lib.hid h2
    have H3 := Lib.hid h3
    have H4 := Lib.hid h4
    have HB := Lib.hid hb
    have HE := Lib.hid he
    have VV := Lib.hid V
    have ent := V.enter
    have HX := Lib.hid hX
    rw [← hX]
    clear h1 h2 h3 h4 hb he V hX
    unfold stmCells
    go_enter Tryd.func33, Tryd.ntmps33
    go_wp2_with fail
    have U0 : Hid (Upd [] w (w.alloc (.cells #[.int .i64 a1, .int .i64 a2, .int .i64 a3, .int .i64 a4, .int .i64 a5, .int .i64 a6, .int .i64 a7, .slice Ab nb cb, .slice Ae ne ce] 39))) := Lib.hid ((Upd.refl [] w).alloc _)
    generalize (w.alloc (.cells #[.int .i64 a1, .int .i64 a2, .int .i64 a3, .int .i64 a4, .int .i64 a5, .int .i64 a6, .int .i64 a7, .slice Ab nb cb, .slice Ae ne ce] 39)) = w1 at *
    have UP : Hid (Upd [p] w w1) := Lib.hid (U0.out.mono (by simp))
    have hz := U0.out.size
    have KO := Lib.hid (fun k => VV.out.keepOwn _ _ _ k _ H1.out H2.out UP.out)
    have KB : Hid (Below B w w1) := Lib.hid (U0.out.below hB (by simp))
    have hc := VV.out.visit w1 s n X (.agg (stmCells a1 a2 a3 a4 a5 a6 a7 (.slice Ab nb cb) (.slice Ae ne ce)).toArray) (VV.out.keep _ _ _ _ H1.out H2.out UP.out) (by rw [HX.out]; exact ⟨_, _, rfl, HB.out.belowW KB.out, HE.out.belowW KB.out⟩) (by omega) hn
    obtain ⟨b, s', hst⟩ : ∃ b s', step s n X = (b, s') := ⟨_, _, rfl⟩
    rw [hst] at hc
    have HST := Lib.hid hst
    clear hst
    refine hc.mono ?_; clear hc; rintro e w2 ⟨rfl, s1, u1, o1⟩
    have S1 := Lib.hid s1
    have U1 := Lib.hid u1
    have O1 := Lib.hid o1
    clear s1 u1 o1
    go_wp2_with fail
    go_ret
    rw [HST.out]
    have hvl := H4.out.lt
    refine ⟨rfl, ⟨S1.out, fun h => ?_, fun h => ?_, (H4.out.upd U0.out (by simp)).updP U1.out (fun h => H3.out (KO.out _ h)), Nat.lt_of_lt_of_le h5 (Nat.le_trans hz U1.out.size), h6, h7⟩, ⟨U1.out.os.trans U0.out.os, U1.out.tape.trans U0.out.tape, U1.out.output.trans U0.out.output, Nat.le_trans hz U1.out.size, fun k hk hno => ?_⟩, fun k hk => ?_⟩
    · rcases O1.out _ h with h | h
      · exact H2.out (KO.out _ h)
      · omega
    · rcases O1.out _ h with h | h
      · exact H3.out (KO.out _ h)
      · omega
    · exact (U1.out.keep k (by omega) (fun h => hno (KO.out _ h))).trans (U0.out.keep k hk (by simp))
    · exact (O1.out k hk).imp (KO.out k) (fun h => by omega)

set_option maxRecDepth 100000 in
set_option maxHeartbeats 2000000 in
/-- Walk: what is called, is called for one line behind the other. -/
theorem walkP_ok {σ : Type} {fid : FuncId} {caps : Array Value} {B : Nat} {St : World → σ → Prop} {own : World → Nat → Prop} {step : σ → Nat → Stm → Bool × σ} (V : Visitor2 σ fid caps B St own step) (l : List Stm) (v : Value) (w : World) (s : σ)
    (hv : Stms w B v l) (hs : St w s) (hB : B ≤ w.heap.size) (hl : sizes l ≤ 900000) :
    Calls Tryd.prog 15 #[v, .func (.func fid) #[] caps] w fun e w' => e = .returned (.tuple #[]) ∧ St w' (walkF (fun s n _ x => step s n x) (linesOf 1 l) s 0).2.1 ∧ UpdP (own w) w w' ∧ ∀ k, own w' k → own w k ∨ w.heap.size ≤ k := by
  have HV := Lib.hid hv
  have HS := Lib.hid hs
  have VV := Lib.hid V
  have ent := V.enter
  obtain ⟨Av, nv, cv, rfl⟩ := hv.slice
  clear hv hs V
  go_enter Tryd.func15, Tryd.ntmps15
  go_wp2_with fail
  have U3 : Hid (Upd [] w ((w.alloc (.cells #[.func (.func fid) #[] caps] 43)).alloc (.cells #[.int .i64 0, .func (.func 33) #[] #[.pointer (some ⟨w.heap.size, 0, none⟩)]] 58))) := Lib.hid (((Upd.refl [] w).alloc _).alloc _)
  have b1 : Hid (Blk ((w.alloc (.cells #[.func (.func fid) #[] caps] 43)).alloc (.cells #[.int .i64 0, .func (.func 33) #[] #[.pointer (some ⟨w.heap.size, 0, none⟩)]] 58)) w.heap.size 43 #[.func (.func fid) #[] caps]) := Lib.hid ((Blk.new w _ _).alloc _)
  have b2 : Hid (Blk ((w.alloc (.cells #[.func (.func fid) #[] caps] 43)).alloc (.cells #[.int .i64 0, .func (.func 33) #[] #[.pointer (some ⟨w.heap.size, 0, none⟩)]] 58)) (w.heap.size + 1) 58 #[.int .i64 ((0 : Nat) : Int), .func (.func 33) #[] #[.pointer (some ⟨w.heap.size, 0, none⟩)]]) := Lib.hid (Blk.newAt _ _ (by simp))
  generalize ((w.alloc (.cells #[.func (.func fid) #[] caps] 43)).alloc (.cells #[.int .i64 0, .func (.func 33) #[] #[.pointer (some ⟨w.heap.size, 0, none⟩)]] 58)) = w3 at *
  have hno : Hid (∀ k, own w k → k < w.heap.size) := Lib.hid (fun k h => (VV.out.ownB _ _ _ HS.out h).2)
  have hun : Hid (¬ own w (w.heap.size + 1)) := Lib.hid (fun h => by have := hno.out _ h; omega)
  have UP : Hid (Upd [w.heap.size + 1] w w3) := Lib.hid (U3.out.mono (by simp))
  have KO : Hid (∀ k, own w3 k → own w k) := Lib.hid (fun k h => VV.out.keepOwn _ _ _ _ _ HS.out hun.out UP.out h)
  have bl : Hid (Below B w w3) := Lib.hid (U3.out.below hB (by simp))
  have hz := U3.out.size
  have hc := walk_ok (walk1_visitor VV.out (vb := w.heap.size) (p := w.heap.size + 1)) (by omega) (sizes l + 1) l (.slice Av nv cv) w3 s 0 1 (by omega) (HV.out.belowW bl.out)
    ⟨VV.out.keep _ _ _ _ HS.out hun.out UP.out, fun h => hun.out (KO.out _ h), fun h => by have := hno.out _ (KO.out _ h); omega, b1.out, b2.out.lt, hB, by omega⟩ b2.out (by omega) (by omega) (by omega)
  rw [show ((1 : Nat) : Int) = 1 from rfl] at hc
  refine hc.mono ?_; clear hc; rintro e w4 ⟨rfl, ⟨st, _⟩, bp, up, o4⟩
  have ST := Lib.hid st
  have UQ := Lib.hid up
  have O4 := Lib.hid o4
  clear st bp up o4
  go_wp2_with fail
  go_end0
  refine ⟨rfl, ST.out, ⟨UQ.out.os.trans U3.out.os, UQ.out.tape.trans U3.out.tape, UQ.out.output.trans U3.out.output, Nat.le_trans hz UQ.out.size, fun k hk hnk => ?_⟩, fun k hk => ?_⟩
  · exact (UQ.out.keep k (by omega) (fun h => h.elim (fun h => hnk (KO.out _ h)) (fun h => by omega))).trans (U3.out.keep k hk (by simp))
  · exact (O4.out k hk).imp (KO.out k) (fun h => by omega)

/-- A box of one cell that holds what is kept. -/
def BoxSt {σ : Type} (B b : Nat) (T : TypeId) (enc : σ → Value) (w : World) (s : σ) : Prop := Blk w b T #[enc s] ∧ B ≤ b
theorem BoxSt.keep {σ : Type} {B b : Nat} {T : TypeId} {enc : σ → Value} {w w' : World} {s : σ} {p : Nat} (h : BoxSt B b T enc w s) (hp : ¬ p = b) (hu : Upd [p] w w') : BoxSt B b T enc w' s := ⟨h.1.upd hu (by simpa using fun e => hp e.symm), h.2⟩
theorem BoxSt.set {σ : Type} {B b : Nat} {T : TypeId} {enc : σ → Value} {w : World} {s s' : σ} {o : Obj} (h : BoxSt B b T enc w s) : BoxSt B b T enc ((w.setCell ⟨b, 0, none⟩ (enc s')).alloc o) s' ∧ UpdP (fun k => k = b) w ((w.setCell ⟨b, 0, none⟩ (enc s')).alloc o) :=
  ⟨⟨(h.1.set_eq rfl).alloc _, h.2⟩, .of_upd (S := [b]) (((Upd.refl [b] w).setCell (.inl (by simp)) _).alloc _) (by simp)⟩

def encI (i : Int) : Value := .int .i64 i
def encB (b : Bool) : Value := .bool b
theorem size_visitor (B b : Nat) : Visitor2 Int 34 #[.pointer (some ⟨b, 0, none⟩)] B (BoxSt B b 3 encI) (fun _ k => k = b) (fun s n x => (true, (n : Int))) where
  enter := fun args w => rfl
  keep := fun w w' s p h hp hu => h.keep hp hu
  keepOwn := fun _ _ _ _ _ _ _ _ h => h
  ownB := fun w s k h e => by subst e; exact ⟨h.2, h.1.lt⟩
  visit := by
    rintro w s n x v hs hv hB hn
    obtain ⟨a1, a2, a3, a4, a5, a6, a7, bo, el⟩ := x
    obtain ⟨vbo, ve, rfl, hb, he⟩ := hv
    have c0 : w.cell? ⟨b, 0, none⟩ = some (.int .i64 s) := hs.1.cell 0
    have c1 : w.frozen? ⟨b, 0, none⟩ = false := hs.1.frozen 0
    have cl : b < w.heap.size := hs.1.lt
    have cl2 : b < w.heap.size + 1 := by omega
    have HS := Lib.hid hs
    clear hs hb he
    unfold stmCells
    go_enter Tryd.func34, Tryd.ntmps34
    go_wp2_with fail
    go_ret
    exact ⟨rfl, HS.out.set.1, HS.out.set.2, fun k h => .inl h⟩

theorem deep_visitor (B b p : Nat) (hp : b ≠ p) : Visitor Int 35 #[.pointer (some ⟨b, 0, none⟩)] B p (BoxSt B b 3 encI) (fun _ k => k = b) (fun s _ d _ => (true, max s (d : Int))) where
  enter := fun args w => rfl
  keep := fun w w' s h hu => h.keep (fun e => hp e.symm) hu
  keepOwn := fun _ _ _ _ _ _ h => h
  ownB := fun w s k h e => by subst e; exact ⟨h.2, hp, h.1.lt⟩
  visit := by
    rintro w s n d x v hs hv hB hn hd
    obtain ⟨a1, a2, a3, a4, a5, a6, a7, bo, el⟩ := x
    obtain ⟨vbo, ve, rfl, hb, he⟩ := hv
    have c0 : w.cell? ⟨b, 0, none⟩ = some (.int .i64 s) := hs.1.cell 0
    have c1 : w.frozen? ⟨b, 0, none⟩ = false := hs.1.frozen 0
    have cl : b < w.heap.size := hs.1.lt
    have cl2 : b < w.heap.size + 1 := by omega
    have HS := Lib.hid hs
    clear hs hb he
    unfold stmCells
    rcases (show s < (d : Int) ∨ (d : Int) ≤ s by omega) with h | h
    · have M : Hid (max s (d : Int) = d) := Lib.hid (by omega)
      go_enter Tryd.func35, Tryd.ntmps35
      go_wp2_with fail
      go_ret
      rw [M.out]
      exact ⟨rfl, HS.out.set.1, HS.out.set.2, fun k h => .inl h⟩
    · have M : Hid (max s (d : Int) = s) := Lib.hid (by omega)
      go_enter Tryd.func35, Tryd.ntmps35
      go_wp2_with fail
      go_ret
      rw [M.out]
      exact ⟨rfl, HS.out.set.1, HS.out.set.2, fun k h => .inl h⟩
theorem waits_visitor (B b : Nat) : Visitor2 Bool 40 #[.pointer (some ⟨b, 0, none⟩)] B (BoxSt B b 4 encB) (fun _ k => k = b) (fun s n x => match x with | .mk k _ _ _ _ _ _ _ _ => (!(k == 15), k == 15)) where
  enter := fun args w => rfl
  keep := fun w w' s p h hp hu => h.keep hp hu
  keepOwn := fun _ _ _ _ _ _ _ _ h => h
  ownB := fun w s k h e => by subst e; exact ⟨h.2, h.1.lt⟩
  visit := by
    rintro w s n x v hs hv hB hn
    obtain ⟨a1, a2, a3, a4, a5, a6, a7, bo, el⟩ := x
    obtain ⟨vbo, ve, rfl, hb, he⟩ := hv
    have c0 : w.cell? ⟨b, 0, none⟩ = some (.bool s) := hs.1.cell 0
    have c1 : w.frozen? ⟨b, 0, none⟩ = false := hs.1.frozen 0
    have cl : b < w.heap.size := hs.1.lt
    have cl2 : b < w.heap.size + 1 := by omega
    have HS := Lib.hid hs
    clear hs hb he
    unfold stmCells
    go_enter Tryd.func40, Tryd.ntmps40
    go_wp2_with fail
    go_ret
    exact ⟨rfl, HS.out.set.1, HS.out.set.2, fun k h => .inl h⟩

theorem upd_of_box {w w1 w2 : World} {b : Nat} (h0 : Upd [] w w1) (h : UpdP (fun k => k = b) w1 w2) (hb : w.heap.size ≤ b) : Upd [] w w2 := h.to_upd' h0 (fun x e => by subst e; exact hb)
theorem Stms.wn {w : World} {B : Nat} {v : Value} {l : List Stm} (h : Stms w B v l) (H : Nat) (hH : B ≤ H) : Stms w H v l := h.more hH

/-- How many statements there are. -/
def sizeR (l : List Stm) : Int := (walkF (σ := Int) (fun s n _ x => (true, (n : Int))) (linesOf 1 l) 0 0).2.1
def deepR (l : List Stm) : Int := (walkF (σ := Int) (fun s _ d _ => (true, max s (d : Int))) (linesOf 1 l) 0 0).2.1
def waitsR (l : List Stm) : Bool := (walkF (σ := Bool) (fun s n _ x => match x with | .mk k _ _ _ _ _ _ _ _ => (!(k == 15), k == 15)) (linesOf 1 l) false 0).2.1
set_option maxRecDepth 100000 in
set_option maxHeartbeats 1000000 in
theorem size_ok (l : List Stm) (v : Value) (w : World) (hv : Stms w w.heap.size v l) (hl : sizes l ≤ 900000) :
    Calls Tryd.prog 18 #[v] w fun e w' => e = .returned (.int .i64 (sizeR l)) ∧ Upd [] w w' := by
  have HV := Lib.hid hv
  clear hv
  go_enter Tryd.func18, Tryd.ntmps18
  go_wp2_with fail
  have U1 : Hid (Upd [] w (w.alloc (.cells #[.int .i64 0] 3))) := Lib.hid ((Upd.refl [] w).alloc _)
  have b1 : Hid (Blk (w.alloc (.cells #[.int .i64 0] 3)) w.heap.size 3 #[.int .i64 0]) := Lib.hid (Blk.new w _ _)
  generalize (w.alloc (.cells #[.int .i64 0] 3)) = w1 at *
  refine (walkP_ok (size_visitor w.heap.size w.heap.size) l v w1 0 (HV.out.belowW (U1.out.below (Nat.le_refl _) (by simp))) ⟨b1.out, Nat.le_refl _⟩ U1.out.size hl).mono ?_; rintro e w2 ⟨rfl, st, up, _⟩
  have UQ := Lib.hid (upd_of_box U1.out up (Nat.le_refl _))
  have e0 : w2.cell? ⟨w.heap.size, 0, none⟩ = some (.int .i64 (sizeR l)) := st.1.cell 0
  clear st up
  go_wp2_with fail
  go_ret
  exact ⟨rfl, UQ.out⟩
set_option maxRecDepth 100000 in
set_option maxHeartbeats 1000000 in
theorem waits_ok (l : List Stm) (v : Value) (w : World) (hv : Stms w w.heap.size v l) (hl : sizes l ≤ 900000) :
    Calls Tryd.prog 24 #[v] w fun e w' => e = .returned (.bool (waitsR l)) ∧ Upd [] w w' := by
  have HV := Lib.hid hv
  clear hv
  go_enter Tryd.func24, Tryd.ntmps24
  go_wp2_with fail
  have U1 : Hid (Upd [] w (w.alloc (.cells #[.bool false] 4))) := Lib.hid ((Upd.refl [] w).alloc _)
  have b1 : Hid (Blk (w.alloc (.cells #[.bool false] 4)) w.heap.size 4 #[.bool false]) := Lib.hid (Blk.new w _ _)
  generalize (w.alloc (.cells #[.bool false] 4)) = w1 at *
  refine (walkP_ok (waits_visitor w.heap.size w.heap.size) l v w1 false (HV.out.belowW (U1.out.below (Nat.le_refl _) (by simp))) ⟨b1.out, Nat.le_refl _⟩ U1.out.size hl).mono ?_; rintro e w2 ⟨rfl, st, up, _⟩
  have UQ := Lib.hid (upd_of_box U1.out up (Nat.le_refl _))
  have e0 : w2.cell? ⟨w.heap.size, 0, none⟩ = some (.bool (waitsR l)) := st.1.cell 0
  clear st up
  go_wp2_with fail
  go_ret
  exact ⟨rfl, UQ.out⟩
set_option maxRecDepth 100000 in
set_option maxHeartbeats 1000000 in
theorem deep_ok (l : List Stm) (v : Value) (w : World) (hv : Stms w w.heap.size v l) (hl : sizes l ≤ 900000) :
    Calls Tryd.prog 19 #[v] w fun e w' => e = .returned (.int .i64 (deepR l)) ∧ Upd [] w w' := by
  have HV := Lib.hid hv
  obtain ⟨Av, nv, cv, rfl⟩ := hv.slice
  clear hv
  go_enter Tryd.func19, Tryd.ntmps19
  go_wp2_with fail
  have U1 : Hid (Upd [] w ((w.alloc (.cells #[.int .i64 0] 3)).alloc (.cells #[.int .i64 0, .func (.func 35) #[] #[.pointer (some ⟨w.heap.size, 0, none⟩)]] 58))) := Lib.hid (((Upd.refl [] w).alloc _).alloc _)
  have b1 : Hid (Blk ((w.alloc (.cells #[.int .i64 0] 3)).alloc (.cells #[.int .i64 0, .func (.func 35) #[] #[.pointer (some ⟨w.heap.size, 0, none⟩)]] 58)) w.heap.size 3 #[.int .i64 0]) := Lib.hid ((Blk.new w _ _).alloc _)
  have b2 : Hid (Blk ((w.alloc (.cells #[.int .i64 0] 3)).alloc (.cells #[.int .i64 0, .func (.func 35) #[] #[.pointer (some ⟨w.heap.size, 0, none⟩)]] 58)) (w.heap.size + 1) 58 #[.int .i64 ((0 : Nat) : Int), .func (.func 35) #[] #[.pointer (some ⟨w.heap.size, 0, none⟩)]]) := Lib.hid (Blk.newAt _ _ (by simp))
  generalize ((w.alloc (.cells #[.int .i64 0] 3)).alloc (.cells #[.int .i64 0, .func (.func 35) #[] #[.pointer (some ⟨w.heap.size, 0, none⟩)]] 58)) = w1 at *
  have hc := walk_ok (deep_visitor w.heap.size w.heap.size (w.heap.size + 1) (by omega)) (by omega) (sizes l + 1) l (.slice Av nv cv) w1 0 0 1 (by omega) (HV.out.belowW (U1.out.below (Nat.le_refl _) (by simp))) ⟨b1.out, Nat.le_refl _⟩ b2.out U1.out.size (by omega) (by omega)
  rw [show ((1 : Nat) : Int) = 1 from rfl] at hc
  refine hc.mono ?_; clear hc; rintro e w2 ⟨rfl, st, _, up, _⟩
  have UQ := Lib.hid (up.to_upd' U1.out (fun x h => by rcases h with rfl | rfl <;> omega))
  have e0 : w2.cell? ⟨w.heap.size, 0, none⟩ = some (.int .i64 (deepR l)) := st.1.cell 0
  clear st up
  go_wp2_with fail
  go_ret
  exact ⟨rfl, UQ.out⟩
end Go.Proofs.YtblfklnnojhadaaDoor

/-
  trace.tracer: note.
  concordref28: writer, next.
  concordref28: Wrong.
  trace.newTracer.
-/
import Derived.Test.YteddiknlcdbhjaaGreatTsB5
import Derived.Test.YteddiknlcdbhjaaGreatTsB8
import Derived.BigQuiet
import Derived.Deep.QuietTactic
import Derived.Deep.Cut
import Derived.Deep.CutRange
import Derived.Test.YteddiknlcdbhjaaGreatTsB4
import Derived.Test.YteddiknlcdbhjaaGreatTsB2
import Derived.Deep.RegionHeld3
import Derived.WideMake
set_option linter.unusedVariables false
namespace Go.Proofs.YteddiknlcdbhjaaGreat.Vk
open Go Go.RowKit TrP
attribute [local go_sem] litStep_value

/-- What is noted of events. -/
def cntOf (l : List Ev) : Int → Option Int := fun t => if t ∈ l.map (·.txn) then some 0 else none
def cellIn (l : List Ev) (c : Int) : Prop := c ∈ l.map (·.cell)
def NotedSt (w : World) (ρ : Rho) (B tb : Nat) (b : TB) (fv sv : Value) (l : List Ev) : Prop := ∃ n, n ≤ l.length ∧ TrSt w ρ B tb b fv sv ⟨cntOf l, n, cellIn l, wroteOf l, readsOf l, [], fun _ => []⟩
def NotePost (ρ : Rho) (B tb : Nat) (b : TB) (fv sv : Value) (l : List Ev) (x : Ev) (w : World) (e : Ending) (w' : World) : Prop :=
  e = .returned (.int .i64 (noteE l x)) ∧ ∃ ρ', Tw ρ ρ' w w' ∧ (∀ y, ρ' y ≠ .other → B ≤ y) ∧ (noteE l x = 0 → NotedSt w' ρ' B tb b fv sv (l ++ [x])) ∧
    (noteE l x ≠ 0 → Blk w' tb 65 #[.map (some b.bt), .map (some b.bw), .map (some b.br), .map (some b.be), .map (some b.bl), fv, sv] ∧ ρ' tb = .tr)
section
variable {P : Program} {w : World} {q : IntKind} {b c : Nat} {L : List IEnt} {k : Int}
theorem run_mapEntry_new {mt kt et : TypeId} {z : Value} (hm : P.underlying mt = some (.map kt et)) (hk : P.underlying kt = some (.int q)) (hz : ∀ w, (zeroValue et).run P w = .ok z w) (h : IRaw w q b L c) (hno : ∀ p ∈ L, p.1 ≠ k) :
    ∃ w', (Instr.mapEntry mt (.map (some b)) (.int q k)).run P w = .ok (.tuple #[z, goInt c]) w' ∧ IRaw w' q b (L ++ [(k, z, c)]) (c + 1) ∧ Upd [b] w w' := by
  unfold Instr.mapEntry
  simp only [Sem.run_bind, run_underlying hm, Result.andThen, run_getObj_blk h.blk, MapKept.run_checkKey hk (show MapKept.IsKey (.int q) (.int q k) by simp [MapKept.IsKey])]
  have e : (Instr.findKey kt (.int q k) (L.map (ent q)).toArray.toList).run P w = _ := run_findKey_int hk k L w
  rw [e]
  simp only
  have hi : L.findIdx? (fun p => p.1 == k) = none := by
    rw [List.findIdx?_eq_none_iff]
    intro p hp
    simpa using hno p hp
  rw [hi]
  refine ⟨_, by simp only [Option.map_none, Sem.run_bind, hz, Result.andThen, MapKept.run_setObj_map _ h.blk, Sem.run_pure]; rfl, ?_, upd_setBlk _ h.lt'⟩
  have := h.push hno z
  rw [List.map_append] at this
  rw [List.push_toArray]
  exact this
theorem _root_.Go.Proofs.YteddiknlcdbhjaaGreat.IRaw.upd {S : List Nat} {w' : World} (h : IRaw w q b L c) (hu : Upd S w w') (hb : b ∉ S) : IRaw w' q b L c := ⟨(hu.keep b h.lt' hb).trans h.blk, h.keys, h.stamps, h.lt⟩
end
def mapBlocks : Value → List Nat
  | .map (some b) => [b]
  | _ => []
/-- A map that was made. -/
def mapNew (H : Nat) : Spec := ⟨mapBlocks, fun v w => ∃ m, v = .map (some m) ∧ H ≤ m ∧ IMap w .i64 m (fun _ => none) 0, fun v => ∃ m, v = .map (some m)⟩
theorem lasts_mapNew (H : Nat) (S : List Nat) (w0 : World) : Lasts S w0 (mapNew H) := ⟨fun v w w' T _ h hu hT _ => by
  obtain ⟨m, rfl, hH, hm⟩ := h
  exact ⟨m, rfl, hH, hm.upd hu (fun hb => hT m hb (by simp [mapNew, mapBlocks]))⟩, ⟨.map (some 0), 0, rfl⟩, fun v w ⟨m, e, _⟩ => ⟨m, e⟩⟩
/-- What holds of two maps while an entry is made in each. -/
def KMk (bw br : Nat) (L1 L2 : List IEnt) (c1 c2 : Nat) (k : Int) (i1 i2 : Nat) (u : Nat → Value) : Nat → World → Prop
  | 0, w => IRaw w .u64 bw L1 c1 ∧ IRaw w .u64 br L2 c2
  | 1, w => IRaw w .u64 bw (L1 ++ [(k, .map none, c1)]) (c1 + 1) ∧ IRaw w .u64 br L2 c2
  | 2, w => IMap w .u64 bw (putI (findI L1) k (u i1)) (L1.length + 1) ∧ IRaw w .u64 br L2 c2
  | 3, w => IMap w .u64 bw (putI (findI L1) k (u i1)) (L1.length + 1) ∧ IRaw w .u64 br (L2 ++ [(k, .map none, c2)]) (c2 + 1)
  | _ + 4, w => IMap w .u64 bw (putI (findI L1) k (u i1)) (L1.length + 1) ∧ IMap w .u64 br (putI (findI L2) k (u i2)) (L2.length + 1)
theorem kmk_lasts {bw br : Nat} {L1 L2 : List IEnt} {c1 c2 : Nat} {k : Int} {i1 i2 : Nat} {u : Nat → Value} {T : List Nat} {w w' : World} (hu : Upd T w w') (h1 : bw ∉ T) (h2 : br ∉ T) : ∀ s, KMk bw br L1 L2 c1 c2 k i1 i2 u s w → KMk bw br L1 L2 c1 c2 k i1 i2 u s w'
  | 0, h => ⟨h.1.upd hu h1, h.2.upd hu h2⟩
  | 1, h => ⟨h.1.upd hu h1, h.2.upd hu h2⟩
  | 2, h => ⟨h.1.upd hu h1, h.2.upd hu h2⟩
  | 3, h => ⟨h.1.upd hu h1, h.2.upd hu h2⟩
  | _ + 4, h => ⟨h.1.upd hu h1, h.2.upd hu h2⟩
theorem findI_snoc {L : List IEnt} {k : Int} {v : Value} {c : Nat} (hno : ∀ p ∈ L, p.1 ≠ k) (u : Value) (x : Int) : (if x = k then some u else findI (L ++ [(k, v, c)]) x) = putI (findI L) k u x := by
  unfold putI
  by_cases e : x = k
  · rw [if_pos e, if_pos e]
  · rw [if_neg e, if_neg e, findI_append]
    have : findI [(k, v, c)] x = none := findI_none (by simp; exact fun h => e h.symm)
    rw [this]
    simp
theorem not_found {L : List IEnt} {k : Int} (h : findI L k = none) : ∀ p ∈ L, p.1 ≠ k := by
  rw [findI_idx, Option.map_eq_none_iff] at h
  exact find_none h
theorem no_reads {l : List Ev} {c : Int} (h : ¬ cellIn l c) (k : Int) : wroteOf l c k = none ∧ readsOf l c k = [] := by
  refine ⟨wroteOf_none.2 (fun x hx _ hc => absurd (List.mem_map.2 ⟨x, hx, hc⟩) h), ?_⟩
  cases e : readsOf l c k with
  | nil => rfl
  | cons t r =>
    have : t ∈ readsOf l c k := by rw [e]; simp
    obtain ⟨x, hx, _, hc, _⟩ := (readsOf_iff ..).1 this
    exact absurd (List.mem_map.2 ⟨x, hx, hc⟩) h
theorem cell_new {w W : World} {ρ : Rho} {B tb : Nat} {b : TB} {fv sv : Value} {cn n1 n2 : Nat} {l : List Ev} {xc : Int} {m1 m2 : Nat} {fw fr : Int → Option Value} (h : TrSt w ρ B tb b fv sv ⟨cntOf l, cn, cellIn l, wroteOf l, readsOf l, [], fun _ => []⟩) (hc : ¬ cellIn l xc)
    (hu : Upd [b.bw, b.br] w W) (rw0 : ρ b.bw = .wrote) (dw : ∀ c, fw c = none ↔ ¬ cellIn l c) (ew : ∀ c v, fw c = some v → ∃ b' m, v = .map (some b') ∧ ρ b' = .wroteC c ∧ IMap w .i64 b' (fun k => (wroteOf l c k).map (.int .i64)) m)
    (rr0 : ρ b.br = .read) (dr : ∀ c, fr c = none ↔ ¬ cellIn l c) (er : ∀ c v, fr c = some v → ∃ b', v = .map (some b') ∧ ρ b' = .readC c ∧ RowsM w ρ B 3 b' (.row c) (readsOf l c))
    (h1 : IMap W .u64 b.bw (putI fw xc (.map (some m1))) n1) (h2 : IMap W .u64 b.br (putI fr xc (.map (some m2))) n2) (i1 : IMap W .i64 m1 (fun _ => none) 0) (i2 : IMap W .i64 m2 (fun _ => none) 0) (hm1 : w.heap.size ≤ m1) (hm2 : w.heap.size ≤ m2) (hne : m1 ≠ m2) :
    Tw ρ (setR (setR ρ m1 (.wroteC xc)) m2 (.readC xc)) w W ∧ TrSt W (setR (setR ρ m1 (.wroteC xc)) m2 (.readC xc)) B tb b fv sv ⟨cntOf l, cn, fun c => cellIn l c ∨ c = xc, wroteOf l, readsOf l, [], fun _ => []⟩ := by
  have ha : Agr w ρ (setR (setR ρ m1 (.wroteC xc)) m2 (.readC xc)) := fun x hx => by
    unfold setR
    rw [if_neg (by omega), if_neg (by omega)]
  have hO : UpdP (fun x => x = b.bw ∨ x = b.br) w W := UpdP.of_upd hu (fun x hx => by simp at hx; exact .inl hx)
  have hB : B ≤ w.heap.size := Nat.le_trans (h.hi tb (by rw [h.rt]; simp)) (Nat.le_of_lt h.tr.lt)
  have r1 : setR (setR ρ m1 (.wroteC xc)) m2 (.readC xc) m1 = .wroteC xc := by unfold setR; rw [if_neg hne, if_pos rfl]
  have r2 : setR (setR ρ m1 (.wroteC xc)) m2 (.readC xc) m2 = .readC xc := by unfold setR; rw [if_pos rfl]
  refine ⟨⟨hO.mono (fun x hx => .inl (by rcases hx with rfl | rfl; (· rw [rw0]; simp); (· rw [rr0]; simp))), ha⟩, ?_⟩
  constructor
  · exact h.tr.updP hO (fun e => by rcases e with e | e; (· have := h.rt; rw [e, rw0] at this; cases this); (· have := h.rt; rw [e, rr0] at this; cases this))
  · exact (ha tb h.tr.lt).trans h.rt
  · exact h.tx.fr hO ha (fun x hx => by rcases hx with rfl | rfl; (· rw [rw0]; simp); (· rw [rr0]; simp))
  · refine ⟨(ha _ h.wr.2.choose_spec.choose_spec.1.lt).trans rw0, _, _, h1, fun c => ?_, fun c v hv => ?_⟩
    · show putI fw xc _ c = none ↔ ¬ (cellIn l c ∨ c = xc)
      unfold putI
      by_cases e : c = xc
      · simp [e]
      · rw [if_neg e, dw c]; simp [e]
    · unfold putI at hv
      by_cases e : c = xc
      · rw [if_pos e] at hv
        cases hv
        refine ⟨m1, 0, rfl, by rw [r1, e], i1.congr fun k => ?_⟩
        show none = (wroteOf l c k).map _
        rw [e, (no_reads hc k).1]; rfl
      · rw [if_neg e] at hv
        obtain ⟨b', m, rfl, g1, g2⟩ := ew c v hv
        refine ⟨b', m, rfl, (ha b' g2.lt).trans g1, g2.upd hu ?_⟩
        intro hm
        simp at hm
        rcases hm with rfl | rfl
        · rw [rw0] at g1; cases g1
        · rw [rr0] at g1; cases g1
  · refine ⟨(ha _ h.rd.2.choose_spec.choose_spec.1.lt).trans rr0, _, _, h2, fun c => ?_, fun c v hv => ?_⟩
    · show putI fr xc _ c = none ↔ ¬ (cellIn l c ∨ c = xc)
      unfold putI
      by_cases e : c = xc
      · simp [e]
      · rw [if_neg e, dr c]; simp [e]
    · unfold putI at hv
      by_cases e : c = xc
      · rw [if_pos e] at hv
        cases hv
        refine ⟨m2, rfl, by rw [r2, e], _, _, i2, fun k => .inl ⟨rfl, ?_⟩⟩
        show readsOf l c k = []
        rw [e]; exact (no_reads hc k).2
      · rw [if_neg e] at hv
        obtain ⟨b', rfl, g1, g2⟩ := er c v hv
        refine ⟨b', rfl, (ha b' g2.lt).trans g1, g2.fr hO ha ?_ (fun x k hx => ?_)⟩
        · rintro (rfl | rfl)
          · rw [rw0] at g1; cases g1
          · rw [rr0] at g1; cases g1
        · rcases hx with rfl | rfl
          · rw [rw0]; simp
          · rw [rr0]; simp
  · exact h.ed.fr hO ha (fun x hx => by rcases hx with rfl | rfl; (· rw [rw0]; simp); (· rw [rr0]; simp))
  · exact h.ld.fr hO ha (fun x hx => by rcases hx with rfl | rfl; (· rw [rw0]; simp); (· rw [rr0]; simp))
  · intro x hx
    unfold setR at hx
    by_cases e2 : x = m2
    · omega
    · rw [if_neg e2] at hx
      by_cases e1 : x = m1
      · omega
      · rw [if_neg e1] at hx
        exact h.hi x hx
theorem cnt_zero (l : List Ev) (t : Int) : ((fun k => (cntOf l k).map (Value.int .i64)) t).getD (.int .i64 0) = .int .i64 0 := by
  simp only [cntOf]
  split <;> rfl
theorem cnt_next (l : List Ev) (x : Ev) (k : Int) : putI (fun k => (cntOf l k).map (Value.int .i64)) x.txn (.int .i64 0) k = (cntOf (l ++ [x]) k).map (Value.int .i64) := by
  unfold putI cntOf
  rw [List.map_append]
  by_cases e : k = x.txn
  · simp [e]
  · rw [if_neg e]
    simp [e]
theorem cell_next (l : List Ev) (x : Ev) : (fun c => cellIn l c ∨ c = x.cell) = cellIn (l ++ [x]) := by
  funext c
  unfold cellIn
  rw [List.map_append]
  simp
theorem ent_inj {q : IntKind} : ∀ {L L' : List IEnt}, L.map (ent q) = L'.map (ent q) → L = L'
  | [], [], _ => rfl
  | [], b :: L', h => by cases h
  | a :: L, [], h => by cases h
  | a :: L, b :: L', h => by
    simp only [List.map_cons, List.cons.injEq] at h
    obtain ⟨h1, h2⟩ := h
    obtain ⟨a1, a2, a3⟩ := a
    obtain ⟨b1, b2, b3⟩ := b
    simp only [ent, MapEntry.mk.injEq, Value.int.injEq] at h1
    obtain ⟨⟨_, rfl⟩, rfl, rfl⟩ := h1
    rw [ent_inj h2]
theorem imap_fun {w : World} {q : IntKind} {b n n' : Nat} {f f' : Int → Option Value} (h : IMap w q b f n) (h' : IMap w q b f' n') (k : Int) : f k = f' k := by
  obtain ⟨L, c, h1, h2, _⟩ := h
  obtain ⟨L', c', h1', h2', _⟩ := h'
  have e := h1.blk.symm.trans h1'.blk
  injection e with e
  injection e with e _
  have : L = L' := ent_inj (q := q) (by simpa using e)
  rw [h2, h2', this]
theorem wrote_write (l : List Ev) (x : Ev) (h : x.wr = true) (hw : wroteOf l x.cell x.ver = none ∨ wroteOf l x.cell x.ver = some x.txn) : wroteOf (l ++ [x]) = fun c => if c = x.cell then (fun v => if v = x.ver then some x.txn else wroteOf l x.cell v) else wroteOf l c := by
  funext c v
  rw [wroteOf_snoc]
  by_cases e : c = x.cell
  · subst e
    by_cases e2 : v = x.ver
    · subst e2
      rw [if_pos ⟨h, rfl, rfl⟩, if_pos rfl, if_pos rfl]
      rcases hw with e3 | e3 <;> rw [e3] <;> rfl
    · rw [if_neg (by rintro ⟨_, _, e3⟩; exact e2 e3.symm), if_pos rfl, if_neg e2]
      simp
  · rw [if_neg (by rintro ⟨_, e3, _⟩; exact e e3.symm), if_neg e]
    simp
theorem flat_intK (xs : List Int) : flat encK xs = xs.map (Value.int .i64) := by
  induction xs with
  | nil => rfl
  | cons x xs ih => rw [flat_cons, ih]; rfl
theorem rd_ints {w : World} {B : Nat} {vv : Value} {xs : List Int} (h : w.ownsRow B 3 1 vv xs.length (xs.map (.int .i64))) : Rd encK w vv xs := by
  have : Ow encK 3 w B vv xs := by
    unfold Ow
    rw [flat_intK]
    exact h
  exact this.rd
/-- What a map of slices has at a key. -/
theorem rows_at {w : World} {ρ : Rho} {B b : Nat} {r : Int → Ro} {rd : Int → List Int} (h : RowsM w ρ B 3 b r rd) (k : Int) : ∃ g m vv, IMap w .i64 b g m ∧ (g k).getD (.slice none 0 0) = vv ∧ w.ownsRow B 3 1 vv (rd k).length ((rd k).map (.int .i64)) ∧ (∀ x, vv.ownBlock = some x → ρ x = r k) ∧
    ∀ k', (g k' = none ∧ rd k' = []) ∨ ∃ v, g k' = some v ∧ w.ownsRow B 3 1 v (rd k').length ((rd k').map (.int .i64)) ∧ ∀ x, v.ownBlock = some x → ρ x = r k' := by
  obtain ⟨g, m, h1, h2⟩ := h
  rcases h2 k with ⟨e1, e2⟩ | ⟨v, e1, e2, e3⟩
  · exact ⟨g, m, .slice none 0 0, h1, (by rw [e1]; rfl), (by rw [e2]; exact own_nil _ _ _ _), (by intro x hx; cases hx), h2⟩
  · exact ⟨g, m, v, h1, (by rw [e1]; rfl), e2, e3, h2⟩
theorem wrote_read (l : List Ev) (x : Ev) (h : x.wr = false) : wroteOf (l ++ [x]) = wroteOf l := by
  funext c v
  rw [wroteOf_snoc, if_neg (by rw [h]; simp)]
  simp
theorem reads_write (l : List Ev) (x : Ev) (h : x.wr = true) : readsOf (l ++ [x]) = readsOf l := by
  funext c v
  rw [readsOf_snoc, if_neg (by unfold readAt; rw [h]; simp)]
theorem reads_read (l : List Ev) (x : Ev) (h : x.wr = false) : readsOf (l ++ [x]) = fun c => if c = x.cell then (fun v => if v = x.ver then addOnce (readsOf l x.cell x.ver) x.txn else readsOf l x.cell v) else readsOf l c := by
  funext c v
  rw [readsOf_snoc]
  by_cases e : c = x.cell
  · subst e
    by_cases e2 : v = x.ver
    · subst e2
      rw [if_pos (by unfold readAt; rw [h]; simp), if_pos rfl, if_pos rfl]
    · rw [if_neg (by unfold readAt; simp; intro _ e3; exact e2 e3.symm), if_pos rfl, if_neg e2]
  · rw [if_neg (by unfold readAt; simp; intro _ e3; exact absurd e3.symm e), if_neg e]
theorem note_read {l : List Ev} {x : Ev} (h : x.wr = false) (ha : argB x = false) : noteE l x = 0 := by
  unfold noteE
  rw [ha, if_neg (by simp), if_neg]
  intro hh
  obtain ⟨k, _, hk⟩ := List.any_eq_true.1 hh
  have := (hits_iff.1 hk).1
  rw [h] at this
  cases this
set_option maxRecDepth 100000 in
set_option maxHeartbeats 4000000 in
theorem t_note (ρ : Rho) (B tb : Nat) (b : TB) (fv sv : Value) (l : List Ev) (x : Ev) (w : World) (h : NotedSt w ρ B tb b fv sv l) (hl : l.length ≤ 60) (hno : Noted l) :
    Calls Tryz.prog 49 #[.pointer (some ⟨tb, 0, none⟩), .agg #[.int .i64 x.txn, .int .u64 x.cell, .int .i64 x.ver, .bool x.wr]] w fun e w' => NotePost ρ B tb b fv sv l x w e w' := by
  obtain ⟨xt, xc, xv, xw⟩ := x
  obtain ⟨cn, hcn, hs⟩ := h
  have HS := Lib.hid hs
  have HNo := Lib.hid hno
  clear hs hno
  go_enter Tryz.func49, Tryz.ntmps49
  have X1 : Hid (Blk (w.alloc (.cells #[.int .i64 xt, .int .u64 xc, .int .i64 xv, .bool xw] 47)) w.heap.size 47 #[.int .i64 xt, .int .u64 xc, .int .i64 xv, .bool xw]) := Lib.hid (Blk.new w _ _)
  have V1 : Hid (Upd [] w (w.alloc (.cells #[.int .i64 xt, .int .u64 xc, .int .i64 xv, .bool xw] 47))) := Lib.hid ((Upd.refl [] w).alloc _)
  go_upto_region 1 with fail
  generalize (w.alloc (.cells #[.int .i64 xt, .int .u64 xc, .int .i64 xv, .bool xw] 47)) = w1 at *
  have S1 := Lib.hid (HS.out.upd0 V1.out)
  have f0 : w1.cell? ⟨w.heap.size, 0, none⟩ = some (.int .i64 xt) := X1.out.cell 0
  have f1 : w1.cell? ⟨w.heap.size, 1, none⟩ = some (.int .u64 xc) := X1.out.cell 1
  have f2 : w1.cell? ⟨w.heap.size, 2, none⟩ = some (.int .i64 xv) := X1.out.cell 2
  have f3 : w1.cell? ⟨w.heap.size, 3, none⟩ = some (.bool xw) := X1.out.cell 3
  go_cut [8] from 9 to 16 (fun t wx => ∃ bt, t = .bool bt ∧ Hid (bt = (decide (xt < 0) || decide (xv < 0))) ∧ w1 = wx)
  case first =>
    by_cases a0 : xt < 0
    · have d0 : decide (xt < 0) = true := by simpa using a0
      go_wp2_with fail
      go_meet
      exact ⟨_, rfl, Lib.hid (by simp [a0]), by first | rfl | trivial⟩
    · have d0 : decide (xt < 0) = false := by simpa using a0
      go_wp2_with fail
      go_meet
      exact ⟨_, rfl, Lib.hid (by rw [d0]; rfl), by first | rfl | trivial⟩
  case rest =>
    obtain ⟨bt, rfl, HB1, rfl⟩ := hcut
    cases bt with
    | true =>
      have HB : Hid (argB ⟨xt, xc, xv, xw⟩ = true) := Lib.hid (by unfold argB; rw [← HB1.out]; rfl)
      have HE : Hid (noteE l ⟨xt, xc, xv, xw⟩ = 2) := Lib.hid (by unfold noteE; rw [if_pos HB.out])
      clear f0 f1 f2 f3
      go_wp2_with fail
      go_ret
      refine ⟨by rw [HE.out]; rfl, ρ, Tw.of0 V1.out, HS.out.hi, fun h => by rw [HE.out] at h; omega, fun _ => ⟨S1.out.tr, S1.out.rt⟩⟩
    | false =>
      go_upto_region 3 with fail
      go_cut [17] from 18 to 24 (fun t wx => ∃ bt, t = .bool bt ∧ Hid (argB ⟨xt, xc, xv, xw⟩ = bt) ∧ w1 = wx)
      case first =>
        cases xw with
        | false =>
          go_wp2_with fail
          go_meet
          exact ⟨_, rfl, Lib.hid (by unfold argB; rw [← HB1.out]; rfl), by first | rfl | trivial⟩
        | true =>
          go_wp2_with fail
          go_meet
          exact ⟨_, rfl, Lib.hid (by unfold argB; rw [← HB1.out]; rfl), by first | rfl | trivial⟩
      case rest =>
        obtain ⟨bt, rfl, HB, rfl⟩ := hcut
        cases bt with
        | true =>
          have HE : Hid (noteE l ⟨xt, xc, xv, xw⟩ = 2) := Lib.hid (by unfold noteE; rw [if_pos HB.out])
          clear f0 f1 f2 f3
          go_wp2_with fail
          go_ret
          refine ⟨by rw [HE.out]; rfl, ρ, Tw.of0 V1.out, HS.out.hi, fun h => by rw [HE.out] at h; omega, fun _ => ⟨S1.out.tr, S1.out.rt⟩⟩
        | false =>
          go_upto_region 5 with fail
          clear f0 f1 f2 f3
          go_cut [32] from 25 to 32 (fun t wx => ∃ bt, t = .bool bt ∧ Hid (bt = false → cellIn l xc) ∧ Hid (bt = true → ¬ cellIn l xc) ∧ Hid (Upd [] w1 wx))
          case first =>
            have hwr := S1.out.wr
            obtain ⟨rw0, fw, nw, iw, dw, ew⟩ := hwr
            by_cases hci : cellIn l xc
            · obtain ⟨v, hv⟩ : ∃ v, fw xc = some v := by
                cases h : fw xc with
                | none => exact absurd hci ((dw xc).1 h)
                | some v => exact ⟨v, rfl⟩
              obtain ⟨b', m', rfl, _⟩ := ew xc v hv
              have CF : Hid (∀ W, Upd [] w1.drew W → (W.cell? ⟨tb, 1, none⟩ = some (.map (some b.bw)) ∧ W.cell? ⟨w.heap.size, 1, none⟩ = some (.int .u64 xc)) ∧ (Instr.lookup 60 (.map (some b.bw)) (.int .u64 xc) false).run Tryz.prog W = .ok (.map (some b')) W ∧ (binOp .eql 59 (.map (some b')) (.map none)).run Tryz.prog W = .ok (.bool false) W) := Lib.hid (fun W hW => by
                have hu : Upd [] w1 W := (Upd.refl [] w1).drew.trans hW
                refine ⟨⟨(S1.out.tr.upd hu (by simp)).cell 1, (X1.out.upd hu (by simp)).cell 1⟩, ?_, run_eql_map_nil W _ Tryz.underlying59⟩
                rw [run_lookup_int' Tryz.underlying60 Tryz.underlying45 (Tryz.zeroValue59 W) (iw.upd hu (by simp)) xc, hv]
                rfl)
              go_wp2_with fail
              refine wp_invN [] [] (by kernel_rfl) (by kernel_rfl) (by kernel_rfl) trivial ?_
              with_reducible apply wpV_light
              · simp only [lightOp]
              · intro W hU hF
                have f0 := CF.out W hU
                clear hU hF
                go_simp
                exact rfl
              simp only [Act.put, List.setIfInBounds_toArray, List.set_cons_zero, List.set_cons_succ]
              with_reducible apply wpV_light
              · simp only [lightOp]
              · intro W hU hF
                have f0 := CF.out W hU
                clear hU hF
                go_simp
                exact rfl
              simp only [Act.put, List.setIfInBounds_toArray, List.set_cons_zero, List.set_cons_succ]
              with_reducible apply wpV_light
              · simp only [lightOp]
              · intro W hU hF
                have f0 := CF.out W hU
                clear hU hF
                go_simp
                exact rfl
              simp only [Act.put, List.setIfInBounds_toArray, List.set_cons_zero, List.set_cons_succ]
              with_reducible apply wpV_light
              · simp only [lightOp]
              · intro W hU hF
                have f0 := CF.out W hU
                clear hU hF
                go_simp
                exact rfl
              simp only [Act.put, List.setIfInBounds_toArray, List.set_cons_zero, List.set_cons_succ]
              with_reducible apply wpV_light
              · simp only [lightOp]
              · intro W hU hF
                have f0 := CF.out W hU
                clear hU hF
                go_simp
                exact rfl
              simp only [Act.put, List.setIfInBounds_toArray, List.set_cons_zero, List.set_cons_succ]
              with_reducible apply wpV_light
              · simp only [lightOp]
              · intro W hU hF
                have f0 := CF.out W hU
                clear hU hF
                go_simp
                exact rfl
              simp only [Act.put, List.setIfInBounds_toArray, List.set_cons_zero, List.set_cons_succ]
              with_reducible apply wpV_light
              · simp only [lightOp]
              · intro W hU hF
                have f0 := CF.out W hU
                clear hU hF
                go_simp
                exact rfl
              simp only [Act.put, List.setIfInBounds_toArray, List.set_cons_zero, List.set_cons_succ]
              with_reducible apply wpV_light
              · simp only [lightOp]
              · intro W hU hF
                have f0 := CF.out W hU
                clear hU hF
                go_simp
                exact rfl
              simp only [Act.put, List.setIfInBounds_toArray, List.set_cons_zero, List.set_cons_succ]
              refine wpV_end (fun W hU _ _ _ => ?_)
              have U2 : Hid (Upd [] w1 W) := Lib.hid ((Upd.refl [] w1).drew.trans hU)
              clear hU
              refine wpT_end ?_
              go_wp2_with fail
              go_meet
              exact ⟨_, rfl, Lib.hid (fun _ => hci), Lib.hid (fun h => by cases h), U2⟩
            · have hv : fw xc = none := (dw xc).2 hci
              have CF : Hid (∀ W, Upd [] w1.drew W → (W.cell? ⟨tb, 1, none⟩ = some (.map (some b.bw)) ∧ W.cell? ⟨w.heap.size, 1, none⟩ = some (.int .u64 xc)) ∧ (Instr.lookup 60 (.map (some b.bw)) (.int .u64 xc) false).run Tryz.prog W = .ok (.map none) W ∧ (binOp .eql 59 (.map none) (.map none)).run Tryz.prog W = .ok (.bool true) W) := Lib.hid (fun W hW => by
                have hu : Upd [] w1 W := (Upd.refl [] w1).drew.trans hW
                refine ⟨⟨(S1.out.tr.upd hu (by simp)).cell 1, (X1.out.upd hu (by simp)).cell 1⟩, ?_, run_eql_map_nil W _ Tryz.underlying59⟩
                rw [run_lookup_int' Tryz.underlying60 Tryz.underlying45 (Tryz.zeroValue59 W) (iw.upd hu (by simp)) xc, hv]
                rfl)
              go_wp2_with fail
              refine wp_invN [] [] (by kernel_rfl) (by kernel_rfl) (by kernel_rfl) trivial ?_
              with_reducible apply wpV_light
              · simp only [lightOp]
              · intro W hU hF
                have f0 := CF.out W hU
                clear hU hF
                go_simp
                exact rfl
              simp only [Act.put, List.setIfInBounds_toArray, List.set_cons_zero, List.set_cons_succ]
              with_reducible apply wpV_light
              · simp only [lightOp]
              · intro W hU hF
                have f0 := CF.out W hU
                clear hU hF
                go_simp
                exact rfl
              simp only [Act.put, List.setIfInBounds_toArray, List.set_cons_zero, List.set_cons_succ]
              with_reducible apply wpV_light
              · simp only [lightOp]
              · intro W hU hF
                have f0 := CF.out W hU
                clear hU hF
                go_simp
                exact rfl
              simp only [Act.put, List.setIfInBounds_toArray, List.set_cons_zero, List.set_cons_succ]
              with_reducible apply wpV_light
              · simp only [lightOp]
              · intro W hU hF
                have f0 := CF.out W hU
                clear hU hF
                go_simp
                exact rfl
              simp only [Act.put, List.setIfInBounds_toArray, List.set_cons_zero, List.set_cons_succ]
              with_reducible apply wpV_light
              · simp only [lightOp]
              · intro W hU hF
                have f0 := CF.out W hU
                clear hU hF
                go_simp
                exact rfl
              simp only [Act.put, List.setIfInBounds_toArray, List.set_cons_zero, List.set_cons_succ]
              with_reducible apply wpV_light
              · simp only [lightOp]
              · intro W hU hF
                have f0 := CF.out W hU
                clear hU hF
                go_simp
                exact rfl
              simp only [Act.put, List.setIfInBounds_toArray, List.set_cons_zero, List.set_cons_succ]
              with_reducible apply wpV_light
              · simp only [lightOp]
              · intro W hU hF
                have f0 := CF.out W hU
                clear hU hF
                go_simp
                exact rfl
              simp only [Act.put, List.setIfInBounds_toArray, List.set_cons_zero, List.set_cons_succ]
              with_reducible apply wpV_light
              · simp only [lightOp]
              · intro W hU hF
                have f0 := CF.out W hU
                clear hU hF
                go_simp
                exact rfl
              simp only [Act.put, List.setIfInBounds_toArray, List.set_cons_zero, List.set_cons_succ]
              refine wpV_end (fun W hU _ _ _ => ?_)
              have U2 : Hid (Upd [] w1 W) := Lib.hid ((Upd.refl [] w1).drew.trans hU)
              clear hU
              refine wpT_end ?_
              go_wp2_with fail
              go_meet
              exact ⟨_, rfl, Lib.hid (fun h => by cases h), Lib.hid (fun _ => hci), U2⟩
          case rest =>
            obtain ⟨bt, rfl, HF, HT, V2⟩ := hcut
            rename World => w2
            have S2 := Lib.hid (S1.out.upd0 V2.out)
            have X2 := Lib.hid (X1.out.upd V2.out (by simp))
            go_upto_if 32 with fail
            go_cut [] from 33 to 50 (fun wx => ∃ ρ1, Hid (Tw ρ ρ1 w2 wx) ∧ Hid (TrSt wx ρ1 B tb b fv sv ⟨cntOf l, cn, fun c => cellIn l c ∨ c = xc, wroteOf l, readsOf l, [], fun _ => []⟩) ∧ Hid (Blk wx w.heap.size 47 #[.int .i64 xt, .int .u64 xc, .int .i64 xv, .bool xw]))
            case first =>
              cases bt with
              | false =>
                have hci := HF.out rfl
                go_wp2_with fail
                go_meet
                exact ⟨ρ, Lib.hid (Tw.refl _ _), Lib.hid (by
                  have h := S2.out
                  have hC : (fun c => cellIn l c ∨ c = xc) = cellIn l := by
                    funext c
                    exact propext ⟨fun g => g.elim id (fun e => e ▸ hci), .inl⟩
                  rw [hC]
                  exact h), X2⟩
              | true =>
                have hci := HT.out rfl
                clear HF HT
                obtain ⟨rw0, fw, nw, iw, dw, ew⟩ := S2.out.wr
                obtain ⟨rr0, fr, nr, ir, dr, er⟩ := S2.out.rd
                obtain ⟨L1, c1, hr1, hf1, hn1⟩ := iw
                obtain ⟨L2, c2, hr2, hf2, hn2⟩ := ir
                have no1 : ∀ p ∈ L1, p.1 ≠ xc := not_found (by rw [← hf1]; exact (dw xc).2 hci)
                have no2 : ∀ p ∈ L2, p.1 ≠ xc := not_found (by rw [← hf2]; exact (dr xc).2 hci)
                have hne : b.bw ≠ b.br := fun e => by rw [e, rr0] at rw0; cases rw0
                have htb : tb ∉ [b.bw, b.br] := by
                  intro hm
                  simp at hm
                  rcases hm with e | e
                  · have := S2.out.rt; rw [e, rw0] at this; cases this
                  · have := S2.out.rt; rw [e, rr0] at this; cases this
                have hxb : w.heap.size ∉ [b.bw, b.br] := by
                  intro hm
                  have ht1 := X2.out
                  simp at hm
                  rcases hm with e | e
                  · rw [e] at ht1; have := hr1.blk; rw [show w2.heap[b.bw]? = _ from ht1] at this; cases this
                  · rw [e] at ht1; have := hr2.blk; rw [show w2.heap[b.br]? = _ from ht1] at this; cases this
                have FX : Hid (∀ W, Upd [b.bw, b.br] w2.drew W → W.cell? ⟨tb, 1, none⟩ = some (.map (some b.bw)) ∧ W.cell? ⟨tb, 2, none⟩ = some (.map (some b.br)) ∧ W.cell? ⟨w.heap.size, 1, none⟩ = some (.int .u64 xc)) := Lib.hid (fun W hW => by
                  have hu : Upd [b.bw, b.br] w2 W := (Upd.refl _ w2).drew.trans hW
                  exact ⟨(S2.out.tr.upd hu htb).cell 1, (S2.out.tr.upd hu htb).cell 2, (X2.out.upd hu hxb).cell 1⟩)
                go_wp2_with fail
                refine wp_invK [b.bw, b.br] (fun u s W => KMk b.bw b.br L1 L2 c1 c2 xc 12 13 u s W) [(16, [12]), (19, [13])] [(12, mapNew w2.heap.size), (13, mapNew w2.heap.size), (14, .det (.tuple #[.map none, goInt c1])), (17, .det (.tuple #[.map none, goInt c2]))] [] [14, 16, 17, 19] (by kernel_rfl) (by kernel_rfl) (by kernel_rfl) (by kernel_rfl) ?_ ⟨lasts_mapNew _ _ _, lasts_mapNew _ _ _, lasts_det _, lasts_det _, trivial⟩ ?_ ?_ ?_ ?_
                · intro x hx
                  simp at hx
                  rcases hx with rfl | rfl
                  · exact hr1.lt'
                  · exact hr2.lt'
                · intro s u u' w1' hag hk
                  match s, hk with
                  | 0, hk => exact hk
                  | 1, hk => exact hk
                  | 2, hk =>
                    have h1 := hag 16 (by simp) rfl (by decide) 12 (by simp [conOf])
                    show IMap w1' .u64 b.bw (putI (findI L1) xc (u' 12)) _ ∧ _
                    rw [← h1]; exact hk
                  | 3, hk =>
                    have h1 := hag 16 (by simp) rfl (by decide) 12 (by simp [conOf])
                    show IMap w1' .u64 b.bw (putI (findI L1) xc (u' 12)) _ ∧ _
                    rw [← h1]; exact hk
                  | s + 4, hk =>
                    have h1 := hag 16 (by simp) rfl (by rw [show ((List.range 16).filter (fun j => [14, 16, 17, 19].contains j)).length = 1 from by decide]; omega) 12 (by simp [conOf])
                    have h2 := hag 19 (by simp) rfl (by rw [show ((List.range 19).filter (fun j => [14, 16, 17, 19].contains j)).length = 3 from by decide]; omega) 13 (by simp [conOf])
                    show IMap w1' .u64 b.bw (putI (findI L1) xc (u' 12)) _ ∧ IMap w1' .u64 b.br (putI (findI L2) xc (u' 13)) _
                    rw [← h1, ← h2]; exact hk
                · intro u s w1' w' T hk hu hT
                  refine kmk_lasts hu (fun h => ?_) (fun h => ?_) s hk
                  · have := hT _ h; have := hr1.lt'; omega
                  · have := hT _ h; have := hr2.lt'; omega
                · intro u
                  exact ⟨hr1.upd ((Upd.refl [] w2).drew) (by simp), hr2.upd ((Upd.refl [] w2).drew) (by simp)⟩
                with_reducible apply wpV_light
                · simp only [lightOp]
                · intro W hU hF
                  have f0 := FX.out W hU
                  clear hU hF
                  go_simp
                  exact rfl
                simp only [Act.put, List.setIfInBounds_toArray, List.set_cons_zero, List.set_cons_succ]
                with_reducible apply wpV_light
                · simp only [lightOp]
                · intro W hU hF
                  have f0 := FX.out W hU
                  clear hU hF
                  go_simp
                  exact rfl
                simp only [Act.put, List.setIfInBounds_toArray, List.set_cons_zero, List.set_cons_succ]
                with_reducible apply wpV_light
                · simp only [lightOp]
                · intro W hU hF
                  have f0 := FX.out W hU
                  clear hU hF
                  go_simp
                  exact rfl
                simp only [Act.put, List.setIfInBounds_toArray, List.set_cons_zero, List.set_cons_succ]
                with_reducible apply wpV_light
                · simp only [lightOp]
                · intro W hU hF
                  have f0 := FX.out W hU
                  clear hU hF
                  go_simp
                  exact rfl
                simp only [Act.put, List.setIfInBounds_toArray, List.set_cons_zero, List.set_cons_succ]
                with_reducible apply wpV_light
                · simp only [lightOp]
                · intro W hU hF
                  have f0 := FX.out W hU
                  clear hU hF
                  go_simp
                  exact rfl
                simp only [Act.put, List.setIfInBounds_toArray, List.set_cons_zero, List.set_cons_succ]
                with_reducible apply wpV_light
                · simp only [lightOp]
                · intro W hU hF
                  have f0 := FX.out W hU
                  clear hU hF
                  go_simp
                  exact rfl
                simp only [Act.put, List.setIfInBounds_toArray, List.set_cons_zero, List.set_cons_succ]
                with_reducible apply wpV_light
                · simp only [lightOp]
                · intro W hU hF
                  have f0 := FX.out W hU
                  clear hU hF
                  go_simp
                  exact rfl
                simp only [Act.put, List.setIfInBounds_toArray, List.set_cons_zero, List.set_cons_succ]
                with_reducible apply wpV_light
                · simp only [lightOp]
                · intro W hU hF
                  have f0 := FX.out W hU
                  clear hU hF
                  go_simp
                  exact rfl
                simp only [Act.put, List.setIfInBounds_toArray, List.set_cons_zero, List.set_cons_succ]
                with_reducible apply wpV_light
                · simp only [lightOp]
                · intro W hU hF
                  have f0 := FX.out W hU
                  clear hU hF
                  go_simp
                  exact rfl
                simp only [Act.put, List.setIfInBounds_toArray, List.set_cons_zero, List.set_cons_succ]
                with_reducible apply wpV_light
                · simp only [lightOp]
                · intro W hU hF
                  have f0 := FX.out W hU
                  clear hU hF
                  go_simp
                  exact rfl
                simp only [Act.put, List.setIfInBounds_toArray, List.set_cons_zero, List.set_cons_succ]
                with_reducible apply wpV_light
                · simp only [lightOp]
                · intro W hU hF
                  have f0 := FX.out W hU
                  clear hU hF
                  go_simp
                  exact rfl
                simp only [Act.put, List.setIfInBounds_toArray, List.set_cons_zero, List.set_cons_succ]
                with_reducible apply wpV_light
                · simp only [lightOp]
                · intro W hU hF
                  have f0 := FX.out W hU
                  clear hU hF
                  go_simp
                  exact rfl
                simp only [Act.put, List.setIfInBounds_toArray, List.set_cons_zero, List.set_cons_succ]
                refine wpV_heavy (by simp only [lightOp]) (by rfl) (fun W hU hk hF K hK => ?_) ?_
                · go_wp2_with fail
                  exact hK.out _ _ ⟨⟨_, rfl, hU.size, IMap.new W .i64⟩, by intro x hx; simp [mkI, specOf, mapNew, mapBlocks] at hx; subst hx; exact .inr ⟨Nat.le_refl _, by simp⟩, (Upd.refl _ W).alloc _, fun h => by cases h⟩
                rintro _ ⟨m1, rfl⟩
                simp only [Act.put, List.setIfInBounds_toArray, List.set_cons_zero, List.set_cons_succ]
                refine wpV_heavy (by simp only [lightOp]) (by rfl) (fun W hU hk hF K hK => ?_) ?_
                · go_wp2_with fail
                  exact hK.out _ _ ⟨⟨_, rfl, hU.size, IMap.new W .i64⟩, by intro x hx; simp [mkI, specOf, mapNew, mapBlocks] at hx; subst hx; exact .inr ⟨Nat.le_refl _, by simp⟩, (Upd.refl _ W).alloc _, fun h => by cases h⟩
                rintro _ ⟨m2, rfl⟩
                simp only [Act.put, List.setIfInBounds_toArray, List.set_cons_zero, List.set_cons_succ]
                refine wpV_heavy (by simp only [lightOp]) (by rfl) (fun W hU hk hF K hK => ?_) ?_
                · have hk0 := hk rfl
                  obtain ⟨w', hrun, hraw, hupd⟩ := run_mapEntry_new (P := Tryz.prog) Tryz.underlying60 Tryz.underlying45 (fun w => Tryz.zeroValue59 w) hk0.1 no1
                  go_wp2_with fail
                  refine hK.out _ _ ⟨rfl, (by intro x hx; cases hx), ?_, fun _ => ⟨hraw, hk0.2.upd hupd (by simp; exact fun e => hne e.symm)⟩⟩
                  rw [if_pos (show (mkI _ _ _ _ _ _ _ _ _).ch 14 = true from rfl)]
                  exact hupd.mono (by intro x hx; simp at hx; subst hx; simp [mkI])
                rintro _ rfl
                simp only [Act.put, List.setIfInBounds_toArray, List.set_cons_zero, List.set_cons_succ]
                with_reducible apply wpV_light
                · simp only [lightOp]
                · intro W hU hF
                  have f0 := FX.out W hU
                  clear hU hF
                  go_simp
                  exact rfl
                simp only [Act.put, List.setIfInBounds_toArray, List.set_cons_zero, List.set_cons_succ]
                refine wpV_heavy (by simp only [lightOp]) (by rfl) (fun W hU hk hF K hK => ?_) ?_
                · have hk0 := hk rfl
                  obtain ⟨w', hrun, him, hupd⟩ := run_entryStore_int (P := Tryz.prog) (mt := 60) hk0.1 (show (xc, Value.map none, c1) ∈ L1 ++ [(xc, .map none, c1)] by simp) (.map (some m1))
                  have hrun2 : (Instr.entryStore 60 (.map (some b.bw)) (.int .i64 (c1 : Nat)) (.map (some m1))).run Tryz.prog W = .ok () w' := hrun
                  clear hrun
                  go_wp2_with fail
                  refine hK.out undef _ ⟨trivial, (by intro x hx; cases hx), ?_, fun _ => ⟨?_, hk0.2.upd hupd (by simp; exact fun e => hne e.symm)⟩⟩
                  · rw [if_pos (show (mkI _ _ _ _ _ _ _ _ _).ch 16 = true from rfl)]
                    exact hupd.mono (by intro x hx; simp at hx; subst hx; simp [mkI])
                  · have h1 := him.congr (fun x => findI_snoc no1 (.map (some m1)) x)
                    rw [show (L1 ++ [(xc, Value.map none, c1)]).length = L1.length + 1 by simp] at h1
                    exact h1
                rintro _ -
                simp only [Act.put, List.setIfInBounds_toArray, List.set_cons_zero, List.set_cons_succ]
                refine wpV_heavy (by simp only [lightOp]) (by rfl) (fun W hU hk hF K hK => ?_) ?_
                · have hk0 := hk rfl
                  obtain ⟨w', hrun, hraw, hupd⟩ := run_mapEntry_new (P := Tryz.prog) Tryz.underlying61 Tryz.underlying45 (fun w => Tryz.zeroValue63 w) hk0.2 no2
                  go_wp2_with fail
                  refine hK.out _ _ ⟨rfl, (by intro x hx; cases hx), ?_, fun _ => ⟨hk0.1.upd hupd (by simp; exact hne), hraw⟩⟩
                  rw [if_pos (show (mkI _ _ _ _ _ _ _ _ _).ch 17 = true from rfl)]
                  exact hupd.mono (by intro x hx; simp at hx; subst hx; simp [mkI])
                rintro _ rfl
                simp only [Act.put, List.setIfInBounds_toArray, List.set_cons_zero, List.set_cons_succ]
                with_reducible apply wpV_light
                · simp only [lightOp]
                · intro W hU hF
                  have f0 := FX.out W hU
                  clear hU hF
                  go_simp
                  exact rfl
                simp only [Act.put, List.setIfInBounds_toArray, List.set_cons_zero, List.set_cons_succ]
                refine wpV_heavy (by simp only [lightOp]) (by rfl) (fun W hU hk hF K hK => ?_) ?_
                · have hk0 := hk rfl
                  obtain ⟨w', hrun, him, hupd⟩ := run_entryStore_int (P := Tryz.prog) (mt := 61) hk0.2 (show (xc, Value.map none, c2) ∈ L2 ++ [(xc, .map none, c2)] by simp) (.map (some m2))
                  have hrun2 : (Instr.entryStore 61 (.map (some b.br)) (.int .i64 (c2 : Nat)) (.map (some m2))).run Tryz.prog W = .ok () w' := hrun
                  clear hrun
                  go_wp2_with fail
                  refine hK.out undef _ ⟨trivial, (by intro x hx; cases hx), ?_, fun _ => ⟨hk0.1.upd hupd (by simp; exact hne), ?_⟩⟩
                  · rw [if_pos (show (mkI _ _ _ _ _ _ _ _ _).ch 19 = true from rfl)]
                    exact hupd.mono (by intro x hx; simp at hx; subst hx; simp [mkI])
                  · have h1 := him.congr (fun x => findI_snoc no2 (.map (some m2)) x)
                    rw [show (L2 ++ [(xc, Value.map none, c2)]).length = L2.length + 1 by simp] at h1
                    exact h1
                rintro _ -
                simp only [Act.put, List.setIfInBounds_toArray, List.set_cons_zero, List.set_cons_succ]
                refine wpV_end (fun W hU hk hF hA => ?_)
                have hU2 : Upd [b.bw, b.br] w2 W := (Upd.refl _ w2).drew.trans hU
                obtain ⟨m1', e1, g1, i1⟩ := hF.out.1 (by kernel_rfl)
                injection e1 with e1
                injection e1 with e1
                subst e1
                obtain ⟨m2', e2, g2, i2⟩ := hF.out.2.1 (by kernel_rfl)
                injection e2 with e2
                injection e2 with e2
                subst e2
                have hne12 : m1 ≠ m2 := fun e => hA.out (12, .map (some m1)) (by simp) (13, .map (some m2)) (by simp) (by simp) (by kernel_rfl) (by kernel_rfl) m1 (by simp [mkI, specOf, mapNew, mapBlocks]) (by simp [mkI, specOf, mapNew, mapBlocks, e])
                have hN := cell_new S2.out hci hU2 rw0 dw ew rr0 dr er (hk.1.congr (fun c => by unfold putI; rw [← hf1]; rfl)) (hk.2.congr (fun c => by unfold putI; rw [← hf2]; rfl)) i1 i2 g1 g2 hne12
                have hX := X2.out.upd hU2 hxb
                have HN := Lib.hid hN
                have HX := Lib.hid hX
                clear hN hX hU hk hF hA hU2 i1 i2 g1 g2
                refine wpT_end ?_
                go_wp2_with fail
                go_meet
                exact ⟨_, Lib.hid HN.out.1, Lib.hid HN.out.2, HX⟩
            case rest =>
              obtain ⟨ρ1, TW, S3, X3⟩ := hcut
              rename World => w3
              have CF : Hid (∀ W, Upd [] w3.drew W → (W.cell? ⟨tb, 0, none⟩ = some (.map (some b.bt)) ∧ W.cell? ⟨w.heap.size, 0, none⟩ = some (.int .i64 xt)) ∧ (Instr.lookup 59 (.map (some b.bt)) (.int .i64 xt) false).run Tryz.prog W = .ok (.int .i64 0) W) := Lib.hid (fun W hW => by
                have hu : Upd [] w3 W := (Upd.refl [] w3).drew.trans hW
                refine ⟨⟨(S3.out.tr.upd hu (by simp)).cell 0, (X3.out.upd hu (by simp)).cell 0⟩, ?_⟩
                rw [run_lookup_int' Tryz.underlying59 Tryz.underlying3 (Tryz.zeroValue3 W) (S3.out.tx.2.upd hu (by simp)) xt, cnt_zero])
              go_wp2_with fail
              refine wp_invNT 8 [] [] (by kernel_rfl) (by simp) (by kernel_rfl) (by kernel_rfl) trivial ?_
              simp only [List.take_succ_cons, List.take_zero, List.drop_succ_cons, List.drop_zero]
              with_reducible apply wpV_light
              · simp only [lightOp]
              · intro W hU hF
                have f0 := CF.out W hU
                clear hU hF
                go_simp
                exact rfl
              simp only [Act.put, List.setIfInBounds_toArray, List.set_cons_zero, List.set_cons_succ]
              with_reducible apply wpV_light
              · simp only [lightOp]
              · intro W hU hF
                have f0 := CF.out W hU
                clear hU hF
                go_simp
                exact rfl
              simp only [Act.put, List.setIfInBounds_toArray, List.set_cons_zero, List.set_cons_succ]
              with_reducible apply wpV_light
              · simp only [lightOp]
              · intro W hU hF
                have f0 := CF.out W hU
                clear hU hF
                go_simp
                exact rfl
              simp only [Act.put, List.setIfInBounds_toArray, List.set_cons_zero, List.set_cons_succ]
              with_reducible apply wpV_light
              · simp only [lightOp]
              · intro W hU hF
                have f0 := CF.out W hU
                clear hU hF
                go_simp
                exact rfl
              simp only [Act.put, List.setIfInBounds_toArray, List.set_cons_zero, List.set_cons_succ]
              with_reducible apply wpV_light
              · simp only [lightOp]
              · intro W hU hF
                have f0 := CF.out W hU
                clear hU hF
                go_simp
                exact rfl
              simp only [Act.put, List.setIfInBounds_toArray, List.set_cons_zero, List.set_cons_succ]
              with_reducible apply wpV_light
              · simp only [lightOp]
              · intro W hU hF
                have f0 := CF.out W hU
                clear hU hF
                go_simp
                exact rfl
              simp only [Act.put, List.setIfInBounds_toArray, List.set_cons_zero, List.set_cons_succ]
              with_reducible apply wpV_light
              · simp only [lightOp]
              · intro W hU hF
                have f0 := CF.out W hU
                clear hU hF
                go_simp
                exact rfl
              simp only [Act.put, List.setIfInBounds_toArray, List.set_cons_zero, List.set_cons_succ]
              with_reducible apply wpV_light
              · simp only [lightOp]
              · intro W hU hF
                have f0 := CF.out W hU
                clear hU hF
                go_simp
                exact rfl
              simp only [Act.put, List.setIfInBounds_toArray, List.set_cons_zero, List.set_cons_succ]
              refine wpV_end (fun W hU _ _ _ => ?_)
              have U4 : Hid (Upd [] w3 W) := Lib.hid ((Upd.refl [] w3).drew.trans hU)
              clear hU CF
              obtain ⟨w5, hrun, im, hu5⟩ := run_mapUpdate_int (P := Tryz.prog) Tryz.underlying59 Tryz.underlying3 (S3.out.tx.2.upd U4.out (by simp)) xt (.int .i64 0)
              refine wpT_op (by rfl) (fun K hK => ?_)
              go_wp2_with fail
              refine hK.out _ _ ?_
              clear hK K hrun
              have hcn5 : ∃ cn5, cn5 ≤ l.length + 1 ∧ Hid (TrSt w5 ρ1 B tb b fv sv ⟨cntOf (l ++ [⟨xt, xc, xv, xw⟩]), cn5, cellIn (l ++ [⟨xt, xc, xv, xw⟩]), wroteOf l, readsOf l, [], fun _ => []⟩) := by
                have h1 := (S3.out.upd0 U4.out).setTx hu5 (im.congr (fun k => cnt_next l ⟨xt, xc, xv, xw⟩ k))
                rw [cell_next l ⟨xt, xc, xv, xw⟩] at h1
                exact ⟨_, by split <;> omega, Lib.hid h1⟩
              obtain ⟨cn5, hcn5, S5⟩ := hcn5
              have hbt5 : w.heap.size ≠ b.bt := fun e => by
                have h1 := X3.out
                obtain ⟨L, c, hr, _⟩ := S3.out.tx.2
                have := hr.blk
                rw [e] at h1
                rw [show w3.heap[b.bt]? = _ from h1] at this
                cases this
              have X5 := Lib.hid ((X3.out.upd U4.out (by simp)).upd hu5 (by simp; exact hbt5))
              have TW5 : Hid (Tw ρ ρ1 w2 w5) := Lib.hid ((TW.out.trans (Tw.of0 U4.out)).trans (Tw.of_upd hu5 (by intro x hx; simp at hx; subst hx; rw [S3.out.tx.1]; simp)))
              have e0 : w5.cell? ⟨w.heap.size, 0, none⟩ = some (.int .i64 xt) := X5.out.cell 0
              have e1 : w5.cell? ⟨w.heap.size, 1, none⟩ = some (.int .u64 xc) := X5.out.cell 1
              have e2 : w5.cell? ⟨w.heap.size, 2, none⟩ = some (.int .i64 xv) := X5.out.cell 2
              have e3 : w5.cell? ⟨w.heap.size, 3, none⟩ = some (.bool xw) := X5.out.cell 3
              clear hu5 im U4 S3 X3 TW hbt5
              refine wpT_end ?_
              cases xw with
              | false =>
                obtain ⟨rr0, fr, nr, ir, dr, er⟩ := S5.out.rd
                obtain ⟨v0, hv0⟩ : ∃ v, fr xc = some v := by
                  cases h : fr xc with
                  | none => exact absurd (by unfold cellIn; rw [List.map_append]; simp) ((dr xc).1 h)
                  | some v => exact ⟨v, rfl⟩
                obtain ⟨rb, rfl, hrb, hrm⟩ := er xc v0 hv0
                obtain ⟨g, gm, vv, ig, hvv, hown, hro, hall⟩ := rows_at hrm xv
                have IR := Lib.hid ir
                have IG := Lib.hid ig
                have OV := Lib.hid hown
                obtain ⟨A, n, c, rfl, hnc, hcm⟩ : ∃ A n c, vv = .slice A n c ∧ n ≤ c ∧ c ≤ maxLen := by
                  obtain ⟨A, c, e, h1, h2⟩ := own_slice hown
                  exact ⟨A, _, c, e, h1, h2⟩
                have hnl : (readsOf l xc xv).length = n := by
                  obtain ⟨A', c', e, _⟩ := own_slice hown
                  injection e with _ e2 _
                  exact e2.symm
                have HNL := Lib.hid hnl
                have hn60 : n ≤ 60 := by have := readsOf_len l xc xv; omega
                have CF : Hid (∀ W, Upd [] w5.drew W → (W.cell? ⟨tb, 2, none⟩ = some (.map (some b.br)) ∧ W.cell? ⟨w.heap.size, 1, none⟩ = some (.int .u64 xc) ∧ W.cell? ⟨w.heap.size, 2, none⟩ = some (.int .i64 xv)) ∧ (Instr.lookup 61 (.map (some b.br)) (.int .u64 xc) false).run Tryz.prog W = .ok (.map (some rb)) W ∧ (Instr.lookup 63 (.map (some rb)) (.int .i64 xv) false).run Tryz.prog W = .ok (.slice A n c) W) := Lib.hid (fun W hW => by
                  have hu : Upd [] w5 W := (Upd.refl [] w5).drew.trans hW
                  refine ⟨⟨(S5.out.tr.upd hu (by simp)).cell 2, (X5.out.upd hu (by simp)).cell 1, (X5.out.upd hu (by simp)).cell 2⟩, ?_, ?_⟩
                  · rw [run_lookup_int' Tryz.underlying61 Tryz.underlying45 (Tryz.zeroValue63 W) (IR.out.upd hu (by simp)) xc, hv0]
                    rfl
                  · rw [run_lookup_int' Tryz.underlying63 Tryz.underlying3 (Tryz.zeroValue26 W) (IG.out.upd hu (by simp)) xv, hvv])
                have HRO := Lib.hid hro
                have HALL := Lib.hid hall
                clear hro hall ir ig hown hnl
                go_wp2_with fail
                clear e0 e1 e2 e3
                refine wp_invN [] [] (by kernel_rfl) (by kernel_rfl) (by kernel_rfl) trivial ?_
                with_reducible apply wpV_light
                · simp only [lightOp]
                · intro W hU hF
                  have f0 := CF.out W hU
                  clear hU hF
                  go_simp
                  exact rfl
                simp only [Act.put, List.setIfInBounds_toArray, List.set_cons_zero, List.set_cons_succ]
                with_reducible apply wpV_light
                · simp only [lightOp]
                · intro W hU hF
                  have f0 := CF.out W hU
                  clear hU hF
                  go_simp
                  exact rfl
                simp only [Act.put, List.setIfInBounds_toArray, List.set_cons_zero, List.set_cons_succ]
                with_reducible apply wpV_light
                · simp only [lightOp]
                · intro W hU hF
                  have f0 := CF.out W hU
                  clear hU hF
                  go_simp
                  exact rfl
                simp only [Act.put, List.setIfInBounds_toArray, List.set_cons_zero, List.set_cons_succ]
                with_reducible apply wpV_light
                · simp only [lightOp]
                · intro W hU hF
                  have f0 := CF.out W hU
                  clear hU hF
                  go_simp
                  exact rfl
                simp only [Act.put, List.setIfInBounds_toArray, List.set_cons_zero, List.set_cons_succ]
                with_reducible apply wpV_light
                · simp only [lightOp]
                · intro W hU hF
                  have f0 := CF.out W hU
                  clear hU hF
                  go_simp
                  exact rfl
                simp only [Act.put, List.setIfInBounds_toArray, List.set_cons_zero, List.set_cons_succ]
                with_reducible apply wpV_light
                · simp only [lightOp]
                · intro W hU hF
                  have f0 := CF.out W hU
                  clear hU hF
                  go_simp
                  exact rfl
                simp only [Act.put, List.setIfInBounds_toArray, List.set_cons_zero, List.set_cons_succ]
                with_reducible apply wpV_light
                · simp only [lightOp]
                · intro W hU hF
                  have f0 := CF.out W hU
                  clear hU hF
                  go_simp
                  exact rfl
                simp only [Act.put, List.setIfInBounds_toArray, List.set_cons_zero, List.set_cons_succ]
                with_reducible apply wpV_light
                · simp only [lightOp]
                · intro W hU hF
                  have f0 := CF.out W hU
                  clear hU hF
                  go_simp
                  exact rfl
                simp only [Act.put, List.setIfInBounds_toArray, List.set_cons_zero, List.set_cons_succ]
                with_reducible apply wpV_light
                · simp only [lightOp]
                · intro W hU hF
                  have f0 := CF.out W hU
                  clear hU hF
                  go_simp
                  exact rfl
                simp only [Act.put, List.setIfInBounds_toArray, List.set_cons_zero, List.set_cons_succ]
                with_reducible apply wpV_light
                · simp only [lightOp]
                · intro W hU hF
                  have f0 := CF.out W hU
                  clear hU hF
                  go_simp
                  exact rfl
                simp only [Act.put, List.setIfInBounds_toArray, List.set_cons_zero, List.set_cons_succ]
                with_reducible apply wpV_light
                · simp only [lightOp]
                · intro W hU hF
                  have f0 := CF.out W hU
                  clear hU hF
                  go_simp
                  exact rfl
                simp only [Act.put, List.setIfInBounds_toArray, List.set_cons_zero, List.set_cons_succ]
                refine wpV_end (fun w6 hU _ _ _ => ?_)
                have U6 : Hid (Upd [] w5 w6) := Lib.hid ((Upd.refl [] w5).drew.trans hU)
                clear hU
                refine wpT_end ?_
                have d0 : w6.cell? ⟨w.heap.size, 0, none⟩ = some (.int .i64 xt) := (X5.out.upd U6.out (by simp)).cell 0
                go_wp2_with fail
                refine (contains_ok A n c (readsOf l xc xv) xt w6 (rd_ints (own_upd0 OV.out U6.out)) HNL.out (by omega)).mono ?_; rintro e w7 ⟨rfl, rfl⟩
                obtain ⟨bt, hbt⟩ : ∃ bt, decide (xt ∈ readsOf l xc xv) = bt := ⟨_, rfl⟩
                rw [hbt]
                have HN0 : Hid (noteE l ⟨xt, xc, xv, false⟩ = 0) := Lib.hid (note_read rfl HB.out)
                cases bt with
                | true =>
                  have hin : xt ∈ readsOf l xc xv := by simpa using hbt
                  have HIN := Lib.hid hin
                  clear hbt hin d0 CF
                  go_wp2_with fail
                  go_ret
                  refine ⟨by rw [HN0.out]; rfl, ρ1, ((Tw.of0 (V1.out.trans V2.out)).trans TW5.out).trans (Tw.of0 U6.out), S5.out.hi, fun _ => ⟨cn5, by simpa using hcn5, ?_⟩, fun h => absurd HN0.out h⟩
                  have h1 := S5.out.upd0 U6.out
                  rw [wrote_read l ⟨xt, xc, xv, false⟩ rfl, reads_read l ⟨xt, xc, xv, false⟩ rfl]
                  have he : (fun c => if c = xc then (fun v => if v = xv then addOnce (readsOf l xc xv) xt else readsOf l xc v) else readsOf l c) = readsOf l := by
                    funext c v
                    by_cases e : c = xc
                    · rw [if_pos e]
                      by_cases e2 : v = xv
                      · rw [if_pos e2, e, e2]; unfold addOnce; rw [if_pos HIN.out]
                      · rw [if_neg e2, e]
                    · rw [if_neg e]
                  rw [he]
                  exact h1
                | false =>
                  have hin : xt ∉ readsOf l xc xv := by simpa using hbt
                  have HIN := Lib.hid hin
                  clear hbt hin d0 CF
                  have OW := Lib.hid (own_upd0 OV.out U6.out)
                  have S6 := Lib.hid (S5.out.upd0 U6.out)
                  have X6 := Lib.hid (X5.out.upd U6.out (by simp))
                  have hob : ∀ y, (Value.slice A n c).ownBlock = some y → y < w6.heap.size := fun y hy => (own_lt OW.out hy).2
                  have hrowS : ∀ y ∈ (Value.slice A n c).ownBlock.toList, ρ1 y = .row xc xv := fun y hy => HRO.out y (by simpa using hy)
                  have htb : tb ∉ (Value.slice A n c).ownBlock.toList := fun hm => by have := hrowS _ hm; rw [S6.out.rt] at this; cases this
                  have hxb : w.heap.size ∉ (Value.slice A n c).ownBlock.toList := fun hm => by
                    have h1 := X6.out
                    have := own_type OW.out h1 (by decide)
                    exact this (by simpa using hm)
                  have hbr : b.br ∉ (Value.slice A n c).ownBlock.toList := fun hm => by have := hrowS _ hm; rw [rr0] at this; cases this
                  have hrbn : rb ∉ (Value.slice A n c).ownBlock.toList := fun hm => by have := hrowS _ hm; rw [hrb] at this; cases this
                  have CF : Hid (∀ W, Upd (Value.slice A n c).ownBlock.toList w6.drew W → (W.cell? ⟨tb, 2, none⟩ = some (.map (some b.br)) ∧ W.cell? ⟨w.heap.size, 0, none⟩ = some (.int .i64 xt) ∧ W.cell? ⟨w.heap.size, 1, none⟩ = some (.int .u64 xc) ∧ W.cell? ⟨w.heap.size, 2, none⟩ = some (.int .i64 xv)) ∧ (Instr.lookup 61 (.map (some b.br)) (.int .u64 xc) false).run Tryz.prog W = .ok (.map (some rb)) W) := Lib.hid (fun W hW => by
                    have hu : Upd (Value.slice A n c).ownBlock.toList w6 W := (Upd.refl _ w6).drew.trans hW
                    have hx := X6.out.upd hu hxb
                    refine ⟨⟨(S6.out.tr.upd hu htb).cell 2, hx.cell 0, hx.cell 1, hx.cell 2⟩, ?_⟩
                    rw [run_lookup_int' Tryz.underlying61 Tryz.underlying45 (Tryz.zeroValue63 W) ((IR.out.upd U6.out (by simp)).upd hu hbr) xc, hv0]
                    rfl)
                  go_wp2_with fail
                  refine wp_invT 14 (Value.slice A n c).ownBlock.toList (fun u s W' => KApp w6.heap.size (.slice A n c) B 3 1 (readsOf l xc xv).length ((readsOf l xc xv).map (.int .i64)) ((readsOf l xc xv).length + 1) ((readsOf l xc xv).map (.int .i64) ++ [.int .i64 xt]) 13 u s W') [(13, [13])] [(12, .lit 3 #[.int .i64 xt] 1), (13, appNew w6.heap.size B 3 1 ((readsOf l xc xv).length + 1) ((readsOf l xc xv).map (.int .i64) ++ [.int .i64 xt]))] [] [13] (by kernel_rfl) (by simp) (by kernel_rfl) (by kernel_rfl) (by kernel_rfl) (fun y hy => hob y (by simpa using hy)) ⟨lasts_lit _ _ _, lasts_appNew _ _ _ _ _ _ _ _, trivial⟩ ?_ ?_ ?_ ?_
                  · intro s u u' w1' hag hk
                    exact kapp_congr (fun hs => hag 13 (by simp) rfl (by rw [show ((List.range 13).filter (fun j => [13].contains j)).length = 0 from by decide]; omega) 13 (by simp [conOf])) hk
                  · intro u s w1' w' T hk hu hT
                    exact kapp_lasts hu hT hob s hk
                  · intro u
                    exact own_upd0 OW.out ((Upd.refl [] w6).drew)
                  simp only [List.take_succ_cons, List.take_zero, List.drop_succ_cons, List.drop_zero]
                  with_reducible apply wpV_light
                  · simp only [lightOp]
                  · intro W hU hF
                    have f0 := CF.out W hU
                    clear hU hF
                    go_simp
                    exact rfl
                  simp only [Act.put, List.setIfInBounds_toArray, List.set_cons_zero, List.set_cons_succ]
                  with_reducible apply wpV_light
                  · simp only [lightOp]
                  · intro W hU hF
                    have f0 := CF.out W hU
                    clear hU hF
                    go_simp
                    exact rfl
                  simp only [Act.put, List.setIfInBounds_toArray, List.set_cons_zero, List.set_cons_succ]
                  with_reducible apply wpV_light
                  · simp only [lightOp]
                  · intro W hU hF
                    have f0 := CF.out W hU
                    clear hU hF
                    go_simp
                    exact rfl
                  simp only [Act.put, List.setIfInBounds_toArray, List.set_cons_zero, List.set_cons_succ]
                  with_reducible apply wpV_light
                  · simp only [lightOp]
                  · intro W hU hF
                    have f0 := CF.out W hU
                    clear hU hF
                    go_simp
                    exact rfl
                  simp only [Act.put, List.setIfInBounds_toArray, List.set_cons_zero, List.set_cons_succ]
                  with_reducible apply wpV_light
                  · simp only [lightOp]
                  · intro W hU hF
                    have f0 := CF.out W hU
                    clear hU hF
                    go_simp
                    exact rfl
                  simp only [Act.put, List.setIfInBounds_toArray, List.set_cons_zero, List.set_cons_succ]
                  with_reducible apply wpV_light
                  · simp only [lightOp]
                  · intro W hU hF
                    have f0 := CF.out W hU
                    clear hU hF
                    go_simp
                    exact rfl
                  simp only [Act.put, List.setIfInBounds_toArray, List.set_cons_zero, List.set_cons_succ]
                  with_reducible apply wpV_light
                  · simp only [lightOp]
                  · intro W hU hF
                    have f0 := CF.out W hU
                    clear hU hF
                    go_simp
                    exact rfl
                  simp only [Act.put, List.setIfInBounds_toArray, List.set_cons_zero, List.set_cons_succ]
                  with_reducible apply wpV_light
                  · simp only [lightOp]
                  · intro W hU hF
                    have f0 := CF.out W hU
                    clear hU hF
                    go_simp
                    exact rfl
                  simp only [Act.put, List.setIfInBounds_toArray, List.set_cons_zero, List.set_cons_succ]
                  with_reducible apply wpV_light
                  · simp only [lightOp]
                  · intro W hU hF
                    have f0 := CF.out W hU
                    clear hU hF
                    go_simp
                    exact rfl
                  simp only [Act.put, List.setIfInBounds_toArray, List.set_cons_zero, List.set_cons_succ]
                  with_reducible apply wpV_light
                  · simp only [lightOp]
                  · intro W hU hF
                    have f0 := CF.out W hU
                    clear hU hF
                    go_simp
                    exact rfl
                  simp only [Act.put, List.setIfInBounds_toArray, List.set_cons_zero, List.set_cons_succ]
                  with_reducible apply wpV_light
                  · simp only [lightOp]
                  · intro W hU hF
                    have f0 := CF.out W hU
                    clear hU hF
                    go_simp
                    exact rfl
                  simp only [Act.put, List.setIfInBounds_toArray, List.set_cons_zero, List.set_cons_succ]
                  with_reducible apply wpV_light
                  · simp only [lightOp]
                  · intro W hU hF
                    have f0 := CF.out W hU
                    clear hU hF
                    go_simp
                    exact rfl
                  simp only [Act.put, List.setIfInBounds_toArray, List.set_cons_zero, List.set_cons_succ]
                  refine wpV_heavy (by simp only [lightOp]) (by rfl) (fun W hU hk hF K hK => ?_) ?_
                  · go_wp2_with fail
                    exact wpV_lit hK rfl rfl rfl
                  rintro _ ⟨g6, rfl⟩
                  simp only [Act.put, List.setIfInBounds_toArray, List.set_cons_zero, List.set_cons_succ]
                  refine wpV_heavy (by simp only [lightOp]) (by rfl) (fun W hU hk hF K hK => ?_) ?_
                  · have hk0 := hk rfl
                    obtain ⟨g', he, hbl⟩ := hF.out.1 (by kernel_rfl)
                    injection he with he _ _
                    injection he with he
                    injection he with he
                    subst he
                    have hBW : B ≤ W.heap.size := Nat.le_trans (Nat.le_trans (S6.out.hi tb (by rw [S6.out.rt]; simp)) (Nat.le_of_lt S6.out.tr.lt)) hU.size
                    refine wp_app W (.tmp 86) (.tmp 89) _ (by rfl) int_elem (.slice A n c) _ (by rfl) (by rfl) hk0 (.of_blk hbl (m := 1) 1 rfl) (by intro u hu; simp at hu; subst hu; rfl) (by rw [HNL.out]; simp only [maxLen]; omega) (by rw [HNL.out]; omega) hBW ?_
                    intro v' w' o' u' b'
                    exact hK.out _ _ (outV_appK hU.size hob rfl rfl (by simp) o' u' b')
                  rintro v13 -
                  simp only [Act.put, List.setIfInBounds_toArray, List.set_cons_zero, List.set_cons_succ]
                  refine wpV_end (fun W hU hk hF _ => ?_)
                  obtain ⟨ho, hold⟩ := app_end (n0 := (readsOf l xc xv).length) (xs0 := (readsOf l xc xv).map (.int .i64)) (hF.out.2.1 (by kernel_rfl)) hk rfl
                  have U7 : Hid (Upd (Value.slice A n c).ownBlock.toList w6 W) := Lib.hid ((Upd.refl _ w6).drew.trans hU)
                  have HO7 := Lib.hid ho
                  have HOLD := Lib.hid hold
                  clear hU hk hF ho hold CF
                  obtain ⟨w8, hrun, im, hu8⟩ := run_mapUpdate_int (P := Tryz.prog) Tryz.underlying63 Tryz.underlying3 ((IG.out.upd U6.out (by simp)).upd U7.out hrbn) xv v13
                  refine wpT_op (by rfl) (fun K hK => ?_)
                  go_wp2_with fail
                  refine hK.out _ _ ?_
                  clear hK K hrun
                  refine wpT_end ?_
                  have HIM := Lib.hid im
                  have HU8 := Lib.hid hu8
                  clear im hu8
                  go_wp2_with fail
                  go_ret
                  obtain ⟨ρ2, g1, g2, g3, g4⟩ := rows_put (w := w6) (fun k' => (HALL.out k').imp id (fun ⟨v, h1, h2, h3⟩ => ⟨v, h1, own_upd0 h2 U6.out, h3⟩)) (r := .row xc) (fun a b h => by injection h) (fun a => by rw [hrb]; simp) (Nat.lt_of_lt_of_le IG.out.lt U6.out.size) HRO.out U7.out HO7.out HOLD.out HIM.out HU8.out
                  have hB6 : B ≤ w6.heap.size := Nat.le_trans (S6.out.hi tb (by rw [S6.out.rt]; simp)) (Nat.le_of_lt S6.out.tr.lt)
                  have hhi2 : ∀ y, ρ2 y ≠ .other → B ≤ y := fun y hy => (g2 y hy).elim (S6.out.hi y) (fun h => Nat.le_trans hB6 h)
                  have hs8 := S6.out.setRd (c := xc) (b' := rb) g4 g1 hhi2 (fun y hy => hy.elim (fun e => .inl (by rw [e]; exact hrb)) (fun e => .inr ⟨xv, e⟩)) hrb g3 (fun v f n hf hv => by
                    obtain ⟨_, f', n', h1', _, h3'⟩ := S6.out.rd
                    have e1 := (imap_fun hf (IR.out.upd U6.out (by simp)) xc).symm
                    rw [hv0, hv] at e1
                    cases e1
                    rfl)
                  refine ⟨by rw [HN0.out]; rfl, ρ2, (((Tw.of0 (V1.out.trans V2.out)).trans TW5.out).trans (Tw.of0 U6.out)).trans ⟨g4.mono (fun y hy => .inl (hy.elim (fun e => by rw [e, hrb]; simp) (fun e => by rw [e]; simp))), g1⟩, hhi2, fun _ => ⟨cn5, by simpa using hcn5, ?_⟩, fun h => absurd HN0.out h⟩
                  rw [wrote_read l ⟨xt, xc, xv, false⟩ rfl, reads_read l ⟨xt, xc, xv, false⟩ rfl]
                  have he : (fun c => if c = xc then (fun v => if v = xv then addOnce (readsOf l xc xv) xt else readsOf l xc v) else readsOf l c) = fun c' => if c' = xc then (fun k' => if k' = xv then readsOf l xc xv ++ [xt] else readsOf l xc k') else readsOf l c' := by
                    unfold addOnce
                    rw [if_neg HIN.out]
                  rw [he]
                  exact hs8
              | true =>
                obtain ⟨rw0, fw, nw, iw, dw, ew⟩ := S5.out.wr
                obtain ⟨v0, hv0⟩ : ∃ v, fw xc = some v := by
                  cases h : fw xc with
                  | none => exact absurd (by unfold cellIn; rw [List.map_append]; simp) ((dw xc).1 h)
                  | some v => exact ⟨v, rfl⟩
                obtain ⟨wb, wm, rfl, hwb, ib⟩ := ew xc v0 hv0
                have IW := Lib.hid iw
                have ib' : IMap w5 .i64 wb (fun k => (wroteOf l xc k).map (.int .i64)) wm := ib
                have IB := Lib.hid ib'
                have HNE : Hid (noteE l ⟨xt, xc, xv, true⟩ = if ∃ t, wroteOf l xc xv = some t ∧ t ≠ xt then 7 else 0) := Lib.hid (by rw [HNo.out.note_eq, HB.out]; simp)
                obtain ⟨ww, hww⟩ : ∃ ww, wroteOf l xc xv = ww := ⟨_, rfl⟩
                have HWW := Lib.hid hww
                rw [hww] at HNE
                have CF : Hid (∀ W, Upd [] w5.drew W → (W.cell? ⟨tb, 1, none⟩ = some (.map (some b.bw)) ∧ W.cell? ⟨w.heap.size, 1, none⟩ = some (.int .u64 xc) ∧ W.cell? ⟨w.heap.size, 2, none⟩ = some (.int .i64 xv)) ∧ (Instr.lookup 60 (.map (some b.bw)) (.int .u64 xc) false).run Tryz.prog W = .ok (.map (some wb)) W ∧ (Instr.lookup 59 (.map (some wb)) (.int .i64 xv) true).run Tryz.prog W = .ok (.tuple #[(ww.map (Value.int .i64)).getD (.int .i64 0), .bool (ww.map (Value.int .i64)).isSome]) W) := Lib.hid (fun W hW => by
                  have hu : Upd [] w5 W := (Upd.refl [] w5).drew.trans hW
                  refine ⟨⟨(S5.out.tr.upd hu (by simp)).cell 1, (X5.out.upd hu (by simp)).cell 1, (X5.out.upd hu (by simp)).cell 2⟩, ?_, ?_⟩
                  · rw [run_lookup_int' Tryz.underlying60 Tryz.underlying45 (Tryz.zeroValue59 W) (IW.out.upd hu (by simp)) xc, hv0]
                    rfl
                  · rw [run_lookup_int Tryz.underlying59 Tryz.underlying3 (Tryz.zeroValue3 W) (IB.out.upd hu (by simp)) xv, HWW.out])
                clear ib ib' iw hww
                go_wp2_with fail
                clear e0 e1 e2 e3
                cases ww with
                | none =>
                  refine wp_invN [] [] (by kernel_rfl) (by kernel_rfl) (by kernel_rfl) trivial ?_
                  with_reducible apply wpV_light
                  · simp only [lightOp]
                  · intro W hU hF
                    have f0 := CF.out W hU
                    clear hU hF
                    go_simp
                    exact rfl
                  simp only [Act.put, List.setIfInBounds_toArray, List.set_cons_zero, List.set_cons_succ]
                  with_reducible apply wpV_light
                  · simp only [lightOp]
                  · intro W hU hF
                    have f0 := CF.out W hU
                    clear hU hF
                    go_simp
                    exact rfl
                  simp only [Act.put, List.setIfInBounds_toArray, List.set_cons_zero, List.set_cons_succ]
                  with_reducible apply wpV_light
                  · simp only [lightOp]
                  · intro W hU hF
                    have f0 := CF.out W hU
                    clear hU hF
                    go_simp
                    exact rfl
                  simp only [Act.put, List.setIfInBounds_toArray, List.set_cons_zero, List.set_cons_succ]
                  with_reducible apply wpV_light
                  · simp only [lightOp]
                  · intro W hU hF
                    have f0 := CF.out W hU
                    clear hU hF
                    go_simp
                    exact rfl
                  simp only [Act.put, List.setIfInBounds_toArray, List.set_cons_zero, List.set_cons_succ]
                  with_reducible apply wpV_light
                  · simp only [lightOp]
                  · intro W hU hF
                    have f0 := CF.out W hU
                    clear hU hF
                    go_simp
                    exact rfl
                  simp only [Act.put, List.setIfInBounds_toArray, List.set_cons_zero, List.set_cons_succ]
                  with_reducible apply wpV_light
                  · simp only [lightOp]
                  · intro W hU hF
                    have f0 := CF.out W hU
                    clear hU hF
                    go_simp
                    exact rfl
                  simp only [Act.put, List.setIfInBounds_toArray, List.set_cons_zero, List.set_cons_succ]
                  with_reducible apply wpV_light
                  · simp only [lightOp]
                  · intro W hU hF
                    have f0 := CF.out W hU
                    clear hU hF
                    go_simp
                    exact rfl
                  simp only [Act.put, List.setIfInBounds_toArray, List.set_cons_zero, List.set_cons_succ]
                  with_reducible apply wpV_light
                  · simp only [lightOp]
                  · intro W hU hF
                    have f0 := CF.out W hU
                    clear hU hF
                    go_simp
                    exact rfl
                  simp only [Act.put, List.setIfInBounds_toArray, List.set_cons_zero, List.set_cons_succ]
                  with_reducible apply wpV_light
                  · simp only [lightOp]
                  · intro W hU hF
                    have f0 := CF.out W hU
                    clear hU hF
                    go_simp
                    exact rfl
                  simp only [Act.put, List.setIfInBounds_toArray, List.set_cons_zero, List.set_cons_succ]
                  with_reducible apply wpV_light
                  · simp only [lightOp]
                  · intro W hU hF
                    have f0 := CF.out W hU
                    clear hU hF
                    go_simp
                    exact rfl
                  simp only [Act.put, List.setIfInBounds_toArray, List.set_cons_zero, List.set_cons_succ]
                  with_reducible apply wpV_light
                  · simp only [lightOp]
                  · intro W hU hF
                    have f0 := CF.out W hU
                    clear hU hF
                    go_simp
                    exact rfl
                  simp only [Act.put, List.setIfInBounds_toArray, List.set_cons_zero, List.set_cons_succ]
                  with_reducible apply wpV_light
                  · simp only [lightOp]
                  · intro W hU hF
                    have f0 := CF.out W hU
                    clear hU hF
                    go_simp
                    exact rfl
                  simp only [Act.put, List.setIfInBounds_toArray, List.set_cons_zero, List.set_cons_succ]
                  with_reducible apply wpV_light
                  · simp only [lightOp]
                  · intro W hU hF
                    have f0 := CF.out W hU
                    clear hU hF
                    go_simp
                    exact rfl
                  simp only [Act.put, List.setIfInBounds_toArray, List.set_cons_zero, List.set_cons_succ]
                  with_reducible apply wpV_light
                  · simp only [lightOp]
                  · intro W hU hF
                    have f0 := CF.out W hU
                    clear hU hF
                    go_simp
                    exact rfl
                  simp only [Act.put, List.setIfInBounds_toArray, List.set_cons_zero, List.set_cons_succ]
                  with_reducible apply wpV_light
                  · simp only [lightOp]
                  · intro W hU hF
                    have f0 := CF.out W hU
                    clear hU hF
                    go_simp
                    exact rfl
                  simp only [Act.put, List.setIfInBounds_toArray, List.set_cons_zero, List.set_cons_succ]
                  refine wpV_end (fun w6 hU _ _ _ => ?_)
                  have U6 : Hid (Upd [] w5 w6) := Lib.hid ((Upd.refl [] w5).drew.trans hU)
                  clear hU CF
                  refine wpT_end ?_
                  have S6 := Lib.hid (S5.out.upd0 U6.out)
                  have X6 := Lib.hid (X5.out.upd U6.out (by simp))
                  have d0 : w6.cell? ⟨w.heap.size, 0, none⟩ = some (.int .i64 xt) := X6.out.cell 0
                  have HN0 : Hid (noteE l ⟨xt, xc, xv, true⟩ = 0) := Lib.hid (by rw [HNE.out, if_neg]; rintro ⟨t, h1, h2⟩; first | (cases h1; done) | (cases h1; exact h2 rfl))
                  go_wp2_with fail
                  clear d0
                  have CG : Hid (∀ W, Upd [] w6.drew W → (W.cell? ⟨tb, 1, none⟩ = some (.map (some b.bw)) ∧ W.cell? ⟨w.heap.size, 0, none⟩ = some (.int .i64 xt) ∧ W.cell? ⟨w.heap.size, 1, none⟩ = some (.int .u64 xc) ∧ W.cell? ⟨w.heap.size, 2, none⟩ = some (.int .i64 xv)) ∧ (Instr.lookup 60 (.map (some b.bw)) (.int .u64 xc) false).run Tryz.prog W = .ok (.map (some wb)) W) := Lib.hid (fun W hW => by
                    have hu : Upd [] w6 W := (Upd.refl [] w6).drew.trans hW
                    have hx := X6.out.upd hu (by simp)
                    refine ⟨⟨(S6.out.tr.upd hu (by simp)).cell 1, hx.cell 0, hx.cell 1, hx.cell 2⟩, ?_⟩
                    rw [run_lookup_int' Tryz.underlying60 Tryz.underlying45 (Tryz.zeroValue59 W) ((IW.out.upd U6.out (by simp)).upd hu (by simp)) xc, hv0]
                    rfl)
                  refine wp_invNT 11 [] [] (by kernel_rfl) (by simp) (by kernel_rfl) (by kernel_rfl) trivial ?_
                  simp only [List.take_succ_cons, List.take_zero, List.drop_succ_cons, List.drop_zero]
                  with_reducible apply wpV_light
                  · simp only [lightOp]
                  · intro W hU hF
                    have f0 := CG.out W hU
                    clear hU hF
                    go_simp
                    exact rfl
                  simp only [Act.put, List.setIfInBounds_toArray, List.set_cons_zero, List.set_cons_succ]
                  with_reducible apply wpV_light
                  · simp only [lightOp]
                  · intro W hU hF
                    have f0 := CG.out W hU
                    clear hU hF
                    go_simp
                    exact rfl
                  simp only [Act.put, List.setIfInBounds_toArray, List.set_cons_zero, List.set_cons_succ]
                  with_reducible apply wpV_light
                  · simp only [lightOp]
                  · intro W hU hF
                    have f0 := CG.out W hU
                    clear hU hF
                    go_simp
                    exact rfl
                  simp only [Act.put, List.setIfInBounds_toArray, List.set_cons_zero, List.set_cons_succ]
                  with_reducible apply wpV_light
                  · simp only [lightOp]
                  · intro W hU hF
                    have f0 := CG.out W hU
                    clear hU hF
                    go_simp
                    exact rfl
                  simp only [Act.put, List.setIfInBounds_toArray, List.set_cons_zero, List.set_cons_succ]
                  with_reducible apply wpV_light
                  · simp only [lightOp]
                  · intro W hU hF
                    have f0 := CG.out W hU
                    clear hU hF
                    go_simp
                    exact rfl
                  simp only [Act.put, List.setIfInBounds_toArray, List.set_cons_zero, List.set_cons_succ]
                  with_reducible apply wpV_light
                  · simp only [lightOp]
                  · intro W hU hF
                    have f0 := CG.out W hU
                    clear hU hF
                    go_simp
                    exact rfl
                  simp only [Act.put, List.setIfInBounds_toArray, List.set_cons_zero, List.set_cons_succ]
                  with_reducible apply wpV_light
                  · simp only [lightOp]
                  · intro W hU hF
                    have f0 := CG.out W hU
                    clear hU hF
                    go_simp
                    exact rfl
                  simp only [Act.put, List.setIfInBounds_toArray, List.set_cons_zero, List.set_cons_succ]
                  with_reducible apply wpV_light
                  · simp only [lightOp]
                  · intro W hU hF
                    have f0 := CG.out W hU
                    clear hU hF
                    go_simp
                    exact rfl
                  simp only [Act.put, List.setIfInBounds_toArray, List.set_cons_zero, List.set_cons_succ]
                  with_reducible apply wpV_light
                  · simp only [lightOp]
                  · intro W hU hF
                    have f0 := CG.out W hU
                    clear hU hF
                    go_simp
                    exact rfl
                  simp only [Act.put, List.setIfInBounds_toArray, List.set_cons_zero, List.set_cons_succ]
                  with_reducible apply wpV_light
                  · simp only [lightOp]
                  · intro W hU hF
                    have f0 := CG.out W hU
                    clear hU hF
                    go_simp
                    exact rfl
                  simp only [Act.put, List.setIfInBounds_toArray, List.set_cons_zero, List.set_cons_succ]
                  with_reducible apply wpV_light
                  · simp only [lightOp]
                  · intro W hU hF
                    have f0 := CG.out W hU
                    clear hU hF
                    go_simp
                    exact rfl
                  simp only [Act.put, List.setIfInBounds_toArray, List.set_cons_zero, List.set_cons_succ]
                  refine wpV_end (fun w7 hU _ _ _ => ?_)
                  have U7 : Hid (Upd [] w6 w7) := Lib.hid ((Upd.refl [] w6).drew.trans hU)
                  clear hU CG
                  obtain ⟨w8, hrun, im, hu8⟩ := run_mapUpdate_int (P := Tryz.prog) Tryz.underlying59 Tryz.underlying3 ((IB.out.upd U6.out (by simp)).upd U7.out (by simp)) xv (.int .i64 xt)
                  refine wpT_op (by rfl) (fun K hK => ?_)
                  go_wp2_with fail
                  refine hK.out _ _ ?_
                  clear hK K hrun
                  have HIM := Lib.hid im
                  have HU8 := Lib.hid hu8
                  clear im hu8
                  refine wpT_end ?_
                  go_wp2_with fail
                  go_ret
                  have hs8 := (S6.out.upd0 U7.out).setWr (c := xc) (b' := wb) hwb HU8.out (g := fun v => if v = xv then some xt else wroteOf l xc v) (HIM.out.congr (fun k => by
                    unfold putI
                    by_cases e : k = xv
                    · rw [if_pos e, if_pos e]; rfl
                    · rw [if_neg e, if_neg e])) (fun v f n hf hv => by
                    have e1 := (imap_fun hf ((IW.out.upd U6.out (by simp)).upd U7.out (by simp)) xc).symm
                    rw [hv0, hv] at e1
                    cases e1
                    rfl)
                  refine ⟨by rw [HN0.out]; rfl, ρ1, (((Tw.of0 (V1.out.trans V2.out)).trans TW5.out).trans (Tw.of0 (U6.out.trans U7.out))).trans (Tw.of_upd HU8.out (by intro y hy; simp at hy; subst hy; rw [hwb]; simp)), S6.out.hi, fun _ => ⟨cn5, by simpa using hcn5, ?_⟩, fun h => absurd HN0.out h⟩
                  rw [reads_write l ⟨xt, xc, xv, true⟩ rfl, wrote_write l ⟨xt, xc, xv, true⟩ rfl (by rw [show wroteOf l (Ev.mk xt xc xv true).cell (Ev.mk xt xc xv true).ver = _ from HWW.out]; first | exact .inl rfl | exact .inr rfl)]
                  exact hs8
                | some t =>
                  refine wp_invN [] [] (by kernel_rfl) (by kernel_rfl) (by kernel_rfl) trivial ?_
                  with_reducible apply wpV_light
                  · simp only [lightOp]
                  · intro W hU hF
                    have f0 := CF.out W hU
                    clear hU hF
                    go_simp
                    exact rfl
                  simp only [Act.put, List.setIfInBounds_toArray, List.set_cons_zero, List.set_cons_succ]
                  with_reducible apply wpV_light
                  · simp only [lightOp]
                  · intro W hU hF
                    have f0 := CF.out W hU
                    clear hU hF
                    go_simp
                    exact rfl
                  simp only [Act.put, List.setIfInBounds_toArray, List.set_cons_zero, List.set_cons_succ]
                  with_reducible apply wpV_light
                  · simp only [lightOp]
                  · intro W hU hF
                    have f0 := CF.out W hU
                    clear hU hF
                    go_simp
                    exact rfl
                  simp only [Act.put, List.setIfInBounds_toArray, List.set_cons_zero, List.set_cons_succ]
                  with_reducible apply wpV_light
                  · simp only [lightOp]
                  · intro W hU hF
                    have f0 := CF.out W hU
                    clear hU hF
                    go_simp
                    exact rfl
                  simp only [Act.put, List.setIfInBounds_toArray, List.set_cons_zero, List.set_cons_succ]
                  with_reducible apply wpV_light
                  · simp only [lightOp]
                  · intro W hU hF
                    have f0 := CF.out W hU
                    clear hU hF
                    go_simp
                    exact rfl
                  simp only [Act.put, List.setIfInBounds_toArray, List.set_cons_zero, List.set_cons_succ]
                  with_reducible apply wpV_light
                  · simp only [lightOp]
                  · intro W hU hF
                    have f0 := CF.out W hU
                    clear hU hF
                    go_simp
                    exact rfl
                  simp only [Act.put, List.setIfInBounds_toArray, List.set_cons_zero, List.set_cons_succ]
                  with_reducible apply wpV_light
                  · simp only [lightOp]
                  · intro W hU hF
                    have f0 := CF.out W hU
                    clear hU hF
                    go_simp
                    exact rfl
                  simp only [Act.put, List.setIfInBounds_toArray, List.set_cons_zero, List.set_cons_succ]
                  with_reducible apply wpV_light
                  · simp only [lightOp]
                  · intro W hU hF
                    have f0 := CF.out W hU
                    clear hU hF
                    go_simp
                    exact rfl
                  simp only [Act.put, List.setIfInBounds_toArray, List.set_cons_zero, List.set_cons_succ]
                  with_reducible apply wpV_light
                  · simp only [lightOp]
                  · intro W hU hF
                    have f0 := CF.out W hU
                    clear hU hF
                    go_simp
                    exact rfl
                  simp only [Act.put, List.setIfInBounds_toArray, List.set_cons_zero, List.set_cons_succ]
                  with_reducible apply wpV_light
                  · simp only [lightOp]
                  · intro W hU hF
                    have f0 := CF.out W hU
                    clear hU hF
                    go_simp
                    exact rfl
                  simp only [Act.put, List.setIfInBounds_toArray, List.set_cons_zero, List.set_cons_succ]
                  with_reducible apply wpV_light
                  · simp only [lightOp]
                  · intro W hU hF
                    have f0 := CF.out W hU
                    clear hU hF
                    go_simp
                    exact rfl
                  simp only [Act.put, List.setIfInBounds_toArray, List.set_cons_zero, List.set_cons_succ]
                  with_reducible apply wpV_light
                  · simp only [lightOp]
                  · intro W hU hF
                    have f0 := CF.out W hU
                    clear hU hF
                    go_simp
                    exact rfl
                  simp only [Act.put, List.setIfInBounds_toArray, List.set_cons_zero, List.set_cons_succ]
                  with_reducible apply wpV_light
                  · simp only [lightOp]
                  · intro W hU hF
                    have f0 := CF.out W hU
                    clear hU hF
                    go_simp
                    exact rfl
                  simp only [Act.put, List.setIfInBounds_toArray, List.set_cons_zero, List.set_cons_succ]
                  with_reducible apply wpV_light
                  · simp only [lightOp]
                  · intro W hU hF
                    have f0 := CF.out W hU
                    clear hU hF
                    go_simp
                    exact rfl
                  simp only [Act.put, List.setIfInBounds_toArray, List.set_cons_zero, List.set_cons_succ]
                  with_reducible apply wpV_light
                  · simp only [lightOp]
                  · intro W hU hF
                    have f0 := CF.out W hU
                    clear hU hF
                    go_simp
                    exact rfl
                  simp only [Act.put, List.setIfInBounds_toArray, List.set_cons_zero, List.set_cons_succ]
                  refine wpV_end (fun w6 hU _ _ _ => ?_)
                  have U6 : Hid (Upd [] w5 w6) := Lib.hid ((Upd.refl [] w5).drew.trans hU)
                  clear hU CF
                  refine wpT_end ?_
                  have S6 := Lib.hid (S5.out.upd0 U6.out)
                  have X6 := Lib.hid (X5.out.upd U6.out (by simp))
                  have d0 : w6.cell? ⟨w.heap.size, 0, none⟩ = some (.int .i64 xt) := X6.out.cell 0
                  by_cases htx : t = xt
                  · obtain rfl := htx.symm
                    have HN0 : Hid (noteE l ⟨xt, xc, xv, true⟩ = 0) := Lib.hid (by rw [HNE.out, if_neg]; rintro ⟨t, h1, h2⟩; first | (cases h1; done) | (cases h1; exact h2 rfl))
                    go_wp2_with fail
                    clear d0
                    have CG : Hid (∀ W, Upd [] w6.drew W → (W.cell? ⟨tb, 1, none⟩ = some (.map (some b.bw)) ∧ W.cell? ⟨w.heap.size, 0, none⟩ = some (.int .i64 xt) ∧ W.cell? ⟨w.heap.size, 1, none⟩ = some (.int .u64 xc) ∧ W.cell? ⟨w.heap.size, 2, none⟩ = some (.int .i64 xv)) ∧ (Instr.lookup 60 (.map (some b.bw)) (.int .u64 xc) false).run Tryz.prog W = .ok (.map (some wb)) W) := Lib.hid (fun W hW => by
                      have hu : Upd [] w6 W := (Upd.refl [] w6).drew.trans hW
                      have hx := X6.out.upd hu (by simp)
                      refine ⟨⟨(S6.out.tr.upd hu (by simp)).cell 1, hx.cell 0, hx.cell 1, hx.cell 2⟩, ?_⟩
                      rw [run_lookup_int' Tryz.underlying60 Tryz.underlying45 (Tryz.zeroValue59 W) ((IW.out.upd U6.out (by simp)).upd hu (by simp)) xc, hv0]
                      rfl)
                    refine wp_invNT 11 [] [] (by kernel_rfl) (by simp) (by kernel_rfl) (by kernel_rfl) trivial ?_
                    simp only [List.take_succ_cons, List.take_zero, List.drop_succ_cons, List.drop_zero]
                    with_reducible apply wpV_light
                    · simp only [lightOp]
                    · intro W hU hF
                      have f0 := CG.out W hU
                      clear hU hF
                      go_simp
                      exact rfl
                    simp only [Act.put, List.setIfInBounds_toArray, List.set_cons_zero, List.set_cons_succ]
                    with_reducible apply wpV_light
                    · simp only [lightOp]
                    · intro W hU hF
                      have f0 := CG.out W hU
                      clear hU hF
                      go_simp
                      exact rfl
                    simp only [Act.put, List.setIfInBounds_toArray, List.set_cons_zero, List.set_cons_succ]
                    with_reducible apply wpV_light
                    · simp only [lightOp]
                    · intro W hU hF
                      have f0 := CG.out W hU
                      clear hU hF
                      go_simp
                      exact rfl
                    simp only [Act.put, List.setIfInBounds_toArray, List.set_cons_zero, List.set_cons_succ]
                    with_reducible apply wpV_light
                    · simp only [lightOp]
                    · intro W hU hF
                      have f0 := CG.out W hU
                      clear hU hF
                      go_simp
                      exact rfl
                    simp only [Act.put, List.setIfInBounds_toArray, List.set_cons_zero, List.set_cons_succ]
                    with_reducible apply wpV_light
                    · simp only [lightOp]
                    · intro W hU hF
                      have f0 := CG.out W hU
                      clear hU hF
                      go_simp
                      exact rfl
                    simp only [Act.put, List.setIfInBounds_toArray, List.set_cons_zero, List.set_cons_succ]
                    with_reducible apply wpV_light
                    · simp only [lightOp]
                    · intro W hU hF
                      have f0 := CG.out W hU
                      clear hU hF
                      go_simp
                      exact rfl
                    simp only [Act.put, List.setIfInBounds_toArray, List.set_cons_zero, List.set_cons_succ]
                    with_reducible apply wpV_light
                    · simp only [lightOp]
                    · intro W hU hF
                      have f0 := CG.out W hU
                      clear hU hF
                      go_simp
                      exact rfl
                    simp only [Act.put, List.setIfInBounds_toArray, List.set_cons_zero, List.set_cons_succ]
                    with_reducible apply wpV_light
                    · simp only [lightOp]
                    · intro W hU hF
                      have f0 := CG.out W hU
                      clear hU hF
                      go_simp
                      exact rfl
                    simp only [Act.put, List.setIfInBounds_toArray, List.set_cons_zero, List.set_cons_succ]
                    with_reducible apply wpV_light
                    · simp only [lightOp]
                    · intro W hU hF
                      have f0 := CG.out W hU
                      clear hU hF
                      go_simp
                      exact rfl
                    simp only [Act.put, List.setIfInBounds_toArray, List.set_cons_zero, List.set_cons_succ]
                    with_reducible apply wpV_light
                    · simp only [lightOp]
                    · intro W hU hF
                      have f0 := CG.out W hU
                      clear hU hF
                      go_simp
                      exact rfl
                    simp only [Act.put, List.setIfInBounds_toArray, List.set_cons_zero, List.set_cons_succ]
                    with_reducible apply wpV_light
                    · simp only [lightOp]
                    · intro W hU hF
                      have f0 := CG.out W hU
                      clear hU hF
                      go_simp
                      exact rfl
                    simp only [Act.put, List.setIfInBounds_toArray, List.set_cons_zero, List.set_cons_succ]
                    refine wpV_end (fun w7 hU _ _ _ => ?_)
                    have U7 : Hid (Upd [] w6 w7) := Lib.hid ((Upd.refl [] w6).drew.trans hU)
                    clear hU CG
                    obtain ⟨w8, hrun, im, hu8⟩ := run_mapUpdate_int (P := Tryz.prog) Tryz.underlying59 Tryz.underlying3 ((IB.out.upd U6.out (by simp)).upd U7.out (by simp)) xv (.int .i64 xt)
                    refine wpT_op (by rfl) (fun K hK => ?_)
                    go_wp2_with fail
                    refine hK.out _ _ ?_
                    clear hK K hrun
                    have HIM := Lib.hid im
                    have HU8 := Lib.hid hu8
                    clear im hu8
                    refine wpT_end ?_
                    go_wp2_with fail
                    go_ret
                    have hs8 := (S6.out.upd0 U7.out).setWr (c := xc) (b' := wb) hwb HU8.out (g := fun v => if v = xv then some xt else wroteOf l xc v) (HIM.out.congr (fun k => by
                      unfold putI
                      by_cases e : k = xv
                      · rw [if_pos e, if_pos e]; rfl
                      · rw [if_neg e, if_neg e])) (fun v f n hf hv => by
                      have e1 := (imap_fun hf ((IW.out.upd U6.out (by simp)).upd U7.out (by simp)) xc).symm
                      rw [hv0, hv] at e1
                      cases e1
                      rfl)
                    refine ⟨by rw [HN0.out]; rfl, ρ1, (((Tw.of0 (V1.out.trans V2.out)).trans TW5.out).trans (Tw.of0 (U6.out.trans U7.out))).trans (Tw.of_upd HU8.out (by intro y hy; simp at hy; subst hy; rw [hwb]; simp)), S6.out.hi, fun _ => ⟨cn5, by simpa using hcn5, ?_⟩, fun h => absurd HN0.out h⟩
                    rw [reads_write l ⟨xt, xc, xv, true⟩ rfl, wrote_write l ⟨xt, xc, xv, true⟩ rfl (by rw [show wroteOf l (Ev.mk xt xc xv true).cell (Ev.mk xt xc xv true).ver = _ from HWW.out]; first | exact .inl rfl | exact .inr rfl)]
                    exact hs8
                  · have htb : (t == xt) = false := by simpa using htx
                    have HN7 : Hid (noteE l ⟨xt, xc, xv, true⟩ = 7) := Lib.hid (by rw [HNE.out, if_pos ⟨t, rfl, htx⟩])
                    go_wp2_with fail
                    go_ret
                    exact ⟨by rw [HN7.out]; rfl, ρ1, ((Tw.of0 (V1.out.trans V2.out)).trans TW5.out).trans (Tw.of0 U6.out), S6.out.hi, fun h => by rw [HN7.out] at h; omega, fun _ => ⟨S6.out.tr, S6.out.rt⟩⟩
end Go.Proofs.YteddiknlcdbhjaaGreat.Vk

namespace Go.Proofs.YteddiknlcdbhjaaGreat
open Go.RowKit TrP
attribute [local go_sem] litStep_value

theorem find_at {α : Type} {p : α → Bool} : ∀ {l : List α} {j : Nat} {x : α}, l[j]? = some x → p x = true → (∀ y ∈ l.take j, p y = false) → l.find? p = some x
  | [], j, x, h, _, _ => by simp at h
  | a :: l, 0, x, h, hp, _ => by
    simp at h; subst h
    rw [List.find?_cons, hp]
  | a :: l, j + 1, x, h, hp, hn => by
    rw [List.find?_cons, hn a (by simp)]
    exact find_at (by simpa using h) hp (fun y hy => hn y (by simp [hy]))
theorem take_snoc_all {α : Type} {Q : α → Prop} {l : List α} {j : Nat} {x : α} (hx : l[j]? = some x) (h : ∀ y ∈ l.take j, Q y) (hq : Q x) : ∀ y ∈ l.take (j + 1), Q y := by
  intro y hy
  rw [List.take_add_one, hx] at hy
  rcases List.mem_append.1 hy with hy | hy
  · exact h y hy
  · simp at hy; subst hy; exact hq
def WriterR (l : List Ev) (c v r : Int) : Prop := (∃ (i : Nat) (x : Ev), r = (i : Int) ∧ l[i]? = some x ∧ wroteOf l c v = some x.txn) ∨ (r = -1 ∧ wroteOf l c v = none)
def WriterPost (l : List Ev) (c v : Int) (w : World) (e : Ending) (w' : World) : Prop := ∃ r, e = .returned (.int .i64 r) ∧ WriterR l c v r ∧ w = w'
set_option maxRecDepth 100000 in
set_option maxHeartbeats 1000000 in
theorem r_writer (A : Option Addr) (n k : Nat) (l : List Ev) (c v : Int) (w : World) (h : Rd encEv w (.slice A n k) l) (hn : l.length = n) (hl : n ≤ 1000) :
    Calls Tryz.prog 20 #[.slice A n k, .int .u64 c, .int .i64 v] w fun e w' => WriterPost l c v w e w' := by
  have H := Lib.hid h
  have HN := Lib.hid hn
  clear h hn
  go_enter Tryz.func20, Tryz.ntmps20
  go_wp2_with fail
  go_loop [7] (fun u => ∃ j : Nat, u = .int .i64 j ∧ j ≤ n ∧ Hid (∀ y ∈ l.take j, writes c v y = false)) (fun u => n - (intOf u).toNat)
  case atStart => exact ⟨0, rfl, by omega, Lib.hid (by simp)⟩
  case round =>
    obtain ⟨j, rfl, hj, HA⟩ := hrel
    by_cases hjn : j < n
    · obtain ⟨⟨xt, xc, xv, xw⟩, hx⟩ : ∃ x, l[j]? = some x := ⟨_, List.getElem?_eq_getElem (by rw [HN.out]; omega)⟩
      obtain ⟨ad, rfl, hb, hc⟩ := H.out.at_ hx
      have f1 : w.cell? ⟨(ad.add (j * 4)).block, (ad.add (j * 4)).off + 1, none⟩ = some (.int .u64 xc) := by rw [← add_more]; exact hc 1 _ rfl
      have f2 : w.cell? ⟨(ad.add (j * 4)).block, (ad.add (j * 4)).off + 2, none⟩ = some (.int .i64 xv) := by rw [← add_more]; exact hc 2 _ rfl
      have f3 : w.cell? ⟨(ad.add (j * 4)).block, (ad.add (j * 4)).off + 3, none⟩ = some (.bool xw) := by rw [← add_more]; exact hc 3 _ rfl
      have HX := Lib.hid hx
      have q3 : (0 : Int) ≤ (j : Int) := by omega
      have q4 : (j : Int) < (n : Int) := by omega
      clear hx hc
      obtain ⟨t, ht⟩ : ∃ t, writes c v ⟨xt, xc, xv, xw⟩ = t := ⟨_, rfl⟩
      have HT := Lib.hid ht
      clear ht
      cases xw with
      | false =>
        have HZ : Hid (∀ y ∈ l.take (j + 1), writes c v y = false) := Lib.hid (take_snoc_all HX.out HA.out (by unfold writes; simp [HX]))
        go_wp2_with fail
        go_round
        case rel => exact ⟨j + 1, by go_num, by omega, HZ⟩
        case measure => simp [intOf]; omega
      | true =>
        by_cases h1 : xc = c
        · by_cases h2 : xv = v
          · subst h1 h2
            go_wp2_with fail
            go_ret
            exact ⟨_, rfl, .inl ⟨j, _, rfl, HX.out, by unfold wroteOf; rw [find_at HX.out (by simp [writes]) HA.out]; rfl⟩, rfl⟩
          · have d2 : (xv == v) = false := by simpa using h2
            have HZ : Hid (∀ y ∈ l.take (j + 1), writes c v y = false) := Lib.hid (take_snoc_all HX.out HA.out (by unfold writes; simp [h2]))
            go_wp2_with fail
            go_round
            case rel => exact ⟨j + 1, by go_num, by omega, HZ⟩
            case measure => simp [intOf]; omega
        · have d1 : (xc == c) = false := by simpa using h1
          have HZ : Hid (∀ y ∈ l.take (j + 1), writes c v y = false) := Lib.hid (take_snoc_all HX.out HA.out (by unfold writes; simp [h1]))
          go_wp2_with fail
          go_round
          case rel => exact ⟨j + 1, by go_num, by omega, HZ⟩
          case measure => simp [intOf]; omega
    · have : j = n := by omega
      subst this
      go_wp2_with fail
      go_ret
      refine ⟨_, rfl, .inr ⟨rfl, ?_⟩, rfl⟩
      have h1 := HA.out
      rw [List.take_of_length_le (by rw [HN.out]; exact Nat.le_refl _)] at h1
      unfold wroteOf
      rw [List.find?_eq_none.2 (fun x hx => by rw [h1 x hx]; simp)]
      rfl
theorem upd_drewN (w : World) (n : Nat) : Upd [] w (w.drewN n) := (Upd.refl [] w).drewN n
/-- The best so far, and where it stands. -/
def BestAt (l : List Ev) (c v : Int) (j : Nat) (r : Int) : Prop := (r = -1 ∧ bestN (l.take j) c v = none) ∨ ∃ (i : Nat) (x : Ev), r = (i : Int) ∧ i < j ∧ l[i]? = some x ∧ bestN (l.take j) c v = some x
theorem bestN_snoc {l : List Ev} {c v : Int} {j : Nat} {x : Ev} (hx : l[j]? = some x) : bestN (l.take (j + 1)) c v = bestS c v (bestN (l.take j) c v) x := by
  rw [List.take_add_one, hx]
  unfold bestN
  rw [List.foldl_append]
  rfl
set_option maxRecDepth 100000 in
set_option maxHeartbeats 2000000 in
theorem r_next (A : Option Addr) (n k : Nat) (l : List Ev) (c v : Int) (w : World) (h : Rd encEv w (.slice A n k) l) (hn : l.length = n) (hl : n ≤ 1000) :
    Calls Tryz.prog 44 #[.slice A n k, .int .u64 c, .int .i64 v] w fun e w' => e = .returned (.int .i64 (nextR l c v)) ∧ Upd [] w w' := by
  have H := Lib.hid h
  have HN := Lib.hid hn
  clear h hn
  go_enter Tryz.func44, Tryz.ntmps44
  go_wp2_with fail
  go_loopw [7, 8] (fun r u wr => ∃ (b : Int) (j : Nat), r = .int .i64 b ∧ u = .int .i64 j ∧ j ≤ n ∧ Hid (BestAt l c v j b) ∧ Hid (Upd [] w wr)) (fun r u _ => n - (intOf u).toNat)
  case atStart => exact ⟨-1, 0, rfl, rfl, by omega, Lib.hid (.inl ⟨rfl, rfl⟩), Lib.hid (.refl _ _)⟩
  case round =>
    obtain ⟨b, j, rfl, rfl, hj, HA, U1⟩ := hrel
    by_cases hjn : j < n
    · obtain ⟨⟨xt, xc, xv, xw⟩, hx⟩ : ∃ x, l[j]? = some x := ⟨_, List.getElem?_eq_getElem (by rw [HN.out]; omega)⟩
      have H1 := Lib.hid (H.out.upd0 U1.out)
      obtain ⟨ad, rfl, hb, hc⟩ := H1.out.at_ hx
      have f1 : wr.cell? ⟨(ad.add (j * 4)).block, (ad.add (j * 4)).off + 1, none⟩ = some (.int .u64 xc) := by rw [← add_more]; exact hc 1 _ rfl
      have f2 : wr.cell? ⟨(ad.add (j * 4)).block, (ad.add (j * 4)).off + 2, none⟩ = some (.int .i64 xv) := by rw [← add_more]; exact hc 2 _ rfl
      have f3 : wr.cell? ⟨(ad.add (j * 4)).block, (ad.add (j * 4)).off + 3, none⟩ = some (.bool xw) := by rw [← add_more]; exact hc 3 _ rfl
      have HX := Lib.hid hx
      have q3 : (0 : Int) ≤ (j : Int) := by omega
      have q4 : (j : Int) < (n : Int) := by omega
      have BS := Lib.hid (bestN_snoc (c := c) (v := v) hx)
      clear hx hc
      cases xw with
      | false =>
        have HZ : Hid (BestAt l c v (j + 1) b) := Lib.hid (by
          unfold BestAt
          rw [BS.out]
          have hb0 := HA.out
          unfold bestS
          rw [if_neg (by simp [HX])]
          rcases hb0 with ⟨e1, e2⟩ | ⟨i, y, e1, e2, e3, e4⟩
          · exact .inl ⟨e1, e2⟩
          · exact .inr ⟨i, y, e1, by omega, e3, e4⟩)
        go_wp2_with fail
        go_quiet (fail)
        go_wp2_with fail
        go_roundw
        case rel => exact ⟨b, j + 1, rfl, by go_num, by omega, HZ, Lib.hid (U1.out.trans (upd_drewN _ _))⟩
        case measure => simp [intOf]; omega
      | true =>
        by_cases h1 : xc = c
        · obtain rfl := h1.symm
          by_cases h2 : v < xv
          · rcases HA.out with ⟨rfl, e2⟩ | ⟨i, y, rfl, e2, e3, e4⟩
            · have HZ : Hid (BestAt l c v (j + 1) j) := Lib.hid (by
                refine .inr ⟨j, _, rfl, by omega, HX.out, ?_⟩
                rw [BS.out, e2]
                unfold bestS
                rw [if_pos ⟨rfl, rfl, h2, by simp⟩])
              clear e2
              go_wp2_with fail
              go_quiet (fail)
              go_wp2_with fail
              go_roundw
              case rel => exact ⟨j, j + 1, rfl, by go_num, by omega, HZ, Lib.hid (U1.out.trans (upd_drewN _ _))⟩
              case measure => simp [intOf]; omega
            · obtain ⟨yt, yc, yv, yw⟩ := y
              obtain ⟨ad', ea, hb', hc'⟩ := H1.out.at_ e3
              injection ea with ea
              subst ea
              have g2 : wr.cell? ⟨(ad.add (i * 4)).block, (ad.add (i * 4)).off + 2, none⟩ = some (.int .i64 yv) := by rw [← add_more]; exact hc' 2 _ rfl
              have E3 := Lib.hid e3
              have E4 := Lib.hid e4
              have r1 : (0 : Int) ≤ (i : Int) := by omega
              have r2 : (i : Int) < (n : Int) := by omega
              have r3 : ¬ (i : Int) < 0 := by omega
              clear hc' e3 e4
              by_cases h3 : xv < yv
              · have HZ : Hid (BestAt l c v (j + 1) j) := Lib.hid (by
                  refine .inr ⟨j, _, rfl, by omega, HX.out, ?_⟩
                  rw [BS.out, E4.out]
                  unfold bestS
                  rw [if_pos ⟨rfl, rfl, h2, by intro z hz; cases hz; exact h3⟩])
                go_wp2_with fail
                go_quiet (fail)
                go_wp2_with fail
                go_roundw
                case rel => exact ⟨j, j + 1, rfl, by go_num, by omega, HZ, Lib.hid (U1.out.trans (upd_drewN _ _))⟩
                case measure => simp [intOf]; omega
              · have HZ : Hid (BestAt l c v (j + 1) i) := Lib.hid (by
                  refine .inr ⟨i, _, rfl, by omega, E3.out, ?_⟩
                  rw [BS.out, E4.out]
                  unfold bestS
                  rw [if_neg (by rintro ⟨_, _, _, h⟩; exact h3 (h _ rfl))])
                go_wp2_with fail
                go_quiet (fail)
                go_wp2_with fail
                go_roundw
                case rel => exact ⟨i, j + 1, rfl, by go_num, by omega, HZ, Lib.hid (U1.out.trans (upd_drewN _ _))⟩
                case measure => simp [intOf]; omega
          · have d2 : decide (v < xv) = false := by simpa using h2
            have d3 : xv ≤ v := by omega
            have HZ : Hid (BestAt l c v (j + 1) b) := Lib.hid (by
              unfold BestAt
              rw [BS.out]
              have hb0 := HA.out
              unfold bestS
              rw [if_neg (by simp [h2])]
              rcases hb0 with ⟨e1, e2⟩ | ⟨i, y, e1, e2, e3, e4⟩
              · exact .inl ⟨e1, e2⟩
              · exact .inr ⟨i, y, e1, by omega, e3, e4⟩)
            go_wp2_with fail
            go_quiet (fail)
            go_wp2_with fail
            go_roundw
            case rel => exact ⟨b, j + 1, rfl, by go_num, by omega, HZ, Lib.hid (U1.out.trans (upd_drewN _ _))⟩
            case measure => simp [intOf]; omega
        · have d1 : (xc == c) = false := by simpa using h1
          have HZ : Hid (BestAt l c v (j + 1) b) := Lib.hid (by
            unfold BestAt
            rw [BS.out]
            have hb0 := HA.out
            unfold bestS
            rw [if_neg (by simp [h1])]
            rcases hb0 with ⟨e1, e2⟩ | ⟨i, y, e1, e2, e3, e4⟩
            · exact .inl ⟨e1, e2⟩
            · exact .inr ⟨i, y, e1, by omega, e3, e4⟩)
          go_wp2_with fail
          go_quiet (fail)
          go_wp2_with fail
          go_roundw
          case rel => exact ⟨b, j + 1, rfl, by go_num, by omega, HZ, Lib.hid (U1.out.trans (upd_drewN _ _))⟩
          case measure => simp [intOf]; omega
    · have : j = n := by omega
      subst this
      have HE := HA.out
      unfold BestAt at HE
      rw [List.take_of_length_le (by rw [HN.out]; exact Nat.le_refl _)] at HE
      rcases HE with ⟨rfl, e2⟩ | ⟨i, y, rfl, e2, e3, e4⟩
      · have HR : Hid (nextR l c v = -1) := Lib.hid (by unfold nextR; rw [e2])
        clear e2
        go_wp2_with fail
        go_ret
        exact ⟨by rw [HR.out]; rfl, U1.out⟩
      · have HR : Hid (nextR l c v = y.txn) := Lib.hid (by unfold nextR; rw [e4])
        obtain ⟨yt, yc, yv, yw⟩ := y
        obtain ⟨ad', ea, hb', hc'⟩ := (H.out.upd0 U1.out).at_ e3
        subst ea
        have g2 : wr.cell? (ad'.add (i * 4)) = some (.int .i64 yt) := hc' 0 _ rfl
        have r1 : (0 : Int) ≤ (i : Int) := by omega
        have r2 : (i : Int) < (j : Int) := by omega
        have r3 : ¬ (i : Int) < 0 := by omega
        clear hc' e3 e4
        go_wp2_with fail
        go_ret
        exact ⟨by rw [HR.out]; rfl, U1.out⟩
end Go.Proofs.YteddiknlcdbhjaaGreat

namespace Go.Proofs.YteddiknlcdbhjaaGreat
open Go.RowKit TrP
attribute [local go_sem] litStep_value

theorem notesE_step {l : List Ev} {i : Nat} {x : Ev} (hx : l[i]? = some x) (hz : noteE (l.take i) x = 0) : notesE (l.take i) (l.drop i) = notesE (l.take (i + 1)) (l.drop (i + 1)) := by
  have hi := (List.getElem?_eq_some_iff.1 hx).1
  have e : l.drop i = x :: l.drop (i + 1) := by
    rw [List.drop_eq_getElem_cons hi]
    congr 1
    exact (List.getElem?_eq_some_iff.1 hx).2
  rw [e]
  conv => lhs; unfold notesE
  rw [if_neg (by simpa using hz), List.take_add_one, hx]
  rfl
theorem notesE_stop {l : List Ev} {i : Nat} {x : Ev} (hx : l[i]? = some x) {r : Int} (hr : noteE (l.take i) x = r) (hz : r ≠ 0) : notesE (l.take i) (l.drop i) = (r, (i : Int) + 1) := by
  have hi := (List.getElem?_eq_some_iff.1 hx).1
  have e : l.drop i = x :: l.drop (i + 1) := by
    rw [List.drop_eq_getElem_cons hi]
    congr 1
    exact (List.getElem?_eq_some_iff.1 hx).2
  rw [e]
  unfold notesE
  rw [if_pos (by rw [hr]; exact hz), hr, List.length_take, Nat.min_eq_left (by omega)]
theorem lostE_step {l : List Ev} {i : Nat} {x : Ev} (hx : l[i]? = some x) : lostE l i (l.drop i) = if lostB l x = true then (6, (i : Int) + 1) else lostE l (i + 1) (l.drop (i + 1)) := by
  have hi := (List.getElem?_eq_some_iff.1 hx).1
  have e : l.drop i = x :: l.drop (i + 1) := by
    rw [List.drop_eq_getElem_cons hi]
    congr 1
    exact (List.getElem?_eq_some_iff.1 hx).2
  rw [e]
  rfl
set_option maxRecDepth 100000 in
set_option maxHeartbeats 4000000 in
theorem r_wrong (A : Option Addr) (n k : Nat) (l : List Ev) (w : World) (h : Rd encEv w (.slice A n k) l) (hn : l.length = n) (hl : n ≤ 60) :
    Calls Tryz.prog 8 #[.slice A n k] w fun e w' => e = .returned (.tuple #[.int .i64 (wrongE l).1, .int .i64 (wrongE l).2]) ∧ Upd [] w w' := by
  have H := Lib.hid h
  have HN := Lib.hid hn
  clear h hn
  go_enter Tryz.func8, Tryz.ntmps8
  have q0 : ¬ (500 : Int) < (n : Int) := by omega
  have q0' : decide ((500 : Int) < (n : Int)) = false := by simp; omega
  go_wp2_with fail
  clear q0 q0'
  go_loopw [4] (fun u wr => ∃ i : Nat, u = .int .i64 i ∧ i ≤ n ∧ Hid (notesE [] l = notesE (l.take i) (l.drop i)) ∧ Hid (Upd [] w wr)) (fun u _ => n - (intOf u).toNat)
  case atStart => exact ⟨0, rfl, by omega, Lib.hid rfl, Lib.hid (.refl _ _)⟩
  case round =>
    obtain ⟨i, rfl, hi, HA, U1⟩ := hrel
    have q3 : (0 : Int) ≤ (i : Int) := by omega
    by_cases hin : i < n
    · obtain ⟨⟨xt, xc, xv, xw⟩, hx⟩ : ∃ x, l[i]? = some x := ⟨_, List.getElem?_eq_getElem (by rw [HN.out]; omega)⟩
      have H1 := Lib.hid (H.out.upd0 U1.out)
      obtain ⟨ad, rfl, hb, hc⟩ := H1.out.at_ hx
      have HX := Lib.hid hx
      have q4 : (i : Int) < (n : Int) := by omega
      have FX : Hid (∀ W, Upd [] wr W → W.cell? (ad.add (i * 4)) = some (.int .i64 xt) ∧ W.cell? ⟨(ad.add (i * 4)).block, (ad.add (i * 4)).off + 1, none⟩ = some (.int .u64 xc) ∧ W.cell? ⟨(ad.add (i * 4)).block, (ad.add (i * 4)).off + 2, none⟩ = some (.int .i64 xv) ∧ W.cell? ⟨(ad.add (i * 4)).block, (ad.add (i * 4)).off + 3, none⟩ = some (.bool xw)) := Lib.hid (fun W hW => by
        obtain ⟨ad', ea, _, hc'⟩ := (H1.out.upd0 hW).at_ HX.out
        injection ea with ea
        subst ea
        exact ⟨hc' 0 _ rfl, by rw [← add_more]; exact hc' 1 _ rfl, by rw [← add_more]; exact hc' 2 _ rfl, by rw [← add_more]; exact hc' 3 _ rfl⟩)
      clear hx hc
      go_upto_region 6 with fail
      go_cut [44] from 16 to 44 (fun t wx => ∃ bt, t = .bool bt ∧ Hid (argB ⟨xt, xc, xv, xw⟩ = bt) ∧ wr = wx)
      case first =>
        obtain ⟨f0, f1, f2, f3⟩ := FX.out wr (.refl _ _)
        clear f1
        by_cases a0 : xt < 0
        · have d0 : decide (xt < 0) = true := by simpa using a0
          go_wp2_with fail
          go_meet
          exact ⟨_, rfl, Lib.hid (by simp [argB, a0]), rfl⟩
        · have d0 : decide (xt < 0) = false := by simpa using a0
          by_cases a1 : xv < 0
          · have d1 : decide (xv < 0) = true := by simpa using a1
            go_wp2_with fail
            go_meet
            exact ⟨_, rfl, Lib.hid (by simp [argB, a1]), rfl⟩
          · have d1 : decide (xv < 0) = false := by simpa using a1
            cases xw with
            | false =>
              go_wp2_with fail
              go_meet
              exact ⟨_, rfl, Lib.hid (by simp [argB, d0, d1]), rfl⟩
            | true =>
              go_wp2_with fail
              go_meet
              exact ⟨_, rfl, Lib.hid (by simp only [argB, d0, d1]; rfl), rfl⟩
      case rest =>
        obtain ⟨bt, rfl, HB, rfl⟩ := hcut
        cases bt with
        | true =>
          have HE : Hid (wrongE l = (2, (i : Int) + 1)) := Lib.hid (by
            have h1 : notesE [] l = (2, (i : Int) + 1) := HA.out.trans (notesE_stop HX.out (by unfold noteE; rw [HB.out]; rfl) (by omega))
            unfold wrongE
            rw [h1]
            rfl)
          clear FX
          go_wp2_with fail
          go_ret2
          exact ⟨by rw [HE.out]; rfl, U1.out⟩
        | false =>
          go_wp2_with fail
          go_loopw [5] (fun u wk => ∃ j : Nat, u = .int .i64 j ∧ j ≤ i ∧ Hid (∀ y ∈ l.take j, hits y ⟨xt, xc, xv, xw⟩ = false) ∧ Hid (Upd [] wr wk)) (fun u _ => i - (intOf u).toNat)
          case atStart => exact ⟨0, rfl, by omega, Lib.hid (by simp), Lib.hid (.refl _ _)⟩
          case round =>
            obtain ⟨j, rfl, hj, HH, U2⟩ := hrel
            have r3 : (0 : Int) ≤ (j : Int) := by omega
            rename World => wk
            by_cases hji : j < i
            · obtain ⟨⟨yt, yc, yv, yw⟩, hy⟩ : ∃ x, l[j]? = some x := ⟨_, List.getElem?_eq_getElem (by rw [HN.out]; omega)⟩
              have HY := Lib.hid hy
              have FY : Hid (∀ W, Upd [] wr W → W.cell? (ad.add (j * 4)) = some (.int .i64 yt) ∧ W.cell? ⟨(ad.add (j * 4)).block, (ad.add (j * 4)).off + 1, none⟩ = some (.int .u64 yc) ∧ W.cell? ⟨(ad.add (j * 4)).block, (ad.add (j * 4)).off + 2, none⟩ = some (.int .i64 yv) ∧ W.cell? ⟨(ad.add (j * 4)).block, (ad.add (j * 4)).off + 3, none⟩ = some (.bool yw)) := Lib.hid (fun W hW => by
                obtain ⟨ad', ea, _, hc'⟩ := (H1.out.upd0 hW).at_ HY.out
                injection ea with ea
                subst ea
                exact ⟨hc' 0 _ rfl, by rw [← add_more]; exact hc' 1 _ rfl, by rw [← add_more]; exact hc' 2 _ rfl, by rw [← add_more]; exact hc' 3 _ rfl⟩)
              have r4 : (j : Int) < (i : Int) := by omega
              have r5 : (j : Int) < (n : Int) := by omega
              clear hy
              go_upto_region 11 with fail
              go_cut [102] from 52 to 102 (fun t wx => ∃ bt, t = .bool bt ∧ Hid (hits ⟨yt, yc, yv, yw⟩ ⟨xt, xc, xv, xw⟩ = bt) ∧ Hid (Upd [] wr wx))
              case first =>
                obtain ⟨f0, f1, f2, f3⟩ := FX.out wk U2.out
                obtain ⟨g0, g1, g2, g3⟩ := FY.out wk U2.out
                cases xw with
                | false =>
                  go_wp2_with fail
                  go_quiet (fail)
                  go_wp2_with fail
                  go_meet
                  exact ⟨_, rfl, Lib.hid (by by_cases e : xt = yt <;> simp [hits, e, HB]), Lib.hid (U2.out.drewN _)⟩
                | true =>
                  cases yw with
                  | false =>
                    go_wp2_with fail
                    go_quiet (fail)
                    go_wp2_with fail
                    go_meet
                    exact ⟨_, rfl, Lib.hid (by by_cases e : xt = yt <;> simp [hits, e, HB]), Lib.hid (U2.out.drewN _)⟩
                  | true =>
                    by_cases a0 : xc = yc
                    · have d0 : (xc == yc) = true := by simpa using a0
                      by_cases a1 : xv = yv
                      · have d1 : (xv == yv) = true := by simpa using a1
                        go_wp2_with fail
                        go_quiet (fail)
                        go_wp2_with fail
                        go_meet
                        exact ⟨_, rfl, Lib.hid (by by_cases e : xt = yt <;> simp [hits, e, a0, a1]), Lib.hid (U2.out.drewN _)⟩
                      · have d1 : (xv == yv) = false := by simpa using a1
                        go_wp2_with fail
                        go_quiet (fail)
                        go_wp2_with fail
                        go_meet
                        exact ⟨_, rfl, Lib.hid (by by_cases e : xt = yt <;> simp [hits, e, a0, a1]), Lib.hid (U2.out.drewN _)⟩
                    · have d0 : (xc == yc) = false := by simpa using a0
                      go_wp2_with fail
                      go_quiet (fail)
                      go_wp2_with fail
                      go_meet
                      exact ⟨_, rfl, Lib.hid (by by_cases e : xt = yt <;> simp [hits, e, a0]), Lib.hid (U2.out.drewN _)⟩
              case rest =>
                obtain ⟨bt, rfl, HT, U3⟩ := hcut
                clear FY
                cases bt with
                | true =>
                  have HE : Hid (wrongE l = (7, (i : Int) + 1)) := Lib.hid (by
                    have h1 : notesE [] l = (7, (i : Int) + 1) := HA.out.trans (notesE_stop HX.out (by
                      unfold noteE
                      rw [HB.out, if_neg (by simp), if_pos]
                      exact List.any_eq_true.2 ⟨_, List.mem_take_iff_getElem.2 ⟨j, (by have := HN.out; omega), (List.getElem?_eq_some_iff.1 HY.out).2⟩, HT.out⟩) (by omega))
                    unfold wrongE
                    rw [h1]
                    rfl)
                  go_wp2_with fail
                  go_ret2
                  exact ⟨by rw [HE.out]; rfl, U1.out.trans U3.out⟩
                | false =>
                  have HZ : Hid (∀ y ∈ l.take (j + 1), hits y ⟨xt, xc, xv, xw⟩ = false) := Lib.hid (take_snoc_all HY.out HH.out HT.out)
                  go_wp2_with fail
                  go_roundw
                  case rel => exact ⟨j + 1, by go_num, by omega, HZ, U3⟩
                  case measure => simp [intOf]; omega
            · have : j = i := by omega
              subst this
              have HE : Hid (notesE [] l = notesE (l.take (j + 1)) (l.drop (j + 1))) := Lib.hid (HA.out.trans (notesE_step HX.out (by
                unfold noteE
                rw [HB.out, if_neg (by simp), if_neg]
                intro h
                obtain ⟨y, hy, hh⟩ := List.any_eq_true.1 h
                rw [HH.out y hy] at hh
                cases hh)))
              go_wp2_with fail
              go_roundw
              case rel => exact ⟨j + 1, by go_num, by omega, HE, Lib.hid (U1.out.trans U2.out)⟩
              case measure => simp [intOf]; omega
    · have : i = n := by omega
      subst this
      have HZ : Hid ((notesE [] l).1 = 0) := Lib.hid (by
        rw [HA.out, List.drop_of_length_le (by rw [HN.out]; exact Nat.le_refl _)]
        rfl)
      have HNo : Hid (Noted l) := Lib.hid ((notesE_ok Noted.nil rfl).1.1 HZ.out)
      have HE : Hid (wrongE l = lostE l 0 l) := Lib.hid (by unfold wrongE; rw [HZ.out, if_neg (by simp)])
      go_wp2_with fail
      go_loopw [6] (fun u wk => ∃ j : Nat, u = .int .i64 j ∧ j ≤ i ∧ Hid (wrongE l = lostE l j (l.drop j)) ∧ Hid (Upd [] w wk)) (fun u _ => i - (intOf u).toNat)
      case atStart => exact ⟨0, rfl, by omega, Lib.hid (by rw [HE.out]; rfl), U1⟩
      case round =>
        obtain ⟨j, rfl, hj, HH, U2⟩ := hrel
        have r3 : (0 : Int) ≤ (j : Int) := by omega
        rename World => wk
        by_cases hji : j < i
        · obtain ⟨⟨xt, xc, xv, xw⟩, hx⟩ : ∃ x, l[j]? = some x := ⟨_, List.getElem?_eq_getElem (by rw [HN.out]; omega)⟩
          have H1 := Lib.hid (H.out.upd0 U2.out)
          obtain ⟨ad, rfl, hb, hc⟩ := H1.out.at_ hx
          have HX := Lib.hid hx
          have r4 : (j : Int) < (i : Int) := by omega
          have HV : Hid (0 ≤ xv) := Lib.hid (argB_iff.1 (HNo.out.arg (List.mem_of_getElem? hx))).2.1
          have FX : Hid (∀ W, Upd [] wk W → W.cell? ⟨(ad.add (j * 4)).block, (ad.add (j * 4)).off + 1, none⟩ = some (.int .u64 xc) ∧ W.cell? ⟨(ad.add (j * 4)).block, (ad.add (j * 4)).off + 2, none⟩ = some (.int .i64 xv) ∧ W.cell? ⟨(ad.add (j * 4)).block, (ad.add (j * 4)).off + 3, none⟩ = some (.bool xw)) := Lib.hid (fun W hW => by
            obtain ⟨ad', ea, _, hc'⟩ := (H1.out.upd0 hW).at_ HX.out
            injection ea with ea
            subst ea
            exact ⟨by rw [← add_more]; exact hc' 1 _ rfl, by rw [← add_more]; exact hc' 2 _ rfl, by rw [← add_more]; exact hc' 3 _ rfl⟩)
          have LS := Lib.hid (lostE_step hx)
          clear hx hc
          go_upto_region 16 with fail
          go_cut [123] from 111 to 123 (fun t wx => ∃ bt, t = .bool bt ∧ Hid (bt = true → lostB l ⟨xt, xc, xv, xw⟩ = false) ∧ Hid (bt = false → xw = false ∧ 0 < xv) ∧ wk = wx)
          case first =>
            obtain ⟨f1, f2, f3⟩ := FX.out wk (.refl _ _)
            clear f1
            cases xw with
            | true =>
              go_wp2_with fail
              go_meet
              exact ⟨_, rfl, Lib.hid (fun _ => by simp [lostB]), Lib.hid (fun h => by cases h), by first | rfl | trivial⟩
            | false =>
              by_cases a0 : xv = 0
              · subst a0
                go_wp2_with fail
                go_meet
                exact ⟨_, rfl, Lib.hid (fun _ => by simp [lostB]), Lib.hid (fun h => by cases h), by first | rfl | trivial⟩
              · have d0 : (xv == 0) = false := by simpa using a0
                go_wp2_with fail
                go_meet
                exact ⟨_, rfl, Lib.hid (fun h => by first | (cases h; done) | (rw [d0] at h; cases h)), Lib.hid (fun _ => ⟨by first | rfl | trivial, by have := HV.out; omega⟩), by first | rfl | trivial⟩
          case rest =>
            obtain ⟨bt, rfl, HT, HF, rfl⟩ := hcut
            cases bt with
            | true =>
              have HS : Hid (wrongE l = lostE l (j + 1) (l.drop (j + 1))) := Lib.hid (by rw [HH.out, LS.out, HT.out rfl, if_neg (by simp)])
              clear FX
              go_wp2_with fail
              go_roundw
              case rel => exact ⟨j + 1, by go_num, by omega, HS, U2⟩
              case measure => simp [intOf]; omega
            | false =>
              obtain ⟨rfl, h0⟩ := HF.out rfl
              have H0 := Lib.hid h0
              clear HT HF h0
              have v0 : Upd [] wk wk.drew := (Upd.refl [] _).drew
              go_wp2_with fail
              go_region_held3 (fun W => W.cell? ⟨(ad.add (j * 4)).block, (ad.add (j * 4)).off + 1, none⟩ = some (.int .u64 xc) ∧ W.cell? ⟨(ad.add (j * 4)).block, (ad.add (j * 4)).off + 2, none⟩ = some (.int .i64 xv)) (exact ⟨(FX.out _ v0).1, (FX.out _ v0).2.1⟩)
                (first | (go_at_call 20; refine (r_writer (some ad) i k l xc xv _ (H1.out.upd0 v0) HN.out (by omega)).mono ?_; rintro e w3 ⟨r, rfl, hr, rfl⟩))
              rcases hr with ⟨m, y, rfl, hy, hwr⟩ | ⟨rfl, hwr⟩
              · have HS : Hid (wrongE l = lostE l (j + 1) (l.drop (j + 1))) := Lib.hid (by
                  rw [HH.out, LS.out, if_neg]
                  unfold lostB
                  rw [show wroteOf l xc xv = some y.txn from hwr]
                  simp)
                have r7 : ¬ (m : Int) < 0 := by omega
                have r8 : decide ((m : Int) < 0) = false := by simp
                clear hwr hy FX
                go_wp2_with fail
                go_roundw
                case rel => exact ⟨j + 1, by go_num, by omega, HS, Lib.hid (U2.out.trans v0)⟩
                case measure => simp [intOf]; omega
              · have HS : Hid (wrongE l = (6, (j : Int) + 1)) := Lib.hid (by
                  rw [HH.out, LS.out, if_pos]
                  unfold lostB
                  rw [show wroteOf l xc xv = none from hwr]
                  have := H0.out
                  simp [this])
                clear hwr FX
                go_wp2_with fail
                go_ret2
                exact ⟨by rw [HS.out]; rfl, U2.out.trans v0⟩
        · have : j = i := by omega
          subst this
          have HS : Hid (wrongE l = (0, 0)) := Lib.hid (by
            rw [HH.out, List.drop_of_length_le (by rw [HN.out]; exact Nat.le_refl _)]
            rfl)
          go_wp2_with fail
          go_ret2
          exact ⟨by rw [HS.out]; rfl, U2.out⟩
end Go.Proofs.YteddiknlcdbhjaaGreat

namespace Go.Proofs.YteddiknlcdbhjaaGreat
open Go Go.RowKit TrP Vk
attribute [local go_sem] litStep_value run_makeMap_plain

abbrev newW (w : World) (sv : Value) : World := (((((w.alloc (.map #[] 0)).alloc (.map #[] 0)).alloc (.map #[] 0)).alloc (.map #[] 0)).alloc (.map #[] 0)).alloc (.cells #[.map (some w.heap.size), .map (some (w.heap.size + 1)), .map (some (w.heap.size + 1 + 1)), .map (some (w.heap.size + 1 + 1 + 1)), .map (some (w.heap.size + 1 + 1 + 1 + 1)), .nilIface, sv] 65)
def roAt : Nat → Ro
  | 0 => .txns
  | 1 => .wrote
  | 2 => .read
  | 3 => .edges
  | 4 => .leads
  | 5 => .tr
  | _ => .other
def rho0 (H : Nat) : Rho := fun y => if y < H then .other else roAt (y - H)
theorem rho0_hi {H y : Nat} (h : rho0 H y ≠ .other) : H ≤ y := by
  unfold rho0 at h
  by_cases e : H ≤ y
  · exact e
  · exact absurd (if_pos (by omega)) h
theorem rho0_add (H k : Nat) : rho0 H (H + k) = roAt k := by
  unfold rho0
  rw [if_neg (by omega), Nat.add_sub_cancel_left]
abbrev newB (H : Nat) : TB := ⟨H, H + 1, H + 1 + 1, H + 1 + 1 + 1, H + 1 + 1 + 1 + 1⟩
theorem new_st (w : World) (sv : Value) : NotedSt (newW w sv) (rho0 w.heap.size) w.heap.size (w.heap.size + 1 + 1 + 1 + 1 + 1) (newB w.heap.size) .nilIface sv [] ∧ Upd [] w (newW w sv) := by
  have u1 : ∀ (W : World) (o : Obj), Upd [] W (W.alloc o) := fun W o => (Upd.refl [] W).alloc o
  have hu : Upd [] w (newW w sv) := ((((((Upd.refl [] w).alloc _).alloc _).alloc _).alloc _).alloc _).alloc _
  refine ⟨⟨0, Nat.le_refl _, ?_⟩, hu⟩
  have i0 : IMap (newW w sv) .i64 w.heap.size (fun _ => none) 0 := (IMap.new w .i64).upd (((((u1 _ _).alloc _).alloc _).alloc _).alloc _) (by simp)
  have hs1 : (w.alloc (.map #[] 0)).heap.size = w.heap.size + 1 := by simp
  have hs2 : ((w.alloc (.map #[] 0)).alloc (.map #[] 0)).heap.size = w.heap.size + 1 + 1 := by simp
  have hs3 : (((w.alloc (.map #[] 0)).alloc (.map #[] 0)).alloc (.map #[] 0)).heap.size = w.heap.size + 1 + 1 + 1 := by simp
  have hs4 : ((((w.alloc (.map #[] 0)).alloc (.map #[] 0)).alloc (.map #[] 0)).alloc (.map #[] 0)).heap.size = w.heap.size + 1 + 1 + 1 + 1 := by simp
  have hs5 : (((((w.alloc (.map #[] 0)).alloc (.map #[] 0)).alloc (.map #[] 0)).alloc (.map #[] 0)).alloc (.map #[] 0)).heap.size = w.heap.size + 1 + 1 + 1 + 1 + 1 := by simp
  have i1 : IMap (newW w sv) .u64 (w.heap.size + 1) (fun _ => none) 0 := by
    have := (IMap.new (w.alloc (.map #[] 0)) .u64).upd ((((u1 _ (.map #[] 0)).alloc (.map #[] 0)).alloc (.map #[] 0)).alloc (.cells #[.map (some w.heap.size), .map (some (w.heap.size + 1)), .map (some (w.heap.size + 1 + 1)), .map (some (w.heap.size + 1 + 1 + 1)), .map (some (w.heap.size + 1 + 1 + 1 + 1)), .nilIface, sv] 65)) (by simp)
    rw [hs1] at this
    exact this
  have i2 : IMap (newW w sv) .u64 (w.heap.size + 1 + 1) (fun _ => none) 0 := by
    have := (IMap.new ((w.alloc (.map #[] 0)).alloc (.map #[] 0)) .u64).upd (((u1 _ (.map #[] 0)).alloc (.map #[] 0)).alloc (.cells #[.map (some w.heap.size), .map (some (w.heap.size + 1)), .map (some (w.heap.size + 1 + 1)), .map (some (w.heap.size + 1 + 1 + 1)), .map (some (w.heap.size + 1 + 1 + 1 + 1)), .nilIface, sv] 65)) (by simp)
    rw [hs2] at this
    exact this
  have i3 : KMap (newW w sv) kE (w.heap.size + 1 + 1 + 1) (fun _ => none) 0 := by
    have := (KMap.new (((w.alloc (.map #[] 0)).alloc (.map #[] 0)).alloc (.map #[] 0)) kE).upd ((u1 _ (.map #[] 0)).alloc (.cells #[.map (some w.heap.size), .map (some (w.heap.size + 1)), .map (some (w.heap.size + 1 + 1)), .map (some (w.heap.size + 1 + 1 + 1)), .map (some (w.heap.size + 1 + 1 + 1 + 1)), .nilIface, sv] 65)) (by simp)
    rw [hs3] at this
    exact this
  have i4 : IMap (newW w sv) .i64 (w.heap.size + 1 + 1 + 1 + 1) (fun _ => none) 0 := by
    have := (IMap.new ((((w.alloc (.map #[] 0)).alloc (.map #[] 0)).alloc (.map #[] 0)).alloc (.map #[] 0)) .i64).upd (u1 _ (.cells #[.map (some w.heap.size), .map (some (w.heap.size + 1)), .map (some (w.heap.size + 1 + 1)), .map (some (w.heap.size + 1 + 1 + 1)), .map (some (w.heap.size + 1 + 1 + 1 + 1)), .nilIface, sv] 65)) (by simp)
    rw [hs4] at this
    exact this
  refine ⟨?_, rho0_add w.heap.size 5, ⟨rho0_add w.heap.size 0, i0⟩, ⟨rho0_add w.heap.size 1, _, _, i1, fun c => ⟨fun _ h => (by cases h), fun _ => rfl⟩, fun c v h => (by cases h)⟩, ⟨rho0_add w.heap.size 2, _, _, i2, fun c => ⟨fun _ h => (by cases h), fun _ => rfl⟩, fun c v h => (by cases h)⟩, ⟨rho0_add w.heap.size 3, _, i3⟩, ⟨rho0_add w.heap.size 4, _, _, i4, fun k => .inl ⟨rfl, rfl⟩⟩, fun y hy => rho0_hi hy⟩
  have := Blk.new (((((w.alloc (.map #[] 0)).alloc (.map #[] 0)).alloc (.map #[] 0)).alloc (.map #[] 0)).alloc (.map #[] 0)) 65 #[.map (some w.heap.size), .map (some (w.heap.size + 1)), .map (some (w.heap.size + 1 + 1)), .map (some (w.heap.size + 1 + 1 + 1)), .map (some (w.heap.size + 1 + 1 + 1 + 1)), .nilIface, sv]
  rw [hs5] at this
  exact this
def NewPost (l : List Ev) (sv : Value) (w : World) (e : Ending) (w' : World) : Prop := ∃ ρ tb b, e = .returned (.pointer (some ⟨tb, 0, none⟩)) ∧ Upd [] w w' ∧ ((notesE [] l).1 = 0 → NotedSt w' ρ w.heap.size tb b .nilIface sv l) ∧
  ((notesE [] l).1 ≠ 0 → ∃ fb x0 x1 x2 x3 x4, Blk w' tb 65 #[x0, x1, x2, x3, x4, .iface 106 (.pointer (some ⟨fb, 0, none⟩)), sv] ∧ Blk w' fb 108 #[.int .i64 (notesE [] l).2, .int .i64 (notesE [] l).1])
set_option maxRecDepth 100000 in
set_option maxHeartbeats 4000000 in
theorem t_new (A : Option Addr) (n k : Nat) (l : List Ev) (w : World) (h : Rd encEv w (.slice A n k) l) (hn : l.length = n) (hl : n ≤ 60) :
    Calls Tryz.prog 33 #[.slice A n k] w fun e w' => NewPost l (.slice A n k) w e w' := by
  have H := Lib.hid h
  have HN := Lib.hid hn
  clear h hn
  go_enter Tryz.func33, Tryz.ntmps33
  have N0 := Lib.hid (new_st w (.slice A n k)).1
  have V0 := Lib.hid (new_st w (.slice A n k)).2
  go_wp2_with fail
  obtain ⟨W0, hW0⟩ : ∃ W0, newW w (.slice A n k) = W0 := ⟨_, rfl⟩
  obtain ⟨ρ0, hρ0⟩ : ∃ ρ0, rho0 w.heap.size = ρ0 := ⟨_, rfl⟩
  have HI0 : Hid (∀ y, ρ0 y ≠ .other → w.heap.size ≤ y) := Lib.hid (by rw [← hρ0]; exact fun y hy => rho0_hi hy)
  rw [hW0] at V0 N0
  rw [hρ0] at N0
  change Code.wp _ _ _ _ (newW w (.slice A n k))
  rw [hW0]
  clear hW0 hρ0
  obtain ⟨B, hB⟩ : ∃ B, w.heap.size = B := ⟨_, rfl⟩
  obtain ⟨tb, htb⟩ : ∃ tb, B + 1 + 1 + 1 + 1 + 1 = tb := ⟨_, rfl⟩
  obtain ⟨b, hb⟩ : ∃ b, newB B = b := ⟨_, rfl⟩
  have HBW := Lib.hid hB
  rw [hB] at N0 HI0 ⊢
  rw [htb, hb] at N0
  rw [htb]
  clear hB htb hb
  go_loopw [17] (fun u wr => ∃ i : Nat, u = .int .i64 i ∧ i ≤ n ∧ ∃ ρ, Hid (NotedSt wr ρ B tb b .nilIface (.slice A n k) (l.take i)) ∧ Hid (Tw ρ0 ρ W0 wr) ∧ Hid (Noted (l.take i)) ∧ Hid (notesE [] l = notesE (l.take i) (l.drop i))) (fun u _ => n - (intOf u).toNat)
  case atStart => exact ⟨0, rfl, by omega, ρ0, N0, Lib.hid (Tw.refl _ _), Lib.hid Noted.nil, Lib.hid rfl⟩
  case round =>
    obtain ⟨i, rfl, hi, ρ, NS, TW, NO, NE⟩ := hrel
    have q3 : (0 : Int) ≤ (i : Int) := by omega
    by_cases hin : i < n
    · obtain ⟨⟨xt, xc, xv, xw⟩, hx⟩ : ∃ x, l[i]? = some x := ⟨_, List.getElem?_eq_getElem (by rw [HN.out]; omega)⟩
      have HU0 := Lib.hid (TW.out.rest V0.out (by intro y hy; rw [HBW.out]; exact HI0.out y hy))
      have H1 := Lib.hid (H.out.upd0 HU0.out)
      obtain ⟨ad, rfl, hb, hc⟩ := H1.out.at_ hx
      have HX := Lib.hid hx
      have q4 : (i : Int) < (n : Int) := by omega
      have f0 : wr.cell? (ad.add (i * 4)) = some (.int .i64 xt) := hc 0 _ rfl
      have f1 : wr.cell? ⟨(ad.add (i * 4)).block, (ad.add (i * 4)).off + 1, none⟩ = some (.int .u64 xc) := by rw [← add_more]; exact hc 1 _ rfl
      have f2 : wr.cell? ⟨(ad.add (i * 4)).block, (ad.add (i * 4)).off + 2, none⟩ = some (.int .i64 xv) := by rw [← add_more]; exact hc 2 _ rfl
      have f3 : wr.cell? ⟨(ad.add (i * 4)).block, (ad.add (i * 4)).off + 3, none⟩ = some (.bool xw) := by rw [← add_more]; exact hc 3 _ rfl
      clear hx hc
      have V1 : Hid (Upd [] wr (wr.alloc (.cells #[.int .i64 xt, .int .u64 xc, .int .i64 xv, .bool xw] 47))) := Lib.hid ((Upd.refl [] wr).alloc _)
      go_wp2_with fail
      generalize (wr.alloc (.cells #[.int .i64 xt, .int .u64 xc, .int .i64 xv, .bool xw] 47)) = w1 at *
      have NS1 : NotedSt w1 ρ B tb b .nilIface (.slice (some ad) n k) (l.take i) := by
        obtain ⟨cn, hcn, hs⟩ := NS.out
        exact ⟨cn, hcn, hs.upd0 V1.out⟩
      refine (t_note ρ B tb b .nilIface (.slice (some ad) n k) (l.take i) ⟨xt, xc, xv, xw⟩ w1 NS1 (by rw [List.length_take, HN.out]; omega) NO.out).mono ?_; rintro e w2 ⟨rfl, ρ2, tw2, hi2, hok, hbad⟩
      obtain ⟨r, hr⟩ : ∃ r, noteE (l.take i) ⟨xt, xc, xv, xw⟩ = r := ⟨_, rfl⟩
      have HR := Lib.hid hr
      rw [hr] at hok hbad ⊢
      have TW2 := Lib.hid ((TW.out.trans (Tw.of0 V1.out)).trans tw2)
      have HOK := Lib.hid hok
      have HBAD := Lib.hid hbad
      have HI2 := Lib.hid hi2
      clear hok hbad hr f0 f1 f2 f3 tw2 hi2 NS1
      by_cases hr0 : r = 0
      · have d0 : (r != 0) = false := by simpa using hr0
        have hs2 := HOK.out hr0
        have e1 : l.take i ++ [⟨xt, xc, xv, xw⟩] = l.take (i + 1) := by rw [List.take_add_one, HX.out]; rfl
        rw [e1] at hs2
        have NS2 := Lib.hid hs2
        have NO2 : Hid (Noted (l.take (i + 1))) := Lib.hid (by rw [← e1]; exact NO.out.snoc (by rw [HR.out, hr0]))
        have NE2 : Hid (notesE [] l = notesE (l.take (i + 1)) (l.drop (i + 1))) := Lib.hid (NE.out.trans (notesE_step HX.out (by rw [HR.out, hr0])))
        clear hs2 e1
        subst hr0
        go_wp2_with fail
        go_roundw
        case rel => exact ⟨i + 1, by go_num, by omega, ρ2, NS2, TW2, NO2, NE2⟩
        case measure => simp [intOf]; omega
      · have d0 : (r != 0) = true := by simpa using hr0
        obtain ⟨hblk, hrt⟩ := HBAD.out hr0
        have HE : Hid (notesE [] l = (r, (i : Int) + 1)) := Lib.hid (NE.out.trans (notesE_stop HX.out HR.out hr0))
        have HBK := Lib.hid hblk
        have z1 : tb < w2.heap.size := hblk.lt
        have z2 : ∀ j, w2.frozen? ⟨tb, j, none⟩ = false := fun j => hblk.frozen j
        have z3 : w2.cell? ⟨tb, 5, none⟩ = some .nilIface := hblk.cell 5
        clear hblk
        have HRT := Lib.hid hrt
        clear hrt
        go_wp2_with fail
        go_ret
        have us : Upd [tb] w2 ((w2.setCell ⟨tb, 5, none⟩ (.iface 106 (.pointer (some ⟨w2.heap.size, 0, none⟩)))).alloc (.cells #[.int .i64 ((i : Int) + 1), .int .i64 r] 108)) := ((Upd.refl [tb] w2).setCell (.inl (by simp)) _).alloc _
        have tw3 := TW2.out.trans (Tw.of_upd us (by intro y hy; simp at hy; subst hy; rw [HRT.out]; simp))
        refine ⟨ρ2, tb, b, rfl, tw3.rest V0.out (by intro y hy; rw [HBW.out]; exact HI0.out y hy), fun h => absurd (by rw [HE.out] at h; exact h) hr0, fun _ => ⟨w2.heap.size, _, _, _, _, _, (HBK.out.set_eq (cs' := #[.map (some b.bt), .map (some b.bw), .map (some b.br), .map (some b.be), .map (some b.bl), .iface 106 (.pointer (some ⟨w2.heap.size, 0, none⟩)), .slice (some ad) n k]) rfl).alloc _, ?_⟩⟩
        rw [HE.out]
        have := Blk.new (w2.setCell ⟨tb, 5, none⟩ (.iface 106 (.pointer (some ⟨w2.heap.size, 0, none⟩)))) 108 #[.int .i64 ((i : Int) + 1), .int .i64 r]
        simpa using this
    · have : i = n := by omega
      subst this
      have NS2 := NS
      rw [List.take_of_length_le (by rw [HN.out]; exact Nat.le_refl _)] at NS2
      have NE2 : Hid ((notesE [] l).1 = 0) := Lib.hid (by rw [NE.out, List.drop_of_length_le (by rw [HN.out]; exact Nat.le_refl _)]; rfl)
      go_wp2_with fail
      go_ret
      exact ⟨ρ, tb, b, rfl, TW.out.rest V0.out (by intro y hy; rw [HBW.out]; exact HI0.out y hy), fun _ => by rw [HBW.out]; exact NS2.out, fun h => absurd NE2.out h⟩
end Go.Proofs.YteddiknlcdbhjaaGreat

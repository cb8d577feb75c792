/-
  A tracer in memory.
  Going over a map whose keys are integers: each entry comes once, in whatever order. No program in sight.
  How many entries of a map are still to come. No program in sight.
  maps.Keys of a map of edges: each key once, in whatever order.
  maps.Keys of edges, collected: each once, in whatever order.
-/
import Derived.Test.YteddiknlcdbhjaaGreatTsB4
import Derived.Test.YteddiknlcdbhjaaGreatTsB1
import Derived.Maps.RangeWalk
import Derived.Test.YteddiknlcdbhjaaGreatProg
import Derived.RangeFuncNested
import Derived.RangeFuncBound
import Derived.RangeFuncCalls
import Derived.RangeFuncLeaves
import Derived.RangeFuncBox
import Derived.RangeFuncKeeps
import Derived.Shelf.Abstract
import Derived.Shelf.RegionOpen
import Derived.OwnWalkIn
import Derived.TacticsInMore
import Derived.LoopNIn
import Derived.LoopIn
import Derived.Maps.AppendAt
set_option linter.unusedVariables false
namespace Go.Proofs.YteddiknlcdbhjaaGreat
open Go.RowKit TrP

/-- What a tracer holds. -/
structure TC where
  cnt : Int → Option Int
  cn : Nat
  C : Int → Prop
  wr : Int → Int → Option Int
  rd : Int → Int → List Int
  S : List Ed
  ld : Int → List Int
/-- The blocks of its maps. -/
structure TB where
  bt : Nat
  bw : Nat
  br : Nat
  be : Nat
  bl : Nat
structure TrSt (w : World) (ρ : Rho) (B tb : Nat) (b : TB) (fv sv : Value) (T : TC) : Prop where
  tr : Blk w tb 65 #[.map (some b.bt), .map (some b.bw), .map (some b.br), .map (some b.be), .map (some b.bl), fv, sv]
  rt : ρ tb = .tr
  tx : TxM w ρ b.bt T.cnt T.cn
  wr : WrM w ρ b.bw T.C T.wr
  rd : RdM w ρ B 3 b.br T.C T.rd
  ed : EdM w ρ b.be T.S
  ld : LdM w ρ B 3 b.bl T.ld
  hi : ∀ x, ρ x ≠ .other → B ≤ x
/-- Blocks that serve nothing may turn. -/
theorem TrSt.fr {w w' : World} {ρ ρ' : Rho} {B tb : Nat} {b : TB} {fv sv : Value} {T : TC} {O : Nat → Prop} (h : TrSt w ρ B tb b fv sv T) (hu : UpdP O w w') (ha : Agr w ρ ρ') (hhi : ∀ x, ρ' x ≠ .other → B ≤ x) (ho : ∀ x, O x → ρ x = .other ∨ ρ x = .aux) : TrSt w' ρ' B tb b fv sv T where
  tr := h.tr.updP hu (fun hx => by rcases ho _ hx with e | e <;> rw [h.rt] at e <;> cases e)
  rt := (ha _ h.tr.lt).trans h.rt
  tx := h.tx.fr hu ha (fun x hx => by rcases ho _ hx with e | e <;> rw [e] <;> simp)
  wr := h.wr.fr hu ha (fun x hx => by rcases ho _ hx with e | e <;> rw [e] <;> simp)
  rd := h.rd.fr hu ha (fun x hx => by rcases ho _ hx with e | e <;> rw [e] <;> simp)
  ed := h.ed.fr hu ha (fun x hx => by rcases ho _ hx with e | e <;> rw [e] <;> simp)
  ld := h.ld.fr hu ha (fun x hx => by rcases ho _ hx with e | e <;> rw [e] <;> simp)
  hi := hhi
theorem TrSt.upd0 {w w' : World} {ρ : Rho} {B tb : Nat} {b : TB} {fv sv : Value} {T : TC} (h : TrSt w ρ B tb b fv sv T) (hu : Upd [] w w') : TrSt w' ρ B tb b fv sv T :=
  h.fr (UpdP.of_upd (O := fun _ => False) hu (by simp)) (Agr.refl _ _) h.hi (fun _ h => h.elim)
/-- From w to w' only blocks that serve something, and new ones, have turned; those that were there serve what they did. -/
structure Tw (ρ ρ' : Rho) (w w' : World) : Prop where
  upd : UpdP (fun x => ρ x ≠ .other) w w'
  agr : Agr w ρ ρ'
theorem Tw.refl (ρ : Rho) (w : World) : Tw ρ ρ w w := ⟨.refl _ _, Agr.refl _ _⟩
theorem Tw.trans {ρ ρ' ρ'' : Rho} {w w' w'' : World} (h : Tw ρ ρ' w w') (k : Tw ρ' ρ'' w' w'') : Tw ρ ρ'' w w'' :=
  ⟨h.upd.trans k.upd (fun x hx => by
    rcases Nat.lt_or_ge x w.heap.size with e | e
    · exact .inl (by rw [← h.agr x e]; exact hx)
    · exact .inr e), h.agr.trans h.upd.size k.agr⟩
theorem Tw.of0 {ρ : Rho} {w w' : World} (h : Upd [] w w') : Tw ρ ρ w w' := ⟨UpdP.of_upd h (by simp), Agr.refl _ _⟩
theorem Tw.of_upd {ρ : Rho} {S : List Nat} {w w' : World} (h : Upd S w w') (hS : ∀ x ∈ S, ρ x ≠ .other) : Tw ρ ρ w w' := ⟨UpdP.of_upd h (fun x hx => .inl (hS x hx)), Agr.refl _ _⟩
/-- What is not of the tracer stays. -/
theorem Tw.rest {ρ ρ' : Rho} {w0 w w' : World} (h : Tw ρ ρ' w w') (h0 : Upd [] w0 w) (hB : ∀ x, ρ x ≠ .other → w0.heap.size ≤ x) : Upd [] w0 w' := h.upd.to_upd h0 hB
section
variable {w W : World} {ρ ρ' : Rho} {B tb : Nat} {b : TB} {fv sv : Value} {T : TC} {S : List Nat}
/-- The counts have turned. -/
theorem TrSt.setTx (h : TrSt w ρ B tb b fv sv T) (hu : Upd [b.bt] w W) {f : Int → Option Int} {n : Nat} (im : IMap W .i64 b.bt (fun k => (f k).map (.int .i64)) n) : TrSt W ρ B tb b fv sv { T with cnt := f, cn := n } := by
  have hO : UpdP (fun x => x = b.bt) w W := UpdP.of_upd hu (fun x hx => by simp at hx; exact .inl hx)
  have ha := Agr.refl w ρ
  have hr : ∀ x, x = b.bt → ρ x = .txns := fun x e => by rw [e]; exact h.tx.1
  exact { tr := h.tr.updP hO (fun e => by have := hr _ e; rw [h.rt] at this; cases this), rt := h.rt, tx := ⟨h.tx.1, im⟩, wr := h.wr.fr hO ha (fun x hx => by rw [hr x hx]; simp), rd := h.rd.fr hO ha (fun x hx => by rw [hr x hx]; simp), ed := h.ed.fr hO ha (fun x hx => by rw [hr x hx]; simp), ld := h.ld.fr hO ha (fun x hx => by rw [hr x hx]; simp), hi := h.hi }
/-- Who wrote a cell's versions has turned. -/
theorem TrSt.setWr (h : TrSt w ρ B tb b fv sv T) {c : Int} {b' m : Nat} (hb : ρ b' = .wroteC c) (hu : Upd [b'] w W) {g : Int → Option Int} (im : IMap W .i64 b' (fun k => (g k).map (.int .i64)) m) (hc : ∀ v f n, IMap w .u64 b.bw f n → f c = some v → v = .map (some b')) : TrSt W ρ B tb b fv sv { T with wr := fun c' => if c' = c then g else T.wr c' } := by
  have hO : UpdP (fun x => x = b') w W := UpdP.of_upd hu (fun x hx => by simp at hx; exact .inl hx)
  have ha := Agr.refl w ρ
  have hr : ∀ x, x = b' → ρ x = .wroteC c := fun x e => by rw [e]; exact hb
  refine { tr := h.tr.updP hO (fun e => by have := hr _ e; rw [h.rt] at this; cases this), rt := h.rt, tx := h.tx.fr hO ha (fun x hx => by rw [hr x hx]; simp), wr := ?_, rd := h.rd.fr hO ha (fun x hx => by rw [hr x hx]; simp), ed := h.ed.fr hO ha (fun x hx => by rw [hr x hx]; simp), ld := h.ld.fr hO ha (fun x hx => by rw [hr x hx]; simp), hi := h.hi }
  obtain ⟨h0, f, n, h1, h2, h3⟩ := h.wr
  refine ⟨h0, f, n, h1.updP hO (fun e => by have := hr _ e; rw [h0] at this; cases this), h2, fun c' v hv => ?_⟩
  by_cases e : c' = c
  · subst e
    have := hc v f n h1 hv
    exact ⟨b', m, this, hb, by simpa using im⟩
  · obtain ⟨b2, m2, rfl, g1, g2⟩ := h3 c' v hv
    refine ⟨b2, m2, rfl, g1, ?_⟩
    show IMap W .i64 b2 (fun k => ((if c' = c then g else T.wr c') k).map (.int .i64)) m2
    rw [if_neg e]
    exact g2.updP hO (fun e2 => by have := hr _ e2; rw [g1] at this; injection this with this; exact e this)
/-- Who read a cell's versions has turned. -/
theorem TrSt.setRd (h : TrSt w ρ B tb b fv sv T) {c : Int} {b' : Nat} {O : Nat → Prop} (hu : UpdP O w W) (ha : Agr w ρ ρ') (hhi : ∀ x, ρ' x ≠ .other → B ≤ x) (ho : ∀ x, O x → ρ x = .readC c ∨ ∃ k, ρ x = .row c k) {g : Int → List Int} (hb : ρ b' = .readC c) (im : RowsM W ρ' B 3 b' (.row c) g) (hc : ∀ v f n, IMap w .u64 b.br f n → f c = some v → v = .map (some b')) : TrSt W ρ' B tb b fv sv { T with rd := fun c' => if c' = c then g else T.rd c' } := by
  have ho' : ∀ (r : Ro), (∀ c, r ≠ .readC c) → (∀ c k, r ≠ .row c k) → ∀ x, O x → ρ x ≠ r := fun r h1 h2 x hx e => by
    rcases ho x hx with g | ⟨k, g⟩
    · exact h1 c (e.symm.trans g)
    · exact h2 c k (e.symm.trans g)
  refine { tr := h.tr.updP hu (fun e => ho' .tr (by simp) (by simp) _ e h.rt), rt := (ha _ h.tr.lt).trans h.rt, tx := h.tx.fr hu ha (ho' _ (by simp) (by simp)), wr := h.wr.fr hu ha (fun x hx => ⟨ho' _ (by simp) (by simp) x hx, fun c => ho' _ (by simp) (by simp) x hx⟩), rd := ?_, ed := h.ed.fr hu ha (ho' _ (by simp) (by simp)), ld := h.ld.fr hu ha (fun x hx => ⟨ho' _ (by simp) (by simp) x hx, fun a => ho' _ (by simp) (by simp) x hx⟩), hi := hhi }
  obtain ⟨h0, f, n, h1, h2, h3⟩ := h.rd
  refine ⟨(ha _ h1.lt).trans h0, f, n, h1.updP hu (fun e => ho' .read (by simp) (by simp) _ e h0), h2, fun c' v hv => ?_⟩
  by_cases e : c' = c
  · subst e
    have := hc v f n h1 hv
    refine ⟨b', this, ?_, by simpa using im⟩
    obtain ⟨b2, e2, g1, g2⟩ := h3 c' v hv
    rw [this] at e2
    injection e2 with e2
    injection e2 with e2
    subst e2
    exact (ha _ g2.lt).trans g1
  · obtain ⟨b2, rfl, g1, g2⟩ := h3 c' v hv
    refine ⟨b2, rfl, (ha _ g2.lt).trans g1, ?_⟩
    show RowsM W ρ' B 3 b2 (.row c') (if c' = c then g else T.rd c')
    rw [if_neg e]
    refine g2.fr hu ha (fun e2 => ?_) (fun x k hx e3 => ?_)
    · rcases ho _ e2 with q | ⟨k, q⟩
      · rw [g1] at q; injection q with q; exact e q
      · rw [g1] at q; cases q
    · rcases ho _ hx with q | ⟨k, q⟩
      · rw [e3] at q; cases q
      · rw [e3] at q; injection q with q _; exact e q
end
/-- One more onto one of the slices of a map. -/
theorem rows_put {w W w8 : World} {ρ : Rho} {B rb n8 : Nat} {r : Int → Ro} {rd : Int → List Int} {g : Int → Option Value} {k x : Int} {vv v : Value} (hall : ∀ k', (g k' = none ∧ rd k' = []) ∨ ∃ v, g k' = some v ∧ w.ownsRow B 3 1 v (rd k').length ((rd k').map (.int .i64)) ∧ ∀ x, v.ownBlock = some x → ρ x = r k')
    (hinj : ∀ a b, r a = r b → a = b) (hrb : ∀ a, ρ rb ≠ r a) (hrbl : rb < w.heap.size) (hro : ∀ y, vv.ownBlock = some y → ρ y = r k) (u7 : Upd vv.ownBlock.toList w W) (o : W.ownsRow B 3 1 v ((rd k).length + 1) ((rd k).map (.int .i64) ++ [.int .i64 x])) (hold : ∀ b, v.ownBlock = some b → b < w.heap.size → vv.ownBlock = some b)
    (im : IMap w8 .i64 rb (putI g k v) n8) (u8 : Upd [rb] W w8) : ∃ ρ', Agr w ρ ρ' ∧ (∀ y, ρ' y ≠ .other → ρ y ≠ .other ∨ w.heap.size ≤ y) ∧ RowsM w8 ρ' B 3 rb r (fun k' => if k' = k then rd k ++ [x] else rd k') ∧ UpdP (fun y => y = rb ∨ ρ y = r k) w w8 := by
  obtain ⟨ρ', h1, h2, h3⟩ : ∃ ρ', Agr w ρ ρ' ∧ (∀ y, ρ' y ≠ .other → ρ y ≠ .other ∨ w.heap.size ≤ y) ∧ ∀ y, v.ownBlock = some y → ρ' y = r k := by
    cases hb : v.ownBlock with
    | none => exact ⟨ρ, Agr.refl _ _, fun y h => .inl h, fun y h => by cases h⟩
    | some y =>
      rcases Nat.lt_or_ge y w.heap.size with hy | hy
      · exact ⟨ρ, Agr.refl _ _, fun y h => .inl h, fun z hz => by cases hz; exact hro _ (hold _ hb hy)⟩
      · refine ⟨setR ρ y (r k), Agr.set hy _, fun z hz => ?_, fun z hz => by cases hz; exact setR_at _ _ _⟩
        unfold setR at hz
        by_cases e : z = y
        · exact .inr (by omega)
        · rw [if_neg e] at hz; exact .inl hz
  have hrb' : ∀ a, ρ' rb ≠ r a := fun a => by rw [h1 rb hrbl]; exact hrb a
  have hU : UpdP (fun y => y = rb ∨ ρ y = r k) w w8 := (UpdP.of_upd (O := fun y => y = rb ∨ ρ y = r k) u7 (fun y hy => .inl (.inr (hro y (by simpa using hy))))).trans (UpdP.of_upd (O := fun y => y = rb ∨ ρ y = r k) u8 (fun y hy => by simp at hy; exact .inl (.inl hy))) (fun y hy => .inl hy)
  refine ⟨ρ', h1, h2, ⟨_, _, im, fun k' => ?_⟩, hU⟩
  by_cases e : k' = k
  · refine .inr ⟨v, by unfold putI; rw [if_pos e], ?_, fun y hy => by rw [e]; exact h3 y hy⟩
    dsimp only
    rw [if_pos e]
    have := own_upd o u8 (fun y hy hm => by
      simp at hm
      subst hm
      exact hrb' k (h3 _ hy))
    rw [List.length_append, List.map_append]
    exact this
  · dsimp only
    rw [if_neg e]
    rcases hall k' with ⟨g1, g2⟩ | ⟨v', g1, g2, g3⟩
    · exact .inl ⟨by unfold putI; rw [if_neg e]; exact g1, g2⟩
    · refine .inr ⟨v', by unfold putI; rw [if_neg e]; exact g1, own_updP g2 hU (fun y hy hO => ?_), fun y hy => (h1 y (own_lt g2 hy).2).trans (g3 y hy)⟩
      rcases hO with rfl | h
      · exact hrb k' (g3 _ hy)
      · exact e (hinj _ _ ((g3 y hy).symm.trans h))
theorem run_equalIn_map_nil {P : Program} (d : Nat) {t kt et : TypeId} (w : World) (p : Option Nat) (h : P.underlying t = some (.map kt et)) : (Op.equalIn (d + 1) t (.map p) (.map none)).run P w = .ok p.isNone w := by
  cases p <;> simp [Op.equalIn, run_underlying h]
theorem run_equal_map_nil {P : Program} {t kt et : TypeId} (w : World) (p : Option Nat) (h : P.underlying t = some (.map kt et)) : (Op.equal t (.map p) (.map none)).run P w = .ok p.isNone w := run_equalIn_map_nil 9999 w p h
theorem run_eql_map_nil {P : Program} {t kt et : TypeId} (w : World) (p : Option Nat) (h : P.underlying t = some (.map kt et)) : (binOp .eql t (.map p) (.map none)).run P w = .ok (.bool p.isNone) w := by
  simp only [binOp]
  simp [run_equal_map_nil w p h]
end Go.Proofs.YteddiknlcdbhjaaGreat

namespace Go.Proofs.YteddiknlcdbhjaaGreat
open Go Go.RowKit Go.MapKept
open Go.ChangeMaps (setBlock)

/-- Block r goes over map b, which has L; rest are still to come. -/
structure IIter (w : World) (q : IntKind) (b r : Nat) (L rest : List IEnt) : Prop where
  all : ∃ c since seen c0, IRaw w q b L c ∧ w.heap[r]? = some (.mapIter (some b) since seen c0) ∧ (∀ p ∈ L, p.2.2 < since) ∧ since ≤ c0 ∧ since ≤ c ∧ rest = L.filter (fun p => !seen.contains p.2.2)
theorem IIter.lt {w : World} {q : IntKind} {b r : Nat} {L rest : List IEnt} (h : IIter w q b r L rest) : r < w.heap.size := by
  obtain ⟨_, s, n, c, _, h1, _⟩ := h.all
  rcases Nat.lt_or_ge r w.heap.size with hl | hg
  · exact hl
  · rw [Array.getElem?_eq_none hg] at h1
    cases h1
theorem IIter.map {w : World} {q : IntKind} {b r : Nat} {L rest : List IEnt} (h : IIter w q b r L rest) : IMap w q b (findI L) L.length := by
  obtain ⟨c, _, _, _, hr, _⟩ := h.all
  exact ⟨L, c, hr, fun _ => rfl, rfl⟩
theorem IIter.upd {S : List Nat} {w w' : World} {q : IntKind} {b r : Nat} {L rest : List IEnt} (h : IIter w q b r L rest) (hu : Upd S w w') (hb : b ∉ S) (hr : r ∉ S) : IIter w' q b r L rest := by
  obtain ⟨c, s, n, c0, h1, h2, h3⟩ := h.all
  exact ⟨c, s, n, c0, ⟨(hu.keep b h1.lt' hb).trans h1.blk, h1.keys, h1.stamps, h1.lt⟩, (hu.keep r h.lt hr).trans h2, h3⟩
section
variable {P : Program} {w : World} {q : IntKind} {b r : Nat} {L rest : List IEnt} {f : Int → Option Value} {n : Nat}
/-- It begins. -/
theorem run_range_int {mt kt et : TypeId} (hm : P.underlying mt = some (.map kt et)) (h : IMap w q b f n) :
    ∃ L w', (Instr.range mt (.map (some b))).run P w = .ok (.pointer (some ⟨w.heap.size, 0, none⟩)) w' ∧ IIter w' q b w.heap.size L L ∧ (∀ k, f k = findI L k) ∧ (L.map (·.1)).Nodup ∧ L.length = n ∧ Upd [] w w' ∧ w'.heap.size = w.heap.size + 1 := by
  obtain ⟨L, c, hr, hf, hn⟩ := h
  refine ⟨L, _, run_range_map w mt kt et b _ c hm hr.blk, ⟨c, c, #[], c, ?_, heap_alloc_new w _, hr.lt, Nat.le_refl _, Nat.le_refl _, ?_⟩, hf, hr.keys, hn, (Upd.refl [] w).alloc _, by simp⟩
  · exact ⟨(Below.heap_alloc w _ b hr.lt').trans hr.blk, hr.keys, hr.stamps, hr.lt⟩
  · symm
    rw [List.filter_eq_self]
    intro p _
    simp
theorem filter_seen {L : List IEnt} {seen : Array Nat} {x : IEnt} (hn : (L.map (·.2.2)).Nodup) (hx : x ∈ L) (hs : seen.contains x.2.2 = false) :
    (x :: L.filter (fun p => !(seen.push x.2.2).contains p.2.2)).Perm (L.filter (fun p => !seen.contains p.2.2)) := by
  induction L with
  | nil => cases hx
  | cons a L ih =>
    rw [List.map_cons, List.nodup_cons] at hn
    rw [List.filter_cons, List.filter_cons]
    by_cases e : a = x
    · subst e
      have h1 : L.filter (fun p => !(seen.push a.2.2).contains p.2.2) = L.filter (fun p => !seen.contains p.2.2) := by
        refine List.filter_congr fun p hp => ?_
        have : p.2.2 ≠ a.2.2 := fun e => hn.1 (e ▸ List.mem_map.2 ⟨p, hp, rfl⟩)
        congr 1
        rw [Bool.eq_iff_iff]
        simp [this]
      have h2 : (seen.push a.2.2).contains a.2.2 = true := by simp
      rw [h1, h2, hs]
      simp
    · have hx' : x ∈ L := by
        rcases List.mem_cons.1 hx with h | h
        · exact absurd h.symm e
        · exact h
      have hne : a.2.2 ≠ x.2.2 := fun e => hn.1 (e ▸ List.mem_map.2 ⟨x, hx', rfl⟩)
      have h1 : (seen.push x.2.2).contains a.2.2 = seen.contains a.2.2 := by
        rw [Bool.eq_iff_iff]
        simp [hne]
      rw [h1]
      cases hsa : seen.contains a.2.2 with
      | true => simpa using ih hn.2 hx'
      | false =>
        simp only [Bool.not_false, if_true]
        exact (List.Perm.swap _ _ _).trans (List.Perm.cons a (ih hn.2 hx'))
/-- One more comes, or there is none. -/
theorem run_next_int (h : IIter w q b r L rest) (ty : TypeId) :
    (rest = [] ∧ (Instr.next (.pointer (some ⟨r, 0, none⟩)) false ty).run P w = .ok (.tuple #[.bool false]) w) ∨
    ∃ x rest' w', (x :: rest').Perm rest ∧ (Instr.next (.pointer (some ⟨r, 0, none⟩)) false ty).run P w = .ok (.tuple #[.bool true, .int q x.1, x.2.1]) w' ∧ IIter w' q b r L rest' ∧ Upd [r] w w' ∧
      (Instr.entry (.pointer (some ⟨r, 0, none⟩))).run P w' = .ok (.tuple #[.int q x.1, x.2.1]) w' := by
  have hrl := h.lt
  obtain ⟨c, since, seen, c0, hR, hr, hold, hsc, hcc, rfl⟩ := h.all
  have hbr : b ≠ r := by
    rintro rfl
    rw [hR.blk] at hr
    cases hr
  have hold' : ∀ x ∈ (L.map (ent q)).toArray.toList, x.born < since := by
    intro x hx
    simp only [List.mem_map] at hx
    obtain ⟨p, hp, rfl⟩ := hx
    exact hold p hp
  have hl : leftOf (L.map (ent q)).toArray seen = ((L.filter (fun p => !seen.contains p.2.2)).map (ent q)).toArray := by
    unfold leftOf
    rw [List.filter_toArray, List.filter_map]
    rfl
  rcases run_next_at (P := P) w ty r b since c0 seen _ c hr hR.blk hold' hsc with ⟨h0, hrun⟩ | ⟨e, he, w1, hal, hrun⟩
  · refine .inl ⟨?_, hrun⟩
    rw [hl] at h0
    simpa using h0
  · rw [hl] at he
    simp only [List.mem_map] at he
    obtain ⟨x, hx, rfl⟩ := he
    obtain ⟨hxL, hxs⟩ := List.mem_filter.1 hx
    have hxs' : seen.contains x.2.2 = false := by simpa using hxs
    have hr1 : w1.heap[r]? = some (.mapIter (some b) since seen c0) := by rcases hal with rfl | rfl <;> exact hr
    have hb1 : w1.heap[b]? = some (.map (L.map (ent q)).toArray c) := by rcases hal with rfl | rfl <;> exact hR.blk
    have hset := heap_set (o' := .mapIter (some b) since (seen.push x.2.2) c) hr1
    have hb' : (setBlock w1 r (.mapIter (some b) since (seen.push x.2.2) c)).heap[b]? = some (.map (L.map (ent q)).toArray c) := (hset.2 b (fun e1 => hbr e1)).trans hb1
    refine .inr ⟨x, _, _, filter_seen hR.stamps hxL hxs', hrun, ⟨c, since, seen.push x.2.2, c, ⟨hb', hR.keys, hR.stamps, hR.lt⟩, hset.1, hold, hcc, hcc, rfl⟩, ?_, ?_⟩
    · rcases hal with rfl | rfl <;> exact ⟨rfl, rfl, rfl, by simp [setBlock], fun i _ hi => hset.2 i (fun e1 => hi (by simp [e1]))⟩
    · refine run_entry_at _ r b since seen _ c (ent q x) hset.1 hb' ?_ ?_
      · simp only [List.mem_map]
        exact ⟨x, hxL, rfl⟩
      · simp only [List.map_map]
        exact hR.stamps
end
end Go.Proofs.YteddiknlcdbhjaaGreat

namespace Go.Proofs.YteddiknlcdbhjaaGreat
open Go Go.RowKit

def itLeft (b r : Nat) (w : World) : Nat := match w.heap[r]?, w.heap[b]? with
  | some (.mapIter _ _ seen _), some (.map es _) => (es.toList.filter (fun e => !seen.contains e.born)).length
  | _, _ => 0
theorem IIter.left {w : World} {q : IntKind} {b r : Nat} {L rest : List IEnt} (h : IIter w q b r L rest) : itLeft b r w = rest.length := by
  obtain ⟨c, s, seen, c0, h1, h2, _, _, _, rfl⟩ := h.all
  unfold itLeft
  rw [h2, h1.blk]
  simp only
  show (List.filter (fun e => !seen.contains e.born) (L.map (ent q))).length = _
  rw [List.filter_map, List.length_map]
  rfl
theorem KIter.left {κ : Type} {w : World} {kv : κ → Value} {b r : Nat} {L rest : List (KEnt κ)} (h : KIter w kv b r L rest) : itLeft b r w = rest.length := by
  obtain ⟨c, s, seen, c0, h1, h2, _, _, _, rfl⟩ := h.all
  unfold itLeft
  rw [h2, h1.blk]
  simp only
  show (List.filter (fun e => !seen.contains e.born) (L.map (kent kv))).length = _
  rw [List.filter_map, List.length_map]
  rfl
theorem nodup_of_keys {α β : Type} {f : α → β} : ∀ {L : List α}, (L.map f).Nodup → L.Nodup
  | [], _ => by simp
  | a :: L, h => by
    rw [List.map_cons, List.nodup_cons] at h
    exact List.nodup_cons.2 ⟨fun hm => h.1 (List.mem_map.2 ⟨a, hm, rfl⟩), nodup_of_keys h.2⟩
theorem IIter.nodup {w : World} {q : IntKind} {b r : Nat} {L rest : List IEnt} (h : IIter w q b r L rest) : rest.Nodup ∧ ∀ x ∈ rest, x ∈ L := by
  obtain ⟨c, s, seen, c0, h1, h2, _, _, _, rfl⟩ := h.all
  exact ⟨(nodup_of_keys h1.keys).sublist List.filter_sublist, fun x hx => (List.mem_filter.1 hx).1⟩
theorem KIter.nodup {κ : Type} {w : World} {kv : κ → Value} {b r : Nat} {L rest : List (KEnt κ)} (h : KIter w kv b r L rest) : rest.Nodup ∧ ∀ x ∈ rest, x ∈ L := by
  obtain ⟨c, s, seen, c0, h1, h2, _, _, _, rfl⟩ := h.all
  exact ⟨(nodup_of_keys h1.keys).sublist List.filter_sublist, fun x hx => (List.mem_filter.1 hx).1⟩
/-- One more is gone. -/
theorem gone_step {α : Type} {x : α} {rest rest' : List α} (hp : (x :: rest').Perm rest) (hn : rest.Nodup) (y : α) : y ∉ rest' ↔ y ∉ rest ∨ y = x := by
  have h1 := hp.symm.nodup_iff.1 hn
  rw [List.nodup_cons] at h1
  rw [← hp.mem_iff]
  constructor
  · intro h
    by_cases e : y = x
    · exact .inr e
    · exact .inl (by simp [e, h])
  · rintro (h | rfl)
    · exact fun hm => h (by simp [hm])
    · exact h1.1
end Go.Proofs.YteddiknlcdbhjaaGreat

namespace Go.Proofs.YteddiknlcdbhjaaGreat
open Go Go.RowKit Go.Shelf TrP
attribute [local go_sem] Oper.semAt_some

theorem KIter.walks {κ : Type} {w w' : World} {kv : κ → Value} {b r : Nat} {L rest : List (KEnt κ)} (h : KIter w kv b r L rest) (hk : KeepsWalks w w') : KIter w' kv b r L rest := by
  obtain ⟨c, s, n, c0, h1, h2, h3⟩ := h.all
  exact ⟨c, s, n, c0, ⟨hk.same b _ h1.blk rfl, h1.keys, h1.stamps, h1.lt⟩, hk.same r _ h2 rfl, h3⟩
theorem grownBy_upd0 {w w' : World} (h : Upd [] w w') : w.grownBy w' none := ⟨h.os, h.tape, h.output, h.size, fun i hi _ => h.keep i hi (by simp)⟩
theorem grownBy_upd1 {w w' : World} {r : Nat} (h : Upd [r] w w') : w.grownBy w' (some r) := ⟨h.os, h.tape, h.output, h.size, fun i hi hn => h.keep i hi (by simpa using hn)⟩

theorem findK_isSome {κ : Type} [DecidableEq κ] {L : List (KEnt κ)} {k : κ} : (findK L k).isSome = true ↔ k ∈ L.map (·.1) := by
  unfold findK
  rw [Option.isSome_map, List.find?_isSome]
  simp only [List.mem_map, beq_iff_eq, decide_eq_true_eq]
set_option maxRecDepth 100000 in
set_option maxHeartbeats 2000000 in
theorem keysE_in (F : Fence) (n : Nat) (h7 : F.fn 58) (hro : F.round = none) (hn : 1 ≤ n) (l Bm m N : Nat) (f : Ed → Option Value) (J Jx : List Ed → World → Prop) (W : World)
    (hJ : AbidesFrom W.heap.size J)
    (hY : ∀ pre x W1, J pre W1 → pre.length < N → YieldAt F (n - 1) Tryz.prog l #[kE x] W1 fun e W' =>
      (e = .returned (.bool true) ∧ J (pre ++ [x]) W' ∧ KeepsWalks W1 W') ∨ (e = .returned (.bool false) ∧ Jx (pre ++ [x]) W'))
    (hB : W.cell? ⟨Bm, 0, none⟩ = some (.map (some m))) (hM : KMap W kE m f N) (h0 : J [] W) :
    CallsIn F n Tryz.prog 58 #[.func (.yield l) #[] #[], .pointer (some ⟨Bm, 0, none⟩)] W fun e W' => (∃ v, e = .returned v) ∧
      ((∃ ys, (ys.Nodup ∧ ys.length = N ∧ ∀ x, x ∈ ys ↔ (f x).isSome = true) ∧ J ys W') ∨ (∃ pre, Jx pre W')) := by
  obtain ⟨L, w5, r5, it, hf, hke, hlen, u5, hs5⟩ := run_range_k (P := Tryz.prog) (mt := 62) Tryz.underlying62 hM
  have J5 := Lib.hid (hJ _ _ _ _ h0 (grownBy_upd0 u5) (fun r e => by cases e))
  have HJ := Lib.hid hJ
  have HY := Lib.hid hY
  have HF := Lib.hid hf
  have HKE := Lib.hid hke
  have HLEN := Lib.hid hlen
  have IT := Lib.hid it
  obtain ⟨R0, hR0⟩ : ∃ R0, W.heap.size = R0 := ⟨_, rfl⟩
  rw [hR0] at r5
  have HR0 := Lib.hid hR0
  clear hJ hY hM h0 hf hke hlen it u5 hs5 hR0
  refine callsIn_of_wp Tryz.func58 rfl h7 ?_ hro
  simp only [Tryz.ntmps58, List.size_toArray, List.length_cons, List.length_nil, Nat.reduceAdd, Nat.reduceSub, Array.replicate_succ, Array.replicate_zero, List.push_toArray, List.append_toArray, List.nil_append, List.cons_append]
  gi_wp2
  gi_loopw [3] (fun _ wq => Hid (∃ pre rest, KIter wq kE m R0 L rest ∧ J pre wq ∧ (pre ++ rest.map (·.1)).Perm (L.map (·.1)))) (fun _ wq => itLeft m R0 wq)
  case atStart => exact Lib.hid ⟨[], L, by rw [← HR0.out]; exact IT.out, J5.out, by simp⟩
  case round =>
    obtain ⟨pre, rest, hit, hj, hp0⟩ := hrel.out
    have HJJ := Lib.hid hj
    have HP0 := Lib.hid hp0
    have HLF := Lib.hid hit.left
    clear hrel hj hp0
    rcases run_next_k (P := Tryz.prog) hit 0 with ⟨hz, r2⟩ | ⟨⟨⟨xa, xb, xc⟩, xv, xs⟩, rest', w7, hp, r2, it2, u2, r3⟩
    · subst hz
      clear hit
      gi_wp2
      go_end0
      have hpp : pre.Perm (L.map (·.1)) := by simpa using HP0.out
      have hmem : ∀ x : Ed, x ∈ pre ↔ (f x).isSome = true := fun x => by rw [hpp.mem_iff, HF.out, findK_isSome]
      exact ⟨⟨_, rfl⟩, .inl ⟨pre, ⟨hpp.nodup_iff.2 HKE.out, by rw [hpp.length_eq, List.length_map, HLEN.out], fun x y z => hmem (x, y, z)⟩, HJJ.out⟩⟩
    · have hw : ∃ o : Obj, wr.heap[R0]? = some o ∧ o.isWalk = true := by
        obtain ⟨_, _, _, _, _, h2, _⟩ := hit.all
        exact ⟨_, h2, rfl⟩
      have J7 := HJ.out _ _ _ (some R0) HJJ.out (grownBy_upd1 u2) (fun r e => by cases e; exact ⟨by rw [HR0.out]; exact Nat.le_refl _, hw⟩)
      have hlt : pre.length < N := by
        have h1 := HP0.out.length_eq
        have h2 := hp.length_eq
        simp only [List.length_append, List.length_map, List.length_cons] at h1 h2
        rw [HLEN.out] at h1
        omega
      have J8 := HJ.out _ _ _ none J7 (World.grownBy_alloc w7 (.cells #[.int .i64 xa, .int .i64 xb, .int .i64 xc] 49) none) (fun r e => by cases e)
      obtain ⟨fn, tmps, assign, body, hy, hR⟩ := HY.out pre (xa, xb, xc) (w7.alloc (.cells #[.int .i64 xa, .int .i64 xb, .int .i64 xc] 49)) J8 hlt
      have hB7 : w7.cell? ⟨Bm, 0, none⟩ = w7.cell? ⟨Bm, 0, none⟩ := rfl
      have IT2 := Lib.hid it2
      have HPR : Hid ((pre ++ [(xa, xb, xc)] ++ rest'.map (·.1)).Perm (L.map (·.1))) := Lib.hid (by
        refine List.Perm.trans ?_ HP0.out
        rw [List.append_assoc]
        exact List.Perm.append_left _ (by simpa using hp.map (·.1)))
      have HLE : Hid (rest.length = rest'.length + 1) := Lib.hid (by have := hp.length_eq; simpa using this.symm)
      unfold kE kIII at r2 r3 hy
      simp only at r2 r3 hy
      clear hit hp it2 u2 hw J7 J8 hlt hB7
      gi_wp2
      refine hR.mono ?_
      rintro e W3 (⟨rfl, hJ3, hk3⟩ | ⟨rfl, hJx3⟩)
      · have IT3 := Lib.hid (IT2.out.walks ((KeepsWalks.alloc _ _).trans hk3))
        have J3 := Lib.hid hJ3
        clear hJ3 hk3 hy
        gi_wp2
        go_roundw
        case rel => exact Lib.hid ⟨_, rest', IT3.out, J3.out, HPR.out⟩
        case measure => rw [HLF.out, IT3.out.left, HLE.out]; omega
      · clear hy
        gi_wp2
        refine bodyPost_ret (results_none rfl _ _ _) rfl ?_
        exact ⟨⟨_, rfl⟩, .inr ⟨_, hJx3⟩⟩
end Go.Proofs.YteddiknlcdbhjaaGreat

namespace Go.Proofs.YteddiknlcdbhjaaGreat
open Go Go.RowKit Go.Shelf TrP
attribute [local go_sem] Oper.semAt_some

theorem keysE_ok (mb : Option Nat) (w : World) : Calls Tryz.prog 47 #[.map mb] w fun e w' => e = .returned (.func (.func 58) #[] #[.pointer (some ⟨w.heap.size, 0, none⟩)]) ∧ w.alloc (.cells #[.map mb] 62) = w' := by
  go_enter Tryz.func47, Tryz.ntmps47
  go_wp2_with fail
  go_ret
  exact ⟨rfl, rfl⟩
def EachOnce (f : Ed → Option Value) (N : Nat) (ys : List Ed) : Prop := ys.Nodup ∧ ys.length = N ∧ ∀ x, x ∈ ys ↔ (f x).isSome = true
theorem keysE_stops (F : Fence) (n : Nat) (h7 : F.fn 58) (hro : F.round = none) (hn : 1 ≤ n) (Bm m N : Nat) (f : Ed → Option Value) (w : World) (hBm : Bm < w.heap.size)
    (hc : w.cell? ⟨Bm, 0, none⟩ = some (.map (some m))) (hM : KMap w kE m f N) :
    SeqStopsK F n Tryz.prog 58 #[.pointer (some ⟨Bm, 0, none⟩)] (fun x : Ed => #[kE x]) KeepsWalks (EachOnce f N) (fun _ => True) N w := fun l J Jx W hW hJ _ hY h0 =>
  (keysE_in F n h7 hro hn l Bm m N f J Jx W hJ hY ((hW.cell (p := ⟨Bm, 0, none⟩) hBm).trans hc) (hM.upd (Upd.of_below (S := []) hW (Nat.le_refl _)) (by simp)) h0).mono fun e W' ⟨h1, h2⟩ => ⟨h1, h2.elim (fun ⟨ys, h3, h4⟩ => .inl ⟨ys, h3, h4⟩) (fun ⟨pre, h3⟩ => .inr ⟨pre, trivial, h3⟩)⟩

theorem elemE_info : ∃ i0 z, Tryz.prog.info? 49 = some i0 ∧ i0.zero = some z ∧ i0.size = 3 ∧ i0.bytes = 24 ∧ z.cells.size = 3 := by
  obtain ⟨i, z, h1, h2, h3, h4, h5⟩ := edge_elem.info
  exact ⟨i, z, h1, h2, h3, h4, h5⟩

set_option maxRecDepth 100000 in
set_option maxHeartbeats 4000000 in
theorem appendSeqE_in (F : Fence) (n : Nat) (h54 : F.fn 74) (h45 : F.fn 58) (hro : F.round = none) (hn : 3 ≤ n) (Bs N : Nat) (f : Ed → Option Value) (hlen : N ≤ 1000) (w : World)
    (hseq : SeqStopsK F (n - 1) Tryz.prog 58 #[.pointer (some ⟨Bs, 0, none⟩)] (fun x : Ed => #[kE x]) KeepsWalks (EachOnce f N) (fun _ => True) N w) :
    CallsIn F n Tryz.prog 74 #[.slice none 0 0, .func (.func 58) #[] #[.pointer (some ⟨Bs, 0, none⟩)]] w fun e w' => ∃ v L, e = .returned v ∧ EachOnce f N L ∧ w'.ownsRow w.heap.size 49 3 v L.length (flat encE L) ∧ Below w.heap.size w w' := by
  have h1 : 1 ≤ n := by omega
  obtain ⟨i0, z0, hi, hz0, hz1, hz2, hz3⟩ := elemE_info
  refine callsIn_of_wp_marks Tryz.func74 rfl h54 ?_ hro
  simp only [Tryz.ntmps74, List.size_toArray, List.length_cons, List.length_nil, Nat.reduceAdd, Nat.reduceSub, Array.replicate_succ, Array.replicate_zero, List.push_toArray, List.append_toArray, List.nil_append, List.cons_append]
  gi_wp2
  obtain ⟨W0, hW0⟩ : ∃ W0, w.alloc (.cells #[.slice none 0 0] 37) = W0 := ⟨_, rfl⟩
  have hs0 : W0.heap.size = w.heap.size + 1 := by rw [← hW0]; simp
  have hv0 : Boxed W0 w.heap.size 37 (.slice none 0 0) := by rw [← hW0]; exact Boxed.new w _ _
  have hb0 : Below w.heap.size w W0 := by rw [← hW0]; exact (Below.refl _ w).alloc (Nat.le_refl _) _
  rw [hW0]
  refine wpIn_rangeFunc_ownH (w := W0) hro h1 (gf := 58) (lb := #[.pointer (some ⟨Bs, 0, none⟩)]) rfl h45 (enters_of Tryz.func58 (by kernel_rfl) rfl)
    hseq walksK_t walksK_b hb0 (fun _ => rfl)
    (fun pre W => (∃ v, Boxed W w.heap.size 37 v ∧ W.ownsRow w.heap.size 49 3 v pre.length (flat encE pre) ∧ True) ∧ Below w.heap.size w W)
    (fun _ _ _ => False)
    (OwnFrom.and (Own.from (holdsRow_own w.heap.size w.heap.size _ _ 3 (fun pre : List Ed => pre.length) (fun pre => flat encE pre) (fun _ _ => True)) _) (ownFrom_below (Nat.le_refl _) (by omega)))
    (fun _ _ _ _ _ hs _ _ => hs)
    ⟨⟨_, hv0, own_nil _ _ _ _, trivial⟩, hb0⟩
    (fun x a' W => ∃ Bx, w.heap.size < Bx ∧ Blk W Bx 49 #[.int .i64 x.1, .int .i64 x.2.1, .int .i64 x.2.2] ∧ a' = { tmps := #[.slice none 0 0, .func (.func 58) #[] #[.pointer (some ⟨Bs, 0, none⟩)], .pointer (some ⟨w.heap.size, 0, none⟩), undef, .slice none 0 0, .pointer (some ⟨Bx, 0, none⟩), .func (.func 58) #[] #[.pointer (some ⟨Bs, 0, none⟩)], kE x, undef, undef, undef, undef, undef], defers := [] })
    (fun x a' => by
      rintro s X Y row ⟨Bx, h1, h2, h3⟩ hg hrow
      refine ⟨Bx, h1, (hg.block Bx (Blk.lt h2) (fun e => ?_)).trans h2, h3⟩
      obtain ⟨_, o, ho, hc⟩ := hrow Bx e.symm
      rw [show X.heap[Bx]? = _ from h2] at ho
      cases ho
      cases hc)
    ?assign ?body ?done ?stop
  case assign =>
    rintro l pre x W K ⟨⟨v, hv, hrow, _⟩, hB⟩ hK
    unfold kE kIII at hK ⊢
    have hvl := hv.lt
    gi_wp2
    exact hK _ _ ((KeepsOthers.alloc _ _).from _) (KeepsWalks.alloc _ _) ⟨⟨v, hv.alloc _, hrow.alloc _, trivial⟩, hB.alloc hB.size _⟩ ⟨W.heap.size, hvl, Blk.new W _ _, rfl⟩
  case body =>
    rintro l pre x a' W hl _ ⟨⟨v, hv, hrow, _⟩, hB⟩ ⟨Bx, hBx, bX, rfl⟩ hlt
    have hc0 := hv.cell
    have e0 : W.cell? ⟨Bx, 0, none⟩ = some (.int .i64 x.1) := bX.cell 0
    have e1 : W.cell? ⟨Bx, 1, none⟩ = some (.int .i64 x.2.1) := bX.cell 1
    have e2 : W.cell? ⟨Bx, 2, none⟩ = some (.int .i64 x.2.2) := bX.cell 2
    have hne : (37 : TypeId) ≠ 49 := by decide
    gi_wp2_with (gi_at_builtin; refine wpListIn_append_own _ rfl _ _ 37 rfl w.heap.size 49 i0 z0 3 24 Tryz.underlying37 hi hz0 hz1 hz2 hz3 (by decide) _ _ _ rfl (hrow.alloc _) ⟨W.heap.size, 0, none⟩ 1 1 [.int .i64 x.1, .int .i64 x.2.1, .int .i64 x.2.2] rfl rfl (news_of_blk (cs := #[.int .i64 x.1, .int .i64 x.2.1, .int .i64 x.2.2]) (Blk.new W _ _)) (by intro u hu; simp at hu; rcases hu with rfl | rfl | rfl <;> rfl) (by simp only [maxLen]; omega) (by omega) (by have := hB.size; simp; omega) ?_; intro v' w1 hown' hgrow _; obtain ⟨g', cap', rfl⟩ := ownsRow_succ hown'; obtain ⟨hv1, hv2, hr2, hk2, hb2⟩ := hv.appended hne hrow hB.size (Nat.le_refl _) hown' hgrow; have hc1 := hv1.cell; have hf1 := hv1.frozen; have hl1 := hv1.lt)
    refine ⟨hk2.from _, hk2.walks, ⟨_, hv2, ?_, trivial⟩, hB.trans hb2⟩
    rw [List.length_append, flat_append]
    exact hr2
  case done =>
    rintro D ys W hD hyl ⟨⟨v, hv, hrow, _⟩, hB⟩ hK
    have HE := Lib.hid hyl
    clear hyl
    have hc0 := hv.cell
    gi_wp2
    refine ⟨by simp, .inl ⟨_, _, rfl, run_takeDeferred hK, ?_⟩⟩
    exact ⟨_, results_tmp rfl _ _ _, v, ys, rfl, HE.out, ownsRow_putObj hrow _ hK rfl, hB.trans (belowK_b (w := w) (Nat.le_refl _) W D _ _ (by omega) hK rfl rfl)⟩
  case stop =>
    rintro D c pre W _ _ h _
    exact h.elim
end Go.Proofs.YteddiknlcdbhjaaGreat
